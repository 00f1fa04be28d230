/- Tables of spans: what is locked and unlocked, who has a byte; the example of the chapter. -/
import Derived.Test.YtngnddnbhlbjbaaVP
namespace Go.Proofs.Ytngnddnbhlbjbaa.V
open Go Go.Proofs.YtngnddnbhlbjbaaV
set_option linter.unusedVariables false
set_option linter.unusedSimpArgs false
set_option maxHeartbeats 1000000
theorem spAt_eq {l : List Sp} {k : Nat} (h : k < l.length) : l[k] = spAt l k := by
  have := spAt_get h
  rw [List.getElem?_eq_getElem h] at this
  simpa using this
theorem ok_iff (l : List Sp) : Ok l ↔ l.length ≤ 60 ∧ (∀ x ∈ l, isSp x = true) ∧ l.Pairwise (fun a b => behindS a ≤ b.from') := by
  constructor
  · intro h
    refine ⟨h.len, fun x hx => h.mem hx, ?_⟩
    rw [List.pairwise_iff_getElem]
    intro i j hi hj hij
    rw [spAt_eq hi, spAt_eq hj]
    exact h.after hij hj
  · rintro ⟨h1, h2, h3⟩
    refine ⟨h1, fun k hk => h2 _ (spAt_mem hk), fun k hk => ?_⟩
    rw [List.pairwise_iff_getElem] at h3
    have := h3 k (k + 1) (by omega) hk (by omega)
    rwa [spAt_eq (by omega), spAt_eq hk] at this
theorem Ok.filter {l : List Sp} (h : Ok l) (p : Sp → Bool) : Ok (l.filter p) := by
  rw [ok_iff] at h ⊢
  exact ⟨Nat.le_trans (List.length_filter_le _ _) h.1, fun x hx => h.2.1 x (List.mem_filter.1 hx).1, h.2.2.filter _⟩
theorem lock_ok {l : List Sp} {s : Sp} (h : lockE l s = 0) : Ok (lockL l s) ∧ lockL l s = l.take (posS l s) ++ s :: l.drop (posS l s) := by
  obtain ⟨hok, hs, hm, h60⟩ := lockE_zero h
  obtain ⟨p1, p2, p3⟩ := posS_spec l s
  have e : lockL l s = l.take (posS l s) ++ s :: l.drop (posS l s) := by unfold lockL; rw [if_pos h]
  refine ⟨?_, e⟩
  have hbs := behindS_gt hs
  have hbef : ∀ a ∈ l.take (posS l s), behindS a ≤ s.from' := fun a ha => by
    obtain ⟨j, hj, rfl⟩ := List.getElem_of_mem ha
    rw [List.length_take] at hj
    rw [List.getElem_take, spAt_eq (by omega)]
    have h1 := p2 j (by omega)
    have h2 := hm _ (spAt_mem (l := l) (k := j) (by omega))
    rw [Bool.eq_false_iff, Ne, meetS_iff] at h2
    have h3 := behindS_gt (hok.sp j (by omega))
    omega
  have haft : ∀ b ∈ l.drop (posS l s), behindS s ≤ b.from' := fun b hb => by
    obtain ⟨j, hj, rfl⟩ := List.getElem_of_mem hb
    rw [List.length_drop] at hj
    rw [List.getElem_drop, spAt_eq (by omega)]
    have h1 := p3 (by omega)
    have h2 := hm _ (spAt_mem (l := l) (k := posS l s + j) (by omega))
    rw [Bool.eq_false_iff, Ne, meetS_iff] at h2
    have h3 := behindS_gt (hok.sp (posS l s + j) (by omega))
    have h4 : s.from' ≤ (spAt l (posS l s + j)).from' := by
      cases j with
      | zero => simpa using h1
      | succ j =>
        have := hok.lt (j := posS l s) (k := posS l s + (j + 1)) (by omega) (by omega)
        omega
    omega
  rw [ok_iff] at hok
  have hpw : (l.take (posS l s) ++ l.drop (posS l s)).Pairwise (fun a b => behindS a ≤ b.from') := by rw [List.take_append_drop]; exact hok.2.2
  rw [List.pairwise_append] at hpw
  rw [ok_iff, e]
  refine ⟨by rw [List.length_append, List.length_cons, List.length_take, List.length_drop]; have := hok.1; omega, fun x hx => ?_, ?_⟩
  · rw [List.mem_append, List.mem_cons] at hx
    rcases hx with hx | rfl | hx
    · exact hok.2.1 x (List.mem_of_mem_take hx)
    · exact hs
    · exact hok.2.1 x (List.mem_of_mem_drop hx)
  · rw [List.pairwise_append, List.pairwise_cons]
    refine ⟨hpw.1, ⟨haft, hpw.2.1⟩, fun a ha b hb => ?_⟩
    rcases List.mem_cons.1 hb with rfl | hb
    · exact hbef a ha
    · exact hpw.2.2 a ha b hb
theorem unlock_back {l : List Sp} {s : Sp} (h : lockE l s = 0) : unlE (lockL l s) s = 0 ∧ unlL (lockL l s) s = l := by
  obtain ⟨hok, e⟩ := lock_ok h
  obtain ⟨_, hs, _, _⟩ := lockE_zero h
  obtain ⟨p1, p2, p3⟩ := posS_spec l s
  have hlt : (l.take (posS l s)).length = posS l s := by rw [List.length_take]; omega
  have hk : posS l s < (lockL l s).length := by rw [e, List.length_append, List.length_cons, hlt]; omega
  have hat : spAt (lockL l s) (posS l s) = s := by
    have h1 := spAt_get hk
    rw [e, List.getElem?_append_right (by omega), hlt, Nat.sub_self] at h1
    simp only [List.getElem?_cons_zero, Option.some.injEq] at h1
    rw [e]; exact h1.symm
  have hi : idxS (spEq s) (lockL l s) = (posS l s : Int) := idxS_yes hk (by rw [hat]; exact (spEq_iff _ _).2 rfl) (fun j hj => by
    rw [Bool.eq_false_iff, Ne, spEq_iff]
    intro h2
    have := hok.inj (by omega) hk (h2.symm.trans hat.symm)
    omega)
  have he : unlE (lockL l s) s = 0 := by
    unfold unlE
    rw [if_pos (by rw [Bool.and_eq_true, validS_iff]; exact ⟨hok, hs⟩), hi, if_neg (by omega)]
  refine ⟨he, ?_⟩
  unfold unlL
  rw [if_pos he, hi]
  simp only [Int.toNat_natCast]
  rw [e, List.take_append_of_le_length (by omega), List.take_of_length_le (by omega)]
  have : (l.take (posS l s) ++ s :: l.drop (posS l s)).drop (posS l s + 1) = l.drop (posS l s) := by
    rw [List.drop_append, List.drop_of_length_le (by omega), hlt, List.nil_append]
    simp
  rw [this, List.take_append_drop]
theorem may_alone {l : List Sp} (hok : Ok l) {b : Int} (hb : 1 ≤ b) : mayE (l.filter (fun x => decide (x.by' = b))) ⟨b, 0, 2147483647⟩ = 0 ∧ mayS (l.filter (fun x => decide (x.by' = b))) ⟨b, 0, 2147483647⟩ = true := by
  have hmo : mayOkS (l.filter (fun x => decide (x.by' = b))) ⟨b, 0, 2147483647⟩ = true := by
    unfold mayOkS inB
    simp only [Bool.and_eq_true, decide_eq_true_eq, validS_iff]
    exact ⟨hok.filter _, hb, by omega, by omega⟩
  refine ⟨by unfold mayE; rw [if_pos hmo], ?_⟩
  unfold mayS
  rw [hmo]
  simp only [Bool.true_and, Bool.not_eq_true', Bool.and_eq_false_iff, List.any_eq_false]
  refine .inr fun x hx => ?_
  have := (List.mem_filter.1 hx).2
  simp_all
def covS (s : Sp) (n : Int) : Bool := decide (s.from' ≤ n) && (decide (s.many = -1) || decide (n < IntKind.i64.wrap (s.from' + s.many)))
def ownK (l : List Sp) (n : Int) (k : Nat) : Int := match (l.take k).find? (fun s => covS s n) with
  | some s => s.by'
  | none => 0
theorem covS_iff {s : Sp} (h : isSp s = true) {n : Int} (hn : n ≤ 2147483647) : covS s n = true ↔ s.from' ≤ n ∧ n < behindS s := by
  have h2 := behindS_of h
  have h3 := (isSp_iff s).1 h
  have e : IntKind.i64.wrap (s.from' + s.many) = s.from' + s.many := by rw [IntKind.wrap_i64]; omega
  unfold covS
  rw [e, h2]
  simp only [Bool.and_eq_true, Bool.or_eq_true, decide_eq_true_eq]
  split <;> omega
theorem Ok.cov {l : List Sp} (h : Ok l) {n : Int} (hn : n ≤ 2147483647) {j k : Nat} (hj : j < l.length) (hk : k < l.length) (h1 : covS (spAt l j) n = true) (h2 : covS (spAt l k) n = true) : j = k := by
  rw [covS_iff (h.sp _ hj) hn] at h1
  rw [covS_iff (h.sp _ hk) hn] at h2
  rcases Nat.lt_trichotomy j k with h3 | h3 | h3
  · have := h.after h3 hk; omega
  · exact h3
  · have := h.after h3 hj; omega
theorem ownK_none {l : List Sp} {n : Int} {k : Nat} (hk : k ≤ l.length) (h : ∀ j, j < k → covS (spAt l j) n = false) : ownK l n k = 0 := by
  unfold ownK
  have : (l.take k).find? (fun s => covS s n) = none := by
    rw [List.find?_eq_none]
    intro x hx
    obtain ⟨j, hj, rfl⟩ := List.getElem_of_mem hx
    rw [List.length_take] at hj
    rw [List.getElem_take]
    have h2 := spAt_get (l := l) (k := j) (by omega)
    rw [List.getElem?_eq_getElem (by omega)] at h2
    simp only [Option.some.injEq] at h2
    rw [h2, h j (by omega)]; simp
  rw [this]
theorem ownK_succ {l : List Sp} {n : Int} {k : Nat} (hk : k < l.length) (h : covS (spAt l k) n = false) : ownK l n (k + 1) = ownK l n k := by
  unfold ownK
  rw [take_succ_at hk, List.find?_append]
  cases (l.take k).find? (fun s => covS s n) <;> simp [h]
theorem ownK_here {l : List Sp} {n : Int} {k : Nat} (hk : k < l.length) (h : covS (spAt l k) n = true) (h0 : ∀ j, j < k → covS (spAt l j) n = false) : ownK l n (k + 1) = (spAt l k).by' := by
  have : (l.take k).find? (fun s => covS s n) = none := by
    rw [List.find?_eq_none]
    intro x hx
    obtain ⟨j, hj, rfl⟩ := List.getElem_of_mem hx
    rw [List.length_take] at hj
    rw [List.getElem_take]
    have h2 := spAt_get (l := l) (k := j) (by omega)
    rw [List.getElem?_eq_getElem (by omega)] at h2
    simp only [Option.some.injEq] at h2
    rw [h2, h0 j (by omega)]; simp
  unfold ownK
  rw [take_succ_at hk, List.find?_append, this]
  simp [h]
/-- Whether a byte may be written is told by who has it. -/
theorem may_own {l : List Sp} (hok : Ok l) {n who : Int} (hn0 : 0 ≤ n) (hn : n ≤ 2147483647) (hw : 1 ≤ who) : mayE l ⟨who, n, 1⟩ = 0 ∧ mayS l ⟨who, n, 1⟩ = (decide (ownK l n l.length = 0) || decide (ownK l n l.length = who)) := by
  have ht : isSp ⟨who, n, 1⟩ = true := by rw [isSp_iff]; simp only; omega
  have hbt : behindS ⟨who, n, 1⟩ = n + 1 := by rw [behindS_of ht]; simp
  have hmo : mayOkS l ⟨who, n, 1⟩ = true := by
    unfold mayOkS inB
    simp only [Bool.and_eq_true, decide_eq_true_eq, validS_iff]
    exact ⟨hok, hw, ⟨hn0, hn⟩, by omega, by omega⟩
  have hmc : ∀ k, k < l.length → meetS ⟨who, n, 1⟩ (spAt l k) = covS (spAt l k) n := fun k hk => by
    have h1 := behindS_gt (hok.sp k hk)
    rw [Bool.eq_iff_iff, meetS_iff, covS_iff (hok.sp k hk) hn, hbt]
    simp only
    omega
  refine ⟨by unfold mayE; rw [if_pos hmo], ?_⟩
  unfold mayS
  rw [hmo]
  simp only [show (0 : Int) < 1 by omega, decide_true, Bool.true_and]
  by_cases hx : ∃ k, k < l.length ∧ covS (spAt l k) n = true
  · obtain ⟨k, hk, hc⟩ := hx
    have h0 : ∀ j, j < l.length → j ≠ k → covS (spAt l j) n = false := fun j hj hne => by
      rw [Bool.eq_false_iff]
      exact fun h => hne (hok.cov hn hj hk h hc)
    have e : ∀ m, k < m → m ≤ l.length → ownK l n m = (spAt l k).by' := by
      intro m
      induction m with
      | zero => intro h _; omega
      | succ m ih =>
        intro h1 h2
        rcases Nat.lt_or_ge k m with h3 | h3
        · rw [ownK_succ (by omega) (h0 m (by omega) (by omega))]
          exact ih h3 (by omega)
        · obtain rfl : k = m := by omega
          exact ownK_here hk hc (fun j hj => h0 j (by omega) (by omega))
    rw [e l.length hk (Nat.le_refl _)]
    have hb : 1 ≤ (spAt l k).by' := ((isSp_iff _).1 (hok.sp k hk)).1
    have e0 : decide ((spAt l k).by' = 0) = false := decide_eq_false (by omega)
    rw [e0, Bool.false_or]
    rw [Bool.eq_iff_iff, Bool.not_eq_true', List.any_eq_false, decide_eq_true_eq]
    constructor
    · intro h
      have h1 := h _ (spAt_mem hk)
      rw [hmc k hk, hc] at h1
      simpa using h1
    · intro h x hxm
      obtain ⟨j, hj, rfl⟩ := mem_spAt hxm
      rw [hmc j hj]
      by_cases hjk : j = k
      · subst hjk; simp [h]
      · rw [h0 j hj hjk]; simp
  · have h0 : ∀ j, j < l.length → covS (spAt l j) n = false := fun j hj => by
      rw [Bool.eq_false_iff]
      exact fun h => hx ⟨j, hj, h⟩
    rw [ownK_none (Nat.le_refl _) h0]
    simp only [decide_true, Bool.true_or, Bool.not_eq_true', List.any_eq_false]
    intro x hxm
    obtain ⟨j, hj, rfl⟩ := mem_spAt hxm
    rw [hmc j hj, h0 j hj]; simp
theorem awake1 : lockE [] ⟨1, 10, -1⟩ = 0 := by decide
theorem awake2 : lockL [] ⟨1, 10, -1⟩ = [⟨1, 10, -1⟩] := by decide
theorem awake3 : lockE [⟨1, 10, -1⟩] ⟨2, 0, 10⟩ = 0 := by decide
theorem awake4 : lockE [⟨1, 10, -1⟩] ⟨2, 0, 11⟩ = 201 := by decide
attribute [local irreducible] IntKind.wrap
variable {I : Imm} {w : World} {L : List Asn}
theorem nilR : SlS I L (.slice none 0 0) [] := ⟨none, 0, rfl, by simp, Nat.le_refl _, fun _ => ⟨rfl, rfl⟩, fun a ha => by cases ha⟩
theorem Awake_any (H : Holds I w L) : Rets Try.prog F_tithinglaw20_Awake #[] w fun u w' => u = .bool true ∧ Holds I w' L := by
  have c1 : ∀ w, Holds I w L → Rets Try.prog F_lock_Lock #[.slice none 0 0, spV ⟨1, 10, -1⟩] w fun u w' => ∃ sv, u = .tuple #[sv, .int .i64 0] ∧ Holds I w' (ownS sv [⟨1, 10, -1⟩] :: L) := fun w H => by
    have := Lock_any H nilR (by simp) ⟨1, 10, -1⟩
    rwa [awake1, awake2] at this
  have c2 : ∀ v w, Holds I w (ownS v [⟨1, 10, -1⟩] :: L) → Rets Try.prog F_lock_Lock #[v, spV ⟨2, 0, 10⟩] w fun u w' => ∃ sv, u = .tuple #[sv, .int .i64 0] ∧ Holds I w' (ownS v [⟨1, 10, -1⟩] :: L) := fun v w H => by
    have := Lock_any H H.own_toR (by simp) ⟨2, 0, 10⟩
    rw [awake3] at this
    exact this.mono fun u w' ⟨sv, e, h⟩ => ⟨sv, e, h.drop⟩
  have c3 : ∀ v w, Holds I w (ownS v [⟨1, 10, -1⟩] :: L) → Rets Try.prog F_lock_Lock #[v, spV ⟨2, 0, 11⟩] w fun u w' => ∃ sv, u = .tuple #[sv, .int .i64 201] ∧ Holds I w' (ownS v [⟨1, 10, -1⟩] :: L) := fun v w H => by
    have := Lock_any H H.own_toR (by simp) ⟨2, 0, 11⟩
    rw [awake4] at this
    exact this.mono fun u w' ⟨sv, e, h⟩ => ⟨sv, e, h.drop⟩
  refine ok_tithinglaw20_Awake.rets rfl ?_
  repeat' (first
    | (show VcL _ _ _ _ _ _ _ _; first
      | refine VcL.pures tabOk rfl ?_
      | refine VcL.nil ?_
      | (show VcL _ _ _ _ (⟨_, .binOp _ _ _ _ _, _, _, _, _⟩ :: _) _ _ _; first
      | refine VcL.eqS tabOk rfl rfl rfl rfl rfl rfl (by kernel_rfl) (by kernel_rfl) rfl rfl (by first | exact .inl rfl | exact .inr rfl) ?_)
      | (show VcL _ _ _ _ (⟨_, .call ⟨.value (.func F_lock_Lock), _, _⟩, _, _, _, _⟩ :: _) _ _ _; first
      | (refine VcL.callF ok_lock_Lock rfl rfl rfl rfl (Rets.mono (c1 _ H) ?_); rintro _ w ⟨sv1, rfl, H⟩))
      | (show VcL _ _ _ _ (⟨_, .call ⟨.value (.func F_lock_Lock), _, _⟩, _, _, _, _⟩ :: _) _ _ _; first
      | (refine VcL.callF ok_lock_Lock rfl rfl rfl rfl (Rets.mono (c2 _ _ H) ?_); rintro _ w ⟨sv2, rfl, H⟩))
      | (show VcL _ _ _ _ (⟨_, .call ⟨.value (.func F_lock_Lock), _, _⟩, _, _, _, _⟩ :: _) _ _ _; first
      | (refine VcL.callF ok_lock_Lock rfl rfl rfl rfl (Rets.mono (c3 _ _ H) ?_); rintro _ w ⟨sv3, rfl, H⟩))
      | (refine VcL.guard rfl rfl rfl rfl (fun h => ?_) (fun h => ?_) <;> first | (cases h; done) | (exfalso; simp only [decide_eq_true_eq, decide_eq_false_iff_not] at h; omega) | (with_reducible have hp := of_decide_eq_true h) | (with_reducible have hp := of_decide_eq_false h) | (with_reducible have hp := ndec_t h) | (with_reducible have hp := ndec_f h) | skip))
    | (show Vc _ _ _ _ _ _; first
      | refine Vc.seq ?_
      | refine Vc.region ?_
      | refine Vc.condT rfl ?_
      | refine Vc.condF rfl ?_
      | refine Vc.ret ?_
      | refine Vc.skip ?_
      | refine Vc.block ?_
      | refine Vc.exit ?_
      | (refine Vc.cond rfl (fun h => ?_) (fun h => ?_) <;> first | (cases h; done) | (exfalso; simp only [decide_eq_true_eq, decide_eq_false_iff_not] at h; omega) | (with_reducible have hp := of_decide_eq_true h) | (with_reducible have hp := of_decide_eq_false h) | (with_reducible have hp := ndec_t h) | (with_reducible have hp := ndec_f h) | skip))
    | (show KSeq _ _ _ _ _ _ _; first
      | refine KSeq.normal ?_
      | refine KSeq.ret ?_
      | refine KSeq.exit ?_)
    | (show KBlock _ _ _ _ _; first
      | refine KBlock.normal ?_
      | refine KBlock.here ?_
      | refine KBlock.on rfl ?_
      | refine KBlock.ret ?_)
    | refine KLoop.exit ?_
    | refine KLoop.ret ?_
    | refine KCut.exit ?_
    | refine KCut.ret ?_
    | (show KEnd _ _ _ _ _ _; first
      | refine KEnd.mk (Or.inr rfl) ⟨_, (ResL.tmp rfl ResL.nil), ?_⟩
      | refine KEnd.mk (Or.inl rfl) ⟨_, (ResL.tmp rfl ResL.nil), ?_⟩))
  exact ⟨rfl, H.drop⟩
end Go.Proofs.Ytngnddnbhlbjbaa.V
