/- Whether the blocks of a store are of such bytes. -/
import Derived.Test.YtkeapkmjkmbdpaaVVV
namespace Go.Proofs.Ytkeapkmjkmbdpaa.V
open Go Go.Proofs.YtkeapkmjkmbdpaaV
set_option linter.unusedVariables false
set_option linter.unusedSimpArgs false
set_option maxHeartbeats 1000000
set_option maxRecDepth 4000
attribute [local irreducible] IntKind.wrap
variable {I : Imm} {w : World} {L : List Asn}
theorem filled_any {s d ho : Nat} {D : Dk} (H : Holds I w (dskA d D :: blk s 55 (stV d (ho : Nat) false) :: L)) (hw : D.writes + 10 < 2 ^ 40) (hh : ho ≤ D.blocks.length) {v : Value} {xs : By} (hv : SlI I v 1 xs.length (byL xs)) (hl : xs.length = ho) :
    Rets Try.prog F_tithingtop_filled #[ptr s, v] w fun u w' => u = .bool (decide (homeS D ho = xs.map fullB)) ∧ Holds I w' (dskA d D :: blk s 55 (stV d (ho : Nat) false) :: L) := by
  have hok := dsk_ok H
  have hfew := hok.few
  obtain ⟨A, cap, rfl, hcap⟩ := hv.form
  refine ok_tithingtop_filled.rets rfl ?_
  repeat' (first
    | (show VcL _ _ _ _ _ _ _ _; first
      | refine VcL.pures tabOk rfl ?_
      | refine VcL.nil ?_)
    | (show Vc _ _ _ _ _ _; first
      | refine Vc.seq ?_
      | refine Vc.region ?_
      | refine Vc.block ?_)
    | (show KSeq _ _ _ _ _ _ _; refine KSeq.normal ?_))
  refine Vc.loopS [(0, _), (1, _)] (fun k : Nat => [(5, .int .i64 k)]) (fun k w => k ≤ ho ∧ (∀ j, j < k → rdB D j = fullB (atD xs j)) ∧ Holds I w (dskA d D :: blk s 55 (stV d (ho : Nat) false) :: L)) (fun k _ => ho - k) 0 ⟨rfl, trivial⟩ ⟨rfl, rfl, trivial⟩ ⟨Nat.zero_le _, fun j hj => absurd hj (by omega), H⟩ ?_
  clear H
  rintro k w ⟨hk, hall, H⟩
  by_cases hlt : k < ho
  · obtain ⟨b1, o1, rfl, hrI⟩ := hv.at (by omega)
    have hrI := (byL_flat xs ▸ hrI).elem byC_len (atD_get (show k < xs.length by omega))
    obtain ⟨x, hx⟩ : ∃ x, atD xs k = x := ⟨_, rfl⟩
    rw [hx] at hrI
    have hrI : RdI I b1 (o1 + k * 1) [byteV x] := hrI
    have hsr : srdS D ho false (k : Nat) = (rdB D k, 0) := by
      unfold srdS
      rw [if_neg (by decide), if_pos ⟨by omega, by omega⟩]
      rfl
    obtain ⟨rd, hrd⟩ : ∃ rd, rdB D k = rd := ⟨_, rfl⟩
    rw [hrd] at hsr
    obtain ⟨fb, hfb⟩ : ∃ fb, fullB x = fb := ⟨_, rfl⟩
    have hfl : fb.length = 256 := by rw [← hfb]; exact fullB_len x
    have hne : ¬ rd = fb → decide (homeS D ho = xs.map fullB) = false := fun hp => decide_eq_false fun e => by
      have e2 : atD (homeS D ho) k = atD (xs.map fullB) k := by rw [e]
      rw [homeS_at hlt, atD_of (show (xs.map fullB)[k]? = some (fullB (atD xs k)) by rw [List.getElem?_map, atD_get (by omega)]; rfl), hx, hrd, hfb] at e2
      exact hp e2
    have hyes : rd = fb → ∀ j, j < k + 1 → rdB D j = fullB (atD xs j) := fun hp j hj => by
      rcases Nat.lt_or_ge j k with h1 | h1
      · exact hall j h1
      · obtain rfl : j = k := by omega
        rw [hx, hrd, hfb]
        exact hp
    repeat' (first
      | (refine EfO.eff rfl rfl rfl rfl (OpE.ofBytes (m := 256) (bs := fb) tabOk rfl rfl rfl rfl rfl rfl rfl rfl (by exact Holds.own_src H) ⟨_, _, rfl⟩) ?_; rintro _ w ⟨rfl, he⟩; subst he; refine ⟨RdI.rd hrI H, ?_⟩)
      | (refine EfO.eff rfl rfl rfl rfl (OpE.ofBytes (m := rd.length) (bs := rd) tabOk rfl rfl rfl rfl rfl rfl rfl rfl (by first | exact Holds.own_src H | exact Holds.own_src (Holds.f1 H)) ⟨_, _, rfl⟩) ?_; rintro _ w ⟨rfl, he⟩; subst he; refine ⟨RdI.rd hrI H, ?_⟩)
      | (refine VcD.eff rfl rfl rfl rfl (OpE.ofBytes (m := 256) (bs := fb) tabOk rfl rfl rfl rfl rfl rfl rfl rfl (by exact Holds.own_src H) ⟨_, _, rfl⟩) ?_; rintro _ w ⟨rfl, he⟩; subst he; refine ⟨RdI.rd hrI H, ?_⟩)
      | (refine VcD.eff rfl rfl rfl rfl (OpE.ofBytes (m := rd.length) (bs := rd) tabOk rfl rfl rfl rfl rfl rfl rfl rfl (by first | exact Holds.own_src H | exact Holds.own_src (Holds.f1 H)) ⟨_, _, rfl⟩) ?_; rintro _ w ⟨rfl, he⟩; subst he; refine ⟨RdI.rd hrI H, ?_⟩)
      | rw [str_eq]
      | (show VcL _ _ _ _ _ _ _ _; first
      | refine VcL.pures tabOk rfl ?_
      | refine VcL.nil ?_
      | (show VcL _ _ _ _ (⟨_, .call ⟨.value (.func F_journal_Store_Read), _, _⟩, _, _, _, _⟩ :: _) _ _ _; (refine VcL.callF ok_journal_Store_Read rfl rfl rfl rfl (Rets.mono (SRead_any (D := D) (ho := ho) (dead := false) H Holds.toW (by omega) hh (k : Nat)) ?_); rintro _ w ⟨uv, rfl, H⟩; rw [hsr] at H ⊢; obtain ⟨_, A7, c7, rfl⟩ := Holds.own_len H)))
      | (show VcD _ _ _ _ _ _ _ _ _; first
      | refine VcD.pures tabOk rfl ?_
      | refine VcD.done ?_
      | (show VcD _ _ _ _ _ (.pure _ _) _ _ _; first
      | refine VcD.indexAddr tabOk rfl rfl rfl rfl rfl rfl rfl (by omega) (by omega) ?_
      | (refine VcD.guardP rfl rfl rfl rfl rfl (fun h => ?_) (fun h => ?_) <;> first | (cases h; done) | (with_reducible have hp := ndec_f h)))
      | (show VcD _ _ _ _ _ (.take _ _) _ _ _; refine VcD.load1 tabOk rfl rfl rfl rfl rfl rfl (by intro w_ hw_; exact hw_ 0 _ rfl) (by exact rfl) ?_)
      | (show VcD _ _ _ _ _ (.only _ _) _ _ _; (refine VcD.callF (f := F_tithinglaw16_Full) rfl ok_tithinglaw16_Full rfl rfl rfl rfl (Rets.mono (Full_any H x) ?_); rintro _ w H; rw [hfb] at H; obtain ⟨_, A8, c8, rfl⟩ := Holds.own_len H; refine ⟨(by exact RdI.rd (by assumption) H), ?_⟩))
      | (show VcD _ _ _ _ _ (.two _ _ _ _) _ _ _; refine VcD.two ?_ ?_))
      | (show EfO _ _ _ _ _ _ _ _ _; (refine EfO.call (f := F_tithinglaw16_Full) rfl rfl rfl rfl (OpC.call ok_tithinglaw16_Full rfl) (Rets.mono (Full_any H x) ?_); rintro _ w H; rw [hfb] at H; obtain ⟨_, A8, c8, rfl⟩ := Holds.own_len H; refine ⟨(by exact RdI.rd (by assumption) H), ?_⟩))
      | (show Vc _ _ _ _ _ _; first
      | refine Vc.seq ?_
      | refine Vc.region ?_
      | refine Vc.ret ?_
      | refine Vc.skip ?_
      | refine Vc.block ?_
      | (refine Vc.drawn (id := 5) (.pure 0 (.pure 1 (.pure 2 (.pure 3 (.pure 5 (.pure 6 (.pure 7 (.take 8 (.two 4 9 (.only 9 (.only 10 (.pure 11 (.pure 12 .done)))) (.two 4 10 (.only 10 (.pure 11 (.pure 12 .done))) (.only 4 (.pure 11 (.pure 12 .done))))))))))))) (.one (fun w => Rd w b1 (o1 + k * 1) [byteV x])) mixed (by kernel_rfl) (by exact RdI.rd (by assumption) (Holds.drew H _)) ?_; have H := H.drew (w.drawn + 1))
      | (refine Vc.cond rfl (fun h => ?_) (fun h => ?_) <;> first | (exfalso; simp only [decide_eq_true_eq, decide_eq_false_iff_not, Bool.not_eq_true', Bool.not_eq_false'] at h; omega) | (with_reducible have hp := of_decide_eq_true h) | (with_reducible have hp := ndec_t h) | (with_reducible have hp := ndec_f h)))
      | (show KSeq _ _ _ _ _ _ _; first
      | refine KSeq.normal ?_
      | refine KSeq.ret ?_)
      | (show KBlock _ _ _ _ _ _; first
      | refine KBlock.normal ?_
      | refine KBlock.ret ?_)
      | refine KLoop.ret ?_
      | (show KEnd _ _ _ _ _ _ _; refine KEnd.fin (Or.inr rfl) ⟨_, (ResL.tmp rfl ResL.nil), ?_⟩))
    all_goals first
      | exact ⟨by rw [hne (by assumption)]; rfl, Holds.drop (Holds.drop H)⟩
      | exact KLoop.again (k + 1) ⟨got_succ rfl (by omega), trivial⟩ ⟨rfl, rfl, trivial⟩ ⟨hlt, hyes (by assumption), Holds.drop (Holds.drop H)⟩ (by omega)
  · obtain rfl : k = ho := by omega
    repeat' (first
      | (show VcL _ _ _ _ _ _ _ _; first
      | refine VcL.pures tabOk rfl ?_
      | refine VcL.nil ?_)
      | (show Vc _ _ _ _ _ _; first
      | refine Vc.seq ?_
      | refine Vc.region ?_
      | refine Vc.ret ?_
      | refine Vc.exit ?_
      | (refine Vc.cond rfl (fun h => ?_) (fun h => ?_) <;> first | (exfalso; simp only [decide_eq_true_eq, decide_eq_false_iff_not, Bool.not_eq_true', Bool.not_eq_false'] at h; omega) | (with_reducible have hp := of_decide_eq_false h)))
      | (show KSeq _ _ _ _ _ _ _; first
      | refine KSeq.normal ?_
      | refine KSeq.exit ?_)
      | (show KBlock _ _ _ _ _ _; refine KBlock.here ?_)
      | refine KLoop.exit ?_
      | (show KEnd _ _ _ _ _ _ _; refine KEnd.fin (Or.inr rfl) ⟨_, (ResL.tmp rfl ResL.nil), ?_⟩))
    refine ⟨?_, H⟩
    have e : homeS D k = xs.map fullB := ext_atD (by rw [homeS_len, List.length_map, hl]) (fun j hj => by
      rw [homeS_len] at hj
      rw [homeS_at hj, hall j hj, atD_of (show (xs.map fullB)[j]? = some (fullB (atD xs j)) by rw [List.getElem?_map, atD_get (by omega)]; rfl)])
    rw [decide_eq_true e]
    rfl
/-! ### What a put makes of the bytes -/
def evenAt (bs : List Int) (k : Nat) : Prop := k < bs.length ∧ (atD bs k).tmod 2 = 0
instance (bs : List Int) (k : Nat) : Decidable (evenAt bs k) := by unfold evenAt; infer_instance
def stepB (old : By) (bs : List Int) (c : UInt8) : Nat → By
  | 0 => old
  | k + 1 => if evenAt bs k then (stepB old bs c k).set k c else stepB old bs c k
def stepW (bs : List Int) (c : UInt8) : Nat → Ws
  | 0 => []
  | k + 1 => if evenAt bs k then stepW bs c k ++ [((k : Int), fullB c)] else stepW bs c k
theorem stepB_len (old : By) (bs : List Int) (c : UInt8) : ∀ k, (stepB old bs c k).length = old.length
  | 0 => rfl
  | k + 1 => by
    unfold stepB
    split
    · rw [List.length_set]; exact stepB_len old bs c k
    · exact stepB_len old bs c k
theorem stepW_in (bs : List Int) (c : UInt8) : ∀ k, (∀ x ∈ stepW bs c k, 0 ≤ x.1 ∧ x.1 < k ∧ x.2 = fullB c) ∧ ((stepW bs c k).map (·.1)).Nodup ∧ (stepW bs c k).length ≤ k
  | 0 => ⟨fun x hx => (by cases hx), List.nodup_nil, Nat.le_refl _⟩
  | k + 1 => by
    obtain ⟨h1, h2, h3⟩ := stepW_in bs c k
    unfold stepW
    split
    · refine ⟨fun x hx => ?_, ?_, by rw [List.length_append]; simp only [List.length_cons, List.length_nil]; omega⟩
      · rcases List.mem_append.1 hx with hx | hx
        · have := h1 x hx; exact ⟨this.1, by omega, this.2.2⟩
        · rw [List.mem_singleton] at hx
          subst hx
          exact ⟨by show (0 : Int) ≤ (k : Int); omega, by show (k : Int) < ((k + 1 : Nat) : Int); omega, rfl⟩
      · rw [List.map_append, List.nodup_append]
        refine ⟨h2, by simp, fun a ha b hb e => ?_⟩
        obtain ⟨x, hx, rfl⟩ := List.mem_map.1 ha
        simp only [List.map_cons, List.map_nil, List.mem_singleton] at hb
        have := h1 x hx
        omega
    · exact ⟨fun x hx => by have := h1 x hx; exact ⟨this.1, by omega, this.2.2⟩, h2, by omega⟩
theorem stepW_asked (bs : List Int) (c : UInt8) {n : Nat} (hn : n ≤ 10) : asked n (stepW bs c n) = 0 := by
  obtain ⟨h1, h2, h3⟩ := stepW_in bs c n
  unfold asked
  rw [if_pos ⟨fun x hx => by have := h1 x hx; exact ⟨this.1, this.2.1, by rw [this.2.2]; exact fullB_len c⟩, h2⟩, if_neg (by omega)]
theorem putK_snoc (ws : Ws) (x : Int × By) (k : Nat) (o : By) : putK (ws ++ [x]) k o = if x.1.toNat = k then x.2 else putK ws k o := by
  unfold putK
  rw [List.foldl_append]
  rfl
theorem step_put (old : By) (bs : List Int) (c : UInt8) {j : Nat} (hj : j < old.length) : ∀ k, k ≤ old.length → putK (stepW bs c k) j (fullB (atD old j)) = fullB (atD (stepB old bs c k) j)
  | 0, _ => rfl
  | k + 1, hk => by
    have ih := step_put old bs c hj k (by omega)
    unfold stepW stepB
    split
    · rw [putK_snoc]
      show (if (k : Int).toNat = j then fullB c else _) = _
      split
      · rename_i e
        obtain rfl : k = j := by omega
        rw [atD_set_eq (by rw [stepB_len]; exact hj)]
      · rename_i e
        rw [atD_set_ne (by omega), ih]
    · exact ih
theorem after_step (old : By) (bs : List Int) (c : UInt8) (hn : old.length ≤ 10) : afterS (old.map fullB) (stepW bs c old.length) = (stepB old bs c old.length).map fullB := by
  refine ext_atD (by rw [afterS_len, List.length_map, List.length_map, stepB_len]) fun j hj => ?_
  rw [afterS_len, List.length_map] at hj
  rw [afterS_at (n := old.length) (List.length_map ..) (stepW_asked bs c hn), atD_of (show (old.map fullB)[j]? = some (fullB (atD old j)) by rw [List.getElem?_map, atD_get hj]; rfl), step_put old bs c hj _ (Nat.le_refl _)]
  exact (atD_of (by rw [List.getElem?_map, atD_get (by rw [stepB_len]; exact hj)]; rfl)).symm
/-- What a commit that is asked for rightly answers. -/
theorem commit_answers {n : Nat} {D : Dk} {ws : Ws} (h : asked n ws = 0) : (commitS D n false ws).2.2 = 0 ∨ (commitS D n false ws).2.2 = 160 := by
  unfold commitS
  rw [if_neg (by decide), if_neg (fun hh => hh h)]
  split
  · exact .inl rfl
  · cases (comS D n ws).2 with
    | true => exact .inl rfl
    | false => exact .inr rfl
/-- A commit that is answered with OK leaves a store that is alive. -/
theorem commit_alive {n : Nat} {D : Dk} {ws : Ws} (h : asked n ws = 0) (h0 : (commitS D n false ws).2.2 = 0) : (commitS D n false ws).2.1 = false := by
  unfold commitS at h0 ⊢
  rw [if_neg (by decide), if_neg (fun hh => hh h)] at h0 ⊢
  split
  · rfl
  · rename_i hne
    rw [if_neg hne] at h0
    cases hc : (comS D n ws).2 with
    | true => rfl
    | false => rw [hc] at h0; exact absurd (show (160 : Int) = 0 from h0) (by decide)
end Go.Proofs.Ytkeapkmjkmbdpaa.V
