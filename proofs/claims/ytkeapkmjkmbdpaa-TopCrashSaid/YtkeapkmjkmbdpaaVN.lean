/- Heads: which blocks are such. -/
import Derived.Test.YtkeapkmjkmbdpaaVM
namespace Go.Proofs.Ytkeapkmjkmbdpaa.V
open Go Go.Proofs.YtkeapkmjkmbdpaaV
set_option linter.unusedVariables false
set_option linter.unusedSimpArgs false
set_option maxHeartbeats 1000000
set_option maxRecDepth 4000
attribute [local irreducible] IntKind.wrap
variable {I : Imm} {w : World} {L : List Asn}
def markB : By := [74, 82, 78, 76]
def tgtAt (b : By) (i : Nat) : Int := (num b (6 + 2 * i) : Nat)
def tgts (b : By) (m : Nat) : List Int := (List.range m).map (tgtAt b)
theorem tgts_len (b : By) (m : Nat) : (tgts b m).length = m := by unfold tgts; simp
theorem tgts_succ (b : By) (m : Nat) : tgts b (m + 1) = tgts b m ++ [tgtAt b m] := by unfold tgts; rw [List.range_succ, List.map_append]; rfl
theorem tgts_at {b : By} {m i : Nat} (h : i < m) : (tgts b m)[i]? = some (tgtAt b i) := by unfold tgts; rw [List.getElem?_map, List.getElem?_range h]; rfl
theorem tgts_pre (b : By) {m : Nat} : ∀ {n : Nat}, m ≤ n → ∃ r, tgts b n = tgts b m ++ r := by
  intro n
  induction n with
  | zero => intro h; obtain rfl : m = 0 := by omega
            exact ⟨[], by simp⟩
  | succ n ih =>
    intro h
    rcases Nat.lt_or_ge n m with h1 | h1
    · obtain rfl : m = n + 1 := by omega
      exact ⟨[], by simp⟩
    · obtain ⟨r, hr⟩ := ih h1
      exact ⟨r ++ [tgtAt b n], by rw [tgts_succ, hr, List.append_assoc]⟩
abbrev isZ (c : UInt8) : Bool := decide (c.toNat = 0)
def headOk (b : By) (home : Int) : Prop := b.length = 256 ∧ b.take 4 = markB ∧ 1 ≤ num b 4 ∧ num b 4 ≤ 40 ∧ (∀ x ∈ tgts b (num b 4), x < home) ∧ (tgts b (num b 4)).Nodup ∧ (b.drop (8 + 2 * num b 4)).all isZ = true
open Classical in
noncomputable def placesS (b : By) (home : Int) : Option (List Int) := if headOk b home then some (tgts b (num b 4)) else none
theorem places_none {b : By} {home : Int} (h : ¬ headOk b home) : placesS b home = none := if_neg h
theorem places_some {b : By} {home : Int} (h : headOk b home) : placesS b home = some (tgts b (num b 4)) := if_pos h
structure TgtR (I : Imm) (w : World) (L : List Asn) (b : By) (home : Int) (u : Value) : Prop where mk ::
  out : (¬ headOk b home ∧ u = .tuple #[.slice none 0 0, .int .i64 0, .bool false] ∧ Holds I w L) ∨ ∃ sv, headOk b home ∧ u = .tuple #[sv, .int .i64 (6 + 2 * num b 4 : Nat), .bool true] ∧ Holds I w (own sv 3 1 (num b 4) ((tgts b (num b 4)).flatMap inC) :: L)
theorem mark_eq (l : By) : ((⟨l.toArray⟩ : ByteArray).toList == (⟨#[74, 82, 78, 76]⟩ : ByteArray).toList) = decide (l = markB) := by
  rw [ba_beq]
  refine decide_eq_decide.2 ⟨fun h => ?_, fun h => by rw [h]; rfl⟩
  have := congrArg (fun s : ByteArray => s.data.toList) h
  simpa [markB] using this
theorem bad_lt {b : By} {home : Int} {k : Nat} (hk : k < num b 4) (h : ¬ tgtAt b k < home) : ¬ headOk b home := fun hh => h (hh.2.2.2.2.1 _ (List.mem_of_getElem? (tgts_at hk)))
theorem bad_dup {b : By} {home : Int} {k : Nat} (hk : k < num b 4) (h : tgtAt b k ∈ tgts b k) : ¬ headOk b home := fun hh => by
  obtain ⟨r, hr⟩ := tgts_pre b (show k + 1 ≤ num b 4 from hk)
  have := hh.2.2.2.2.2.1
  rw [hr, tgts_succ, List.nodup_append] at this
  have h2 := this.1
  rw [List.nodup_append] at h2
  exact h2.2.2 _ h _ (List.mem_singleton.2 rfl) rfl
theorem any_dec (l : List Int) (x : Int) : (l.any fun y => decide (x = y)) = decide (x ∈ l) := by
  induction l with
  | nil => simp
  | cons y r ih => simp [List.any_cons, ih]
theorem in_snoc (l : List Int) (x : Int) : (l ++ [x]).flatMap inC = l.flatMap inC ++ inC x := flat_snoc l x
theorem inC1 (x : Int) : ∀ u ∈ inC x, oneC u = true := fun u hu => by simp only [inC, List.mem_singleton] at hu; rw [hu]; rfl


theorem targets_any (H : Holds I w L) {v : Value} {l : By} (hv : SlR I L v 1 l.length (byL l)) (hl : l.length ≤ 140737488355328) (home : Int) :
    Rets Try.prog F_journal_targets #[v, .int .i64 home] w fun u w' => TgtR I w' L l home u := by
  obtain ⟨A, cap, rfl, hcap⟩ := hv.form
  by_cases h256 : l.length = 256
  · obtain ⟨b1, o1, rfl, hr1⟩ := hv.at (by omega)
    have hm := hv.take (k := 4) (by omega)
    rw [Nat.mul_one, ← List.map_take] at hm
    obtain ⟨s, hs⟩ : ∃ s : ByteArray, (⟨(l.take 4).toArray⟩ : ByteArray) = s := ⟨_, rfl⟩
    have hse := mark_eq (l.take 4)
    rw [hs] at hse
    refine ok_journal_targets.rets rfl ?_
    repeat' (first
      | (refine VcL.sliceTo (h := 4) tabOk rfl rfl rfl rfl rfl rfl (by omega) ?_)
      | (refine VcL.ofBytes (bs := l.take 4) tabOk rfl rfl rfl rfl rfl rfl rfl (SlR.src hm H) ⟨_, _, rfl⟩ rfl rfl rfl ?_)
      | rw [hs]
      | rw [hse]
      | (show VcL _ _ _ _ _ _ _ _; first
      | refine VcL.pures tabOk rfl ?_
      | refine VcL.nil ?_
      | (show VcL _ _ _ _ (⟨_, .call ⟨.value (.func F_octet_Get), _, _⟩, _, _, _, _⟩ :: _) _ _ _; (refine VcL.callF ok_octet_Get rfl rfl rfl rfl (Rets.mono (Get2_any (at_ := 4) H hv (by omega) hl) ?_); rintro _ w ⟨rfl, H⟩))
      | (refine VcL.guard rfl rfl rfl rfl (fun h => ?_) (fun h => ?_) <;> first | (exfalso; simp only [decide_eq_true_eq, decide_eq_false_iff_not, Bool.not_eq_true', Bool.not_eq_false'] at h; omega) | (with_reducible have hp := of_decide_eq_true h) | (with_reducible have hp := of_decide_eq_false h) | (with_reducible have hp := ndec_f h)))
      | (show Vc _ _ _ _ _ _; first
      | refine Vc.seq ?_
      | refine Vc.region ?_
      | refine Vc.condT rfl ?_
      | refine Vc.ret ?_
      | refine Vc.skip ?_
      | refine Vc.block ?_
      | (refine Vc.cond rfl (fun h => ?_) (fun h => ?_) <;> first | (with_reducible have hp := of_decide_eq_true h) | (with_reducible have hp := of_decide_eq_false h) | (with_reducible have hp := ndec_t h) | (with_reducible have hp := ndec_f h)))
      | (show KSeq _ _ _ _ _ _ _; first
      | refine KSeq.normal ?_
      | refine KSeq.ret ?_)
      | (show KEnd _ _ _ _ _ _ _; refine KEnd.fin (Or.inr rfl) ⟨_, (ResL.tmp rfl (ResL.tmp rfl (ResL.tmp rfl ResL.nil))), ?_⟩))
    · exact ⟨.inl ⟨fun hh => hp hh.2.1, rfl, H⟩⟩
    · exact ⟨.inl ⟨fun hh => by have := hh.2.2.1; omega, rfl, H⟩⟩
    · exact ⟨.inl ⟨fun hh => by have := hh.2.2.2.1; omega, rfl, H⟩⟩
    have hmk : l.take 4 = markB := by assumption
    have hn0 : 1 ≤ num l 4 := by omega
    have hn1 : num l 4 ≤ 40 := by omega
    refine Vc.loopS [(0, _), (1, _), (35, _)] (fun s : Nat × Value => [(8, .int .i64 (6 + 2 * s.1 : Nat)), (10, s.2), (36, .int .i64 s.1)]) (fun s w => s.1 ≤ num l 4 ∧ (∀ x ∈ tgts l s.1, x < home) ∧ (tgts l s.1).Nodup ∧ Holds I w (own s.2 3 1 s.1 ((tgts l s.1).flatMap inC) :: L)) (fun s _ => num l 4 - s.1) (0, .slice none 0 0) ⟨rfl, rfl, rfl, trivial⟩ ⟨rfl, rfl, rfl, trivial⟩ ⟨Nat.zero_le _, (fun x hx => by cases hx), List.nodup_nil, H.own_nil⟩ ?_
    rintro ⟨k, ov⟩ w ⟨hk, hall, hnd, H⟩
    dsimp only at hk hall hnd H ⊢
    by_cases hlt : k < num l 4
    · have hsl : SlR I (own ov 3 1 k ((tgts l k).flatMap inC) :: L) ov 1 (tgts l k).length ((tgts l k).flatMap inC) := by
        have := Holds.own_toR H
        rw [tgts_len]
        exact this
      repeat' (first
        | rw [any_dec]
        | (refine VcL.append (m := 1) (ds := inC (tgtAt l k)) tabOk rfl rfl rfl rfl (Holds.swap H) (Holds.own_src H) (inC1 _) (by show (_ + 1) * 8 ≤ _; omega) rfl rfl rfl (fun ov2 w H => ?_))
        | (show VcL _ _ _ _ _ _ _ _; first
      | refine VcL.pures tabOk rfl ?_
      | refine VcL.nil ?_
      | refine VcL.buildSlice tabOk H rfl rfl rfl rfl rfl rfl (fun sv w H => ?_)
      | (show VcL _ _ _ _ (⟨_, .call ⟨.value (.func F_octet_Get), _, _⟩, _, _, _, _⟩ :: _) _ _ _; (refine VcL.callF ok_octet_Get rfl rfl rfl rfl (Rets.mono (Get2_any (at_ := 6 + 2 * k) H hv.up (by omega) hl) ?_); rintro _ w ⟨rfl, H⟩))
      | (show VcL _ _ _ _ (⟨_, .call ⟨.value (.func F_slices_Contains_int_int), _, _⟩, _, _, _, _⟩ :: _) _ _ _; (refine VcL.callF ok_slices_Contains_int_int rfl rfl rfl rfl (Rets.mono (ContainsI_any H hsl (by rw [tgts_len]; omega) (tgtAt l k)) ?_); rintro _ w ⟨rfl, H⟩))
      | (refine VcL.guard rfl rfl rfl rfl (fun h => ?_) (fun h => ?_) <;> first | (with_reducible have hp := of_decide_eq_true h) | (with_reducible have hp := of_decide_eq_false h)))
        | (show Vc _ _ _ _ _ _; first
      | refine Vc.seq ?_
      | refine Vc.region ?_
      | refine Vc.condT rfl ?_
      | refine Vc.ret ?_
      | refine Vc.skip ?_
      | refine Vc.block ?_
      | (refine Vc.cond rfl (fun h => ?_) (fun h => ?_) <;> first | (exfalso; simp only [decide_eq_true_eq, decide_eq_false_iff_not, Bool.not_eq_true', Bool.not_eq_false'] at h; omega) | (with_reducible have hp := of_decide_eq_true h) | (with_reducible have hp := of_decide_eq_false h)))
        | (show KSeq _ _ _ _ _ _ _; first
      | refine KSeq.normal ?_
      | refine KSeq.ret ?_)
        | (show KBlock _ _ _ _ _ _; first
      | refine KBlock.normal ?_
      | refine KBlock.ret ?_)
        | refine KLoop.ret ?_
        | (show KEnd _ _ _ _ _ _ _; refine KEnd.fin (Or.inr rfl) ⟨_, (ResL.tmp rfl (ResL.tmp rfl (ResL.tmp rfl ResL.nil))), ?_⟩))
      · exact ⟨.inl ⟨bad_lt hlt (by unfold tgtAt; omega), rfl, H.drop⟩⟩
      · exact ⟨.inl ⟨bad_dup hlt hp, rfl, H.drop⟩⟩
      · refine KLoop.again (k + 1, ov2) ⟨rfl, rfl, got_succ rfl (by omega), trivial⟩ ⟨rfl, rfl, rfl, trivial⟩ ⟨hlt, ?_, ?_, ?_⟩ (by show _ < _; omega)
        · rw [tgts_succ]
          intro x hx
          rcases List.mem_append.1 hx with hx | hx
          · exact hall x hx
          · simp only [List.mem_singleton] at hx
            subst hx
            unfold tgtAt
            omega
        · rw [tgts_succ, List.nodup_append]
          refine ⟨hnd, List.nodup_cons.2 ⟨List.not_mem_nil, List.nodup_nil⟩, fun a ha b hb e => ?_⟩
          simp only [List.mem_singleton] at hb
          exact hp (hb ▸ e ▸ ha)
        · rw [tgts_succ, in_snoc]
          exact H.drop1
    · obtain rfl : k = num l 4 := by omega
      have e2 : IntKind.i64.wrap (((6 + 2 * num l 4 : Nat) : Int) + 2) = ((8 + 2 * num l 4 : Nat) : Int) := by rw [wrap_i64 (by omega) (by omega)]; omega
      repeat' (first
        | rw [e2]
        | (show VcL _ _ _ _ _ _ _ _; first
      | refine VcL.pures tabOk rfl ?_
      | refine VcL.nil ?_
      | (show VcL _ _ _ _ (⟨_, .slice _ _ _ _ none, _, _, _, _⟩ :: _) _ _ _; refine VcL.sliceFrom tabOk rfl rfl rfl rfl rfl rfl (by omega) (by omega) (fun p_ hp_ => ?_)))
        | (show Vc _ _ _ _ _ _; first
      | refine Vc.seq ?_
      | refine Vc.region ?_
      | refine Vc.block ?_
      | refine Vc.exit ?_
      | (refine Vc.cond rfl (fun h => ?_) (fun h => ?_) <;> first | (exfalso; simp only [decide_eq_true_eq, decide_eq_false_iff_not, Bool.not_eq_true', Bool.not_eq_false'] at h; omega) | (with_reducible have hp := of_decide_eq_false h)))
        | (show KSeq _ _ _ _ _ _ _; first
      | refine KSeq.normal ?_
      | refine KSeq.exit ?_)
        | (show KBlock _ _ _ _ _ _; refine KBlock.here ?_)
        | refine KLoop.exit ?_)
      have hp_ : 8 + 2 * num l 4 < cap → p_ = o1 + (8 + 2 * num l 4) * 1 := hp_
      refine Vc.loopS [(8, _), (10, _), (61, _), (62, _)] (fun j : Nat => [(63, .int .i64 j)]) (fun j w => j ≤ 248 - 2 * num l 4 ∧ (((l.drop (8 + 2 * num l 4)).take j).all isZ) = true ∧ Holds I w (own ov 3 1 (num l 4) ((tgts l (num l 4)).flatMap inC) :: L)) (fun j _ => 248 - 2 * num l 4 - j) 0 ⟨rfl, trivial⟩ ⟨rfl, rfl, rfl, rfl, trivial⟩ ⟨Nat.zero_le _, rfl, H⟩ ?_
      rintro j w ⟨hj, hz, H⟩
      have hdl : (l.drop (8 + 2 * num l 4)).length = 248 - 2 * num l 4 := by rw [List.length_drop]; omega
      by_cases hlt2 : j < 248 - 2 * num l 4
      · have hx := (byL_flat l ▸ hr1).elem byC_len (atD_get (show 8 + 2 * num l 4 + j < l.length by omega))
        have hp2 : p_ + j * 1 = o1 + (8 + 2 * num l 4 + j) * 1 := by rw [hp_ (by omega)]; omega
        rw [← hp2] at hx
        have hat : atD (l.drop (8 + 2 * num l 4)) j = atD l (8 + 2 * num l 4 + j) := atD_of (by rw [List.getElem?_drop, atD_get (by omega)])
        have hx : RdW I (own ov 3 1 (num l 4) ((tgts l (num l 4)).flatMap inC) :: L) b1 (p_ + j * 1) (byC (atD l (8 + 2 * num l 4 + j))) := hx.up
        repeat' (first
          | (show VcL _ _ _ _ _ _ _ _; first
      | refine VcL.pures tabOk rfl ?_
      | refine VcL.nil ?_
      | (show VcL _ _ _ _ (⟨_, .load _ _, _, _, _, _⟩ :: _) _ _ _; refine VcL.load1 tabOk rfl rfl rfl rfl rfl (by exact RdW.get0 (by assumption) rfl H) ?_)
      | (show VcL _ _ _ _ (⟨_, .indexAddr _ _ _, _, _, _, _⟩ :: _) _ _ _; refine VcL.indexAddr tabOk rfl rfl rfl rfl rfl rfl (by omega) (by omega) ?_))
          | (show Vc _ _ _ _ _ _; first
      | refine Vc.seq ?_
      | refine Vc.region ?_
      | refine Vc.ret ?_
      | refine Vc.skip ?_
      | refine Vc.block ?_
      | (refine Vc.cond rfl (fun h => ?_) (fun h => ?_) <;> first | (exfalso; simp only [decide_eq_true_eq, decide_eq_false_iff_not, Bool.not_eq_true', Bool.not_eq_false'] at h; omega) | (with_reducible have hp := of_decide_eq_true h) | (with_reducible have hp := ndec_t h) | (with_reducible have hp := ndec_f h)))
          | (show KSeq _ _ _ _ _ _ _; first
      | refine KSeq.normal ?_
      | refine KSeq.ret ?_)
          | (show KBlock _ _ _ _ _ _; first
      | refine KBlock.normal ?_
      | refine KBlock.ret ?_)
          | refine KLoop.ret ?_
          | (show KEnd _ _ _ _ _ _ _; refine KEnd.fin (Or.inr rfl) ⟨_, (ResL.tmp rfl (ResL.tmp rfl (ResL.tmp rfl ResL.nil))), ?_⟩))
        · refine ⟨.inl ⟨fun hh => ?_, rfl, H.drop⟩⟩
          have h7 := hh.2.2.2.2.2.2
          rw [List.all_eq_true] at h7
          have := h7 _ (atD_mem (show j < _ by rw [hdl]; exact hlt2))
          rw [hat] at this
          simp only [isZ, decide_eq_true_eq] at this
          omega
        · refine KLoop.again (j + 1) ⟨got_succ rfl (by omega), trivial⟩ ⟨rfl, rfl, rfl, rfl, trivial⟩ ⟨hlt2, ?_, H⟩ (by omega)
          rw [all_take (by rw [hdl]; exact hlt2), hz, hat]
          simp only [isZ, Bool.true_and, decide_eq_true_eq]
          omega
      · obtain rfl : j = 248 - 2 * num l 4 := by omega
        rw [List.take_of_length_le (by omega)] at hz
        repeat' (first
          | (show VcL _ _ _ _ _ _ _ _; first
      | refine VcL.pures tabOk rfl ?_
      | refine VcL.nil ?_)
          | (show Vc _ _ _ _ _ _; first
      | refine Vc.seq ?_
      | refine Vc.region ?_
      | refine Vc.ret ?_
      | refine Vc.exit ?_
      | (refine Vc.cond rfl (fun h => ?_) (fun h => ?_) <;> first | (exfalso; simp only [decide_eq_true_eq, decide_eq_false_iff_not, Bool.not_eq_true', Bool.not_eq_false'] at h; omega) | (with_reducible have hp := of_decide_eq_false h)))
          | (show KSeq _ _ _ _ _ _ _; first
      | refine KSeq.normal ?_
      | refine KSeq.exit ?_)
          | (show KBlock _ _ _ _ _ _; refine KBlock.here ?_)
          | refine KLoop.exit ?_
          | (show KEnd _ _ _ _ _ _ _; refine KEnd.fin (Or.inr rfl) ⟨_, (ResL.tmp rfl (ResL.tmp rfl (ResL.tmp rfl ResL.nil))), ?_⟩))
        exact ⟨.inr ⟨ov, ⟨h256, hmk, hn0, hn1, hall, hnd, hz⟩, rfl, H⟩⟩
  ·
    refine ok_journal_targets.rets rfl ?_
    repeat' (first
      | (show VcL _ _ _ _ _ _ _ _; first
      | refine VcL.pures tabOk rfl ?_
      | refine VcL.nil ?_
      | (refine VcL.guard rfl rfl rfl rfl (fun h => ?_) (fun h => ?_) <;> first | (exfalso; simp only [decide_eq_true_eq, decide_eq_false_iff_not, Bool.not_eq_true', Bool.not_eq_false'] at h; omega) | (with_reducible have hp := ndec_t h)))
      | (show Vc _ _ _ _ _ _; first
      | refine Vc.seq ?_
      | refine Vc.region ?_
      | refine Vc.condT rfl ?_
      | refine Vc.ret ?_)
      | (show KSeq _ _ _ _ _ _ _; first
      | refine KSeq.normal ?_
      | refine KSeq.ret ?_)
      | (show KEnd _ _ _ _ _ _ _; refine KEnd.fin (Or.inr rfl) ⟨_, (ResL.tmp rfl (ResL.tmp rfl (ResL.tmp rfl ResL.nil))), ?_⟩))
    exact ⟨.inl ⟨fun hh => h256 hh.1, rfl, H⟩⟩
end Go.Proofs.Ytkeapkmjkmbdpaa.V
