/- Who knows the secret enters. -/
import Derived.Test.YtccbfajjboccoaaVF
namespace Go.Proofs.Ytccbfajjboccoaa.V
open Go Go.Proofs.YtccbfajjboccoaaV
set_option linter.unusedVariables false
set_option linter.unusedSimpArgs false
set_option maxHeartbeats 1000000
attribute [local irreducible] IntKind.wrap
variable {I : Imm} {w : World} {L : List Asn}
abbrev ANNS : ByteArray := ⟨#[65, 78, 78]⟩
theorem ann_ANN : eqT annS ANNS = true := by decide +kernel
theorem is32_of {n : Nat} (h : n < 2 ^ 32) : is32 (n : Int) = true := by unfold is32; simp; omega
theorem is31_of {n : Nat} (h : n < 2 ^ 31) : is31 (n : Int) = true := by unfold is31; simp; omega
theorem SecretEnters_any (H : Holds I w L) {so seed other by' : Nat} (h1 : so < 2 ^ 32) (h2 : seed < 2 ^ 32) (h3 : other < 2 ^ 32) (h4 : by' < 2 ^ 16) :
    Rets Try.prog F_tithinglaw24_SecretEnters #[.int .u32 so, .int .u32 seed, .int .u32 other, .int .u16 by'] w fun u w' => u = .bool true ∧ Holds I w' L := by
  obtain ⟨s, hs⟩ : ∃ s, so % 2 ^ 31 = s := ⟨_, rfl⟩
  have hs2 : s < 2 ^ 31 := by rw [← hs]; exact Nat.mod_lt _ (by decide)
  have e1 : IntKind.i64.wrap (Int.tmod (so : Int) (Int.ofNat (2147483647 + 1))) = (s : Int) := by
    show IntKind.i64.wrap (Int.tmod (so : Int) 2147483648) = _
    rw [Int.tmod_eq_emod_of_nonneg (by omega), wrap_i64 (by omega) (by omega), ← hs]; omega
  have e2 : IntKind.i64.wrap (seed : Int) = (seed : Int) := wi64 (Nat.lt_trans h2 (by decide))
  have e3 : IntKind.i64.wrap (other : Int) = (other : Int) := wi64 (Nat.lt_trans h3 (by decide))
  have e4 : IntKind.i64.wrap (by' : Int) = (by' : Int) := wi64 (Nat.lt_trans h4 (by decide))
  have hok : (usersOk [bareU 7 annS (s : Int)] && is32 (seed : Int)) = true := by rw [users_one (by decide) (by decide) (by decide) (by unfold is31'; simp; omega), is32_of h2]; rfl
  have hgo : Rets Try.prog F_tithinglaw24_SecretEnters #[.int .u32 so, .int .u32 seed, .int .u32 other, .int .u16 by'] w fun u w' => ∃ J, u = .bool true ∧ Imm.Le I J ∧ Holds J w' L := by
    refine ok_tithinglaw24_SecretEnters.rets rfl ?_
    repeat' (first
      | rw [e1]
      | rw [e2]
      | (show VcL _ _ _ _ _ _ _ _; first
      | refine VcL.pures tabOk rfl ?_
      | refine VcL.nil ?_
      | refine VcL.buildSlice tabOk H rfl rfl rfl rfl rfl rfl (fun sv w H => ?_))
      | (show Vc _ _ _ _ _ _; first
      | refine Vc.seq ?_
      | refine Vc.region ?_)
      | (show KSeq _ _ _ _ _ _ _; refine KSeq.normal ?_))
    have H : Holds I w (ownU sv [bareU 7 annS (s : Int)] :: L) := H
    repeat' (first
      | (show VcL _ _ _ _ _ _ _ _; first
      | refine VcL.pures tabOk rfl ?_
      | refine VcL.nil ?_
      | (show VcL _ _ _ _ (⟨_, .call ⟨.value (.func F_secret_New), _, _⟩, _, _, _, _⟩ :: _) _ _ _; (refine VcL.callF ok_secret_New rfl rfl rfl rfl (Rets.mono (New_any (l := [bareU 7 annS (s : Int)]) H (Holds.own_toR H) (by show 1 ≤ _; omega) (bare_all (by decide)) (seed : Int) hok) ?_); rintro _ w ⟨J, d, vis, hJ, rfl, hvis, H⟩; obtain ⟨v, rfl, hu, hg, hn, ht⟩ := newVis_one hvis; have hD : DrOk J ⟨seed, 0, [v]⟩ := doorOk_new (s := seed) h2 (by show 1 ≤ 20; omega) hvis; have H : Holds J w (doorA d ⟨seed, 0, [v]⟩ :: ownU sv [bareU 7 annS (s : Int)] :: L) := H)))
      | (show Vc _ _ _ _ _ _; first
      | refine Vc.seq ?_
      | refine Vc.region ?_
      | refine Vc.condF rfl ?_
      | refine Vc.skip ?_)
      | (show KSeq _ _ _ _ _ _ _; refine KSeq.normal ?_))
    have hvn : v.user.name = annS := congrArg (fun p => p.2.1) hu
    have hvs : v.user.sec = (s : Int) := congrArg (fun p => p.2.2.1) hu
    have hvi : v.user.id = 7 := congrArg (fun p => p.1) hu
    have hnm : ∀ (g : Bool) (n t : Nat), hasN annS ⟨v.user, g, n, t⟩ = true := fun _ _ _ => by unfold hasN; rw [hvn]; exact eqT_refl _
    have hNM : ∀ (g : Bool) (n t : Nat), hasN ANNS ⟨v.user, g, n, t⟩ = true := fun _ _ _ => by unfold hasN; rw [hvn]; exact ann_ANN
    obtain ⟨u, gv, num, tr⟩ := v
    dsimp only at hu hg hn ht hvn hvs hvi hnm hNM
    subst hg; subst hn; subst ht
    obtain ⟨n0, hn0⟩ : ∃ n0, cphN (0 % 2 ^ 32) seed = n0 := ⟨_, rfl⟩
    have hn0l : n0 < 2 ^ 32 := by rw [← hn0]; exact cph_lt (Nat.mod_lt _ (by decide))
    have a1 : askS ⟨seed, 0, [⟨u, false, 0, 0⟩]⟩ ANNS = (⟨seed, 1, [⟨u, true, n0, 0⟩]⟩, (n0 : Int), 0) := by rw [← hn0]; exact ask_one (hNM false 0 0) (Nat.zero_lt_succ _)
    have hD1 : DrOk J ⟨seed, 1, [⟨u, true, n0, 0⟩]⟩ := by have := (askS_ok hD ANNS).1; rwa [a1] at this
    have ans : cipA (is32 (n0 : Int) && is31 (s : Int)) n0 s = .tuple #[.int .i64 (cphV n0 s), .int .i64 0] := by rw [is32_of hn0l, is31_of hs2]; rfl
    have bck : cipA (is32 (other : Int) && is31 (s : Int)) other (turnK s) = .tuple #[.int .i64 (cphV other (turnK s)), .int .i64 0] := by rw [is32_of h3, is31_of hs2]; rfl
    have e5 : enterS ⟨seed, 1, [⟨u, true, n0, 0⟩]⟩ annS (cphV n0 s) = (⟨seed, 1, [⟨u, false, n0, 0⟩]⟩, some 0) := enter_right (hnm true n0 0) (Nat.zero_lt_succ _) rfl (by show _ = cphV n0 u.sec; rw [hvs])
    have hD2 : DrOk J ⟨seed, 1, [⟨u, false, n0, 0⟩]⟩ := by have := (enterS_ok hD1 annS (cphV n0 s)).1; rwa [e5] at this
    have b5 : bothV ⟨seed, 1, [⟨u, true, n0, 0⟩]⟩ annS (cphV n0 s) other = .tuple #[.int .i64 7, .int .i64 (cphV other (turnK s)), .int .i64 0] := by
      unfold bothV
      rw [if_pos (is32_of h3), e5]
      show Value.tuple #[.int .i64 u.id, .int .i64 (cphV other (turnK u.sec)), .int .i64 0] = _
      rw [hvi, hvs]
    have s5 : bothS ⟨seed, 1, [⟨u, true, n0, 0⟩]⟩ annS (cphV n0 s) other = ⟨seed, 1, [⟨u, false, n0, 0⟩]⟩ := by unfold bothS; rw [if_pos (is32_of h3), e5]
    have e6 : enterS ⟨seed, 1, [⟨u, false, n0, 0⟩]⟩ annS (cphV n0 s) = (⟨seed, 1, [⟨u, false, n0, 0⟩]⟩, none) := enter_not (hnm false n0 0) (.inr rfl)
    have t6 : triesS ⟨seed, 1, [⟨u, false, n0, 0⟩]⟩ annS = 0 := tries_one (hnm false n0 0)
    repeat' (first
      | rw [e3]
      | (show VcL _ _ _ _ _ _ _ _; first
      | refine VcL.pures tabOk rfl ?_
      | refine VcL.nil ?_
      | (show VcL _ _ _ _ (⟨_, .call ⟨.value (.func F_secret_Door_Ask), _, _⟩, _, _, _, _⟩ :: _) _ _ _; (refine VcL.callF ok_secret_Door_Ask rfl rfl rfl rfl (Rets.mono (AskP_any H hD (Nat.two_pow_pos 40) ANNS (by decide)) ?_); rintro _ w ⟨rfl, H⟩; rw [a1] at H; rw [a1]))
      | (show VcL _ _ _ _ (⟨_, .call ⟨.value (.func F_secret_Answer), _, _⟩, _, _, _, _⟩ :: _) _ _ _; (refine VcL.callF ok_secret_Answer rfl rfl rfl rfl (Rets.mono (AnswerP_any H _ _) ?_); rintro _ w ⟨rfl, H⟩; rw [ans]))
      | (show VcL _ _ _ _ (⟨_, .call ⟨.value (.func F_secret_Back), _, _⟩, _, _, _, _⟩ :: _) _ _ _; (refine VcL.callF ok_secret_Back rfl rfl rfl rfl (Rets.mono (BackP_any H _ _) ?_); rintro _ w ⟨rfl, H⟩; rw [bck]))
      | (show VcL _ _ _ _ (⟨_, .call ⟨.value (.func F_secret_Door_EnterBoth), _, _⟩, _, _, _, _⟩ :: _) _ _ _; (refine VcL.callF ok_secret_Door_EnterBoth rfl rfl rfl rfl (Rets.mono (EnterBothP_any H hD1 annS (by decide) _ _) ?_); rintro _ w ⟨rfl, H⟩; rw [s5] at H; rw [b5]))
      | (show VcL _ _ _ _ (⟨_, .call ⟨.value (.func F_secret_Door_Enter), _, _⟩, _, _, _, _⟩ :: _) _ _ _; (refine VcL.callF ok_secret_Door_Enter rfl rfl rfl rfl (Rets.mono (EnterP_any H hD2 annS (by decide) _) ?_); rintro _ w ⟨rfl, H⟩; rw [e6] at H; rw [e6]))
      | (show VcL _ _ _ _ (⟨_, .call ⟨.value (.func F_secret_Door_Tries), _, _⟩, _, _, _, _⟩ :: _) _ _ _; (refine VcL.callF ok_secret_Door_Tries rfl rfl rfl rfl (Rets.mono (TriesP_any H hD2 annS (by decide)) ?_); rintro _ w ⟨rfl, H⟩; rw [t6]))
      | (refine VcL.guard rfl rfl rfl rfl (fun h => ?_) (fun h => ?_) <;> first | (cases h; done) | (with_reducible have hp := ndec_f h)))
      | (show Vc _ _ _ _ _ _; first
      | refine Vc.seq ?_
      | refine Vc.region ?_
      | refine Vc.condF rfl ?_
      | refine Vc.ret ?_
      | refine Vc.skip ?_
      | refine Vc.block ?_
      | (refine Vc.cond rfl (fun h => ?_) (fun h => ?_) <;> first | (with_reducible have hp := ndec_t h) | (with_reducible have hp := ndec_f h)))
      | (show KSeq _ _ _ _ _ _ _; first
      | refine KSeq.normal ?_
      | refine KSeq.ret ?_)
      | (show KEnd _ _ _ _ _ _; refine KEnd.mk (Or.inr rfl) ⟨_, (ResL.tmp rfl ResL.nil), ?_⟩))
    · exact absurd rfl hp
    refine Vc.loopS [(3, _), (9, _), (10, _), (13, _)] (fun i : Nat => [(22, .int .i64 i)]) (fun i w => i ≤ 5 ∧ ∃ m, DrOk J ⟨seed, 1 + i, [⟨u, false, m, i⟩]⟩ ∧ Holds J w (doorA d ⟨seed, 1 + i, [⟨u, false, m, i⟩]⟩ :: ownU sv [bareU 7 annS (s : Int)] :: L)) (fun i _ => 5 - i) 0 ⟨rfl, trivial⟩ ⟨rfl, rfl, rfl, rfl, trivial⟩ ⟨by omega, n0, hD2, H⟩ ?_
    rintro i w ⟨hi, m, hDi, H⟩
    by_cases hlt : i < 5
    · obtain ⟨n1, hn1⟩ : ∃ n1, cphN ((1 + i) % 2 ^ 32) seed = n1 := ⟨_, rfl⟩
      have hn1l : n1 < 2 ^ 32 := by rw [← hn1]; exact cph_lt (Nat.mod_lt _ (by decide))
      have a3 : askS ⟨seed, 1 + i, [⟨u, false, m, i⟩]⟩ annS = (⟨seed, 1 + i + 1, [⟨u, true, n1, i⟩]⟩, (n1 : Int), 0) := by rw [← hn1]; exact ask_one (hnm false m i) hlt
      have hD3 : DrOk J ⟨seed, 1 + i + 1, [⟨u, true, n1, i⟩]⟩ := by have := (askS_ok hDi annS).1; rwa [a3] at this
      obtain ⟨c, hc⟩ : ∃ c : Nat, cphN n1 s = c := ⟨_, rfl⟩
      have hcl : c < 2 ^ 32 := by rw [← hc]; exact cph_lt hn1l
      have hcv : cphV (n1 : Int) (s : Int) = (c : Int) := by rw [← hc]; rfl
      have ans3 : cipA (is32 (n1 : Int) && is31 (s : Int)) n1 s = .tuple #[.int .i64 c, .int .i64 0] := by rw [is32_of hn1l, is31_of hs2, ← hcv]; rfl
      have ew : IntKind.i64.wrap (IntKind.i64.wrap ((c : Int) + 1) + (by' : Int)) = (c : Int) + 1 + by' := by rw [wrap_i64 (x := (c : Int) + 1) (by omega) (by omega), wrap_i64 (by omega) (by omega)]
      have e7 : enterS ⟨seed, 1 + i + 1, [⟨u, true, n1, i⟩]⟩ annS ((c : Int) + 1 + by') = (⟨seed, 1 + i + 1, [⟨u, false, n1, i + 1⟩]⟩, none) := enter_wrong (hnm true n1 i) hlt rfl (by show _ ≠ cphV n1 u.sec; rw [hvs, hcv]; omega)
      have hD4 : DrOk J ⟨seed, 1 + i + 1, [⟨u, false, n1, i + 1⟩]⟩ := by have := (enterS_ok hD3 annS ((c : Int) + 1 + by')).1; rwa [e7] at this
      have t7 : triesS ⟨seed, 1 + i + 1, [⟨u, false, n1, i + 1⟩]⟩ annS = ((i + 1 : Nat) : Int) := tries_one (hnm false n1 (i + 1))
      have wi := wrap_succ i (by omega)
      repeat' (first
        | rw [e4]
        | rw [ew]
        | rw [wi]
        | (show VcL _ _ _ _ _ _ _ _; first
      | refine VcL.pures tabOk rfl ?_
      | refine VcL.nil ?_
      | (show VcL _ _ _ _ (⟨_, .call ⟨.value (.func F_secret_Door_Ask), _, _⟩, _, _, _, _⟩ :: _) _ _ _; (refine VcL.callF ok_secret_Door_Ask rfl rfl rfl rfl (Rets.mono (AskP_any H hDi (by show 1 + i < 2 ^ 40; omega) annS (by decide)) ?_); rintro _ w ⟨rfl, H⟩; rw [a3] at H; rw [a3]))
      | (show VcL _ _ _ _ (⟨_, .call ⟨.value (.func F_secret_Answer), _, _⟩, _, _, _, _⟩ :: _) _ _ _; (refine VcL.callF ok_secret_Answer rfl rfl rfl rfl (Rets.mono (AnswerP_any H _ _) ?_); rintro _ w ⟨rfl, H⟩; rw [ans3]))
      | (show VcL _ _ _ _ (⟨_, .call ⟨.value (.func F_secret_Door_Enter), _, _⟩, _, _, _, _⟩ :: _) _ _ _; (refine VcL.callF ok_secret_Door_Enter rfl rfl rfl rfl (Rets.mono (EnterP_any H hD3 annS (by decide) _) ?_); rintro _ w ⟨rfl, H⟩; rw [e7] at H; rw [e7]))
      | (show VcL _ _ _ _ (⟨_, .call ⟨.value (.func F_secret_Door_Tries), _, _⟩, _, _, _, _⟩ :: _) _ _ _; (refine VcL.callF ok_secret_Door_Tries rfl rfl rfl rfl (Rets.mono (TriesP_any H hD4 annS (by decide)) ?_); rintro _ w ⟨rfl, H⟩; rw [t7]))
      | (refine VcL.guard rfl rfl rfl rfl (fun h => ?_) (fun h => ?_) <;> first | (cases h; done) | (with_reducible have hp := ndec_f h)))
        | (show Vc _ _ _ _ _ _; first
      | refine Vc.seq ?_
      | refine Vc.region ?_
      | refine Vc.ret ?_
      | refine Vc.skip ?_
      | refine Vc.block ?_
      | (refine Vc.cond rfl (fun h => ?_) (fun h => ?_) <;> first | (exfalso; simp only [decide_eq_true_eq, decide_eq_false_iff_not] at h; omega) | (with_reducible have hp := of_decide_eq_true h) | (with_reducible have hp := ndec_t h) | (with_reducible have hp := ndec_f h)))
        | (show KSeq _ _ _ _ _ _ _; first
      | refine KSeq.normal ?_
      | refine KSeq.ret ?_)
        | (show KBlock _ _ _ _ _; first
      | refine KBlock.normal ?_
      | refine KBlock.ret ?_)
        | refine KLoop.ret ?_
        | (show KEnd _ _ _ _ _ _; refine KEnd.mk (Or.inr rfl) ⟨_, (ResL.tmp rfl ResL.nil), ?_⟩))
      all_goals first
        | exact absurd rfl hp
        | exact KLoop.again (i + 1) ⟨rfl, trivial⟩ ⟨rfl, rfl, rfl, rfl, trivial⟩ ⟨hlt, n1, hD4, H⟩ (by omega)
    · obtain rfl : i = 5 := by omega
      have a8 : askS ⟨seed, 1 + 5, [⟨u, false, m, 5⟩]⟩ annS = (⟨seed, 1 + 5, [⟨u, false, m, 5⟩]⟩, 0, 240) := ask_over (hnm false m 5) (Nat.le_refl 5)
      have e8 : enterS ⟨seed, 1 + 5, [⟨u, false, m, 5⟩]⟩ annS (cphV n0 s) = (⟨seed, 1 + 5, [⟨u, false, m, 5⟩]⟩, none) := enter_not (hnm false m 5) (.inr rfl)
      repeat' (first
        | (show VcL _ _ _ _ _ _ _ _; first
      | refine VcL.pures tabOk rfl ?_
      | refine VcL.nil ?_
      | (show VcL _ _ _ _ (⟨_, .call ⟨.value (.func F_secret_Door_Ask), _, _⟩, _, _, _, _⟩ :: _) _ _ _; (refine VcL.callF ok_secret_Door_Ask rfl rfl rfl rfl (Rets.mono (AskP_any H hDi (by show 1 + 5 < 2 ^ 40; decide) annS (by decide)) ?_); rintro _ w ⟨rfl, H⟩; rw [a8] at H; rw [a8]))
      | (show VcL _ _ _ _ (⟨_, .call ⟨.value (.func F_secret_Door_Enter), _, _⟩, _, _, _, _⟩ :: _) _ _ _; (refine VcL.callF ok_secret_Door_Enter rfl rfl rfl rfl (Rets.mono (EnterP_any H hDi annS (by decide) _) ?_); rintro _ w ⟨rfl, H⟩; rw [e8] at H; rw [e8]))
      | (show VcL _ _ _ _ (⟨_, .call ⟨.value (.func F_tithinglaw24_Awake), _, _⟩, _, _, _, _⟩ :: _) _ _ _; (refine VcL.callF ok_tithinglaw24_Awake rfl rfl rfl rfl (Rets.mono (Awake_any H) ?_); rintro _ w ⟨rfl, H⟩))
      | (refine VcL.guard rfl rfl rfl rfl (fun h => ?_) (fun h => ?_) <;> first | (cases h; done) | (with_reducible have hp := of_decide_eq_true h)))
        | (show Vc _ _ _ _ _ _; first
      | refine Vc.seq ?_
      | refine Vc.region ?_
      | refine Vc.condF rfl ?_
      | refine Vc.ret ?_
      | refine Vc.exit ?_)
        | (show KSeq _ _ _ _ _ _ _; first
      | refine KSeq.normal ?_
      | refine KSeq.exit ?_)
        | (show KBlock _ _ _ _ _; refine KBlock.here ?_)
        | refine KLoop.exit ?_
        | (show KEnd _ _ _ _ _ _; refine KEnd.mk (Or.inr rfl) ⟨_, (ResL.tmp rfl ResL.nil), ?_⟩))
      exact ⟨J, rfl, hJ, H.drop.drop⟩
  exact hgo.mono fun u w' ⟨J, h1, h2, h3⟩ => ⟨h1, h3.less h2⟩
theorem wf_u32 {a : Int} (h : (Lit.int .u32 a).wf = true) : 0 ≤ a ∧ a < 4294967296 := by
  simp [Lit.wf, IntKind.min, IntKind.max, IntKind.signed, IntKind.bits] at h
  omega
theorem wf_u16 {a : Int} (h : (Lit.int .u16 a).wf = true) : 0 ≤ a ∧ a < 65536 := by
  simp [Lit.wf, IntKind.min, IntKind.max, IntKind.signed, IntKind.bits] at h
  omega
theorem SecretEnters_int (H : Holds I w L) (a b c e : Int) (h1 : (Lit.int .u32 a).wf = true) (h2 : (Lit.int .u32 b).wf = true) (h3 : (Lit.int .u32 c).wf = true) (h4 : (Lit.int .u16 e).wf = true) :
    Rets Try.prog F_tithinglaw24_SecretEnters #[.int .u32 a, .int .u32 b, .int .u32 c, .int .u16 e] w fun u w' => u = .bool true ∧ Holds I w' L := by
  have g1 := wf_u32 h1
  have g2 := wf_u32 h2
  have g3 := wf_u32 h3
  have g4 := wf_u16 h4
  obtain ⟨n1, rfl⟩ := Int.eq_ofNat_of_zero_le g1.1
  obtain ⟨n2, rfl⟩ := Int.eq_ofNat_of_zero_le g2.1
  obtain ⟨n3, rfl⟩ := Int.eq_ofNat_of_zero_le g3.1
  obtain ⟨n4, rfl⟩ := Int.eq_ofNat_of_zero_le g4.1
  exact SecretEnters_any H (by omega) (by omega) (by omega) (by omega)
end Go.Proofs.Ytccbfajjboccoaa.V
