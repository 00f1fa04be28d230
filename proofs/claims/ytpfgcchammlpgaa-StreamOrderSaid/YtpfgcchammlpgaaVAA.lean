/- The document's end: the frames with bytes. -/
import Derived.Test.YtpfgcchammlpgaaVZ
namespace Go.Proofs.Ytpfgcchammlpgaa.V
open Go Go.Proofs.YtpfgcchammlpgaaV
set_option linter.unusedVariables false
set_option linter.unusedSimpArgs false
set_option maxHeartbeats 8000000
set_option maxRecDepth 4000
attribute [local irreducible] IntKind.wrap refA
variable {I : Imm} {w : World} {L : List Asn}
/-- How far a piece has come: so many bytes, the last of which ends a message or not. -/
def Cut (l : List Bf) (j : Nat) (f : Bool) : Prop := if f then cutN l 60 = j ∧ cutE l j = true else ∀ x ∈ l.take j, x.2 = false
theorem cut_end {l : List Bf} {j : Nat} {f : Bool} (h : Cut l j f) (hj : j ≤ 60) (hl : j ≤ l.length) (hs : f = true ∨ j = 60 ∨ j = l.length) : cutN l 60 = j ∧ cutE l j = f := by
  unfold Cut at h
  cases f with
  | true => rw [if_pos rfl] at h; exact h
  | false =>
    rw [if_neg (by decide)] at h
    exact cut_stop h hj hl (by rcases hs with h | h | h; cases h; exact .inl h; exact .inr h)
theorem cut_more {l : List Bf} {j : Nat} {x : Bf} (h : Cut l j false) (hj : j < 60) (hx : l[j]? = some x) : Cut l (j + 1) x.2 := by
  unfold Cut at h ⊢
  rw [if_neg (by decide)] at h
  cases hb : x.2 with
  | true => rw [if_pos rfl]; exact cut_hit h hj hx hb
  | false =>
    rw [if_neg (by decide)]
    intro y hy
    rw [List.take_add_one, hx] at hy
    rcases List.mem_append.1 hy with hy | hy
    · exact h y hy
    · simp at hy; subst hy; exact hb
theorem rd_flat {b o : Nat} {l : By} (h : RdW I L b o (byL l)) : RdW I L b o (l.flatMap byC) := by rw [byL_flat]; exact h
theorem sendsR_any {e : Nat} {E : En} (H : Holds I w (refA I e E :: L)) :
    Rets Try.prog F_tithingref12_End_sends #[ptr e] w fun u w' => ∃ J, Imm.Le I J ∧ ∃ fl : List Fm, fl.map (·.fr) = (if E.resets = true then [] else sentS E (min E.out.length E.room)) ∧ (∀ x ∈ fl, FmOk J x) ∧ fl.length ≤ 200 ∧ Holds J w' (own u 24 5 fl.length (fl.flatMap fmC) :: refA J e E :: L) := by
  obtain ⟨A1, c1, A2, c2, av, A3, c3, cd, hm, HB⟩ := ref_open H
  clear H
  have H := HB
  clear HB
  have ok := hm.ok
  have hin := ok.inn
  have hob := ok.out
  have hb := ok.base
  obtain ⟨n, hn⟩ : ∃ n, min E.out.length E.room = n := ⟨_, rfl⟩
  have hmn : min (E.out.length : Int) (E.room : Int) = (n : Int) := by omega
  have hno : n ≤ E.out.length := by omega
  rw [hn]
  by_cases hrs : E.resets = true
  · rw [if_pos hrs]
    refine ok_tithingref12_End_sends.rets rfl ?_
    repeat' (first
      | rw [hmn]
      | (show VcL _ _ _ _ _ _ _ _; first
      | refine VcL.pures tabOk rfl ?_
      | refine VcL.nil ?_)
      | (show VcD _ _ _ _ _ _ _ _ _; first
      | refine VcD.pures tabOk rfl ?_
      | refine VcD.done ?_
      | (show VcD _ _ _ _ _ (.take _ _) _ _ _; refine VcD.load1 tabOk rfl rfl rfl rfl rfl rfl (by intro w_ hw_; exact hw_ _ _ rfl) (by exact rfl) ?_))
      | (show Vc _ _ _ _ _ _; first
      | refine Vc.seq ?_
      | refine Vc.region ?_
      | refine Vc.block ?_
      | (refine Vc.drawn (id := 2) (.pure 0 (.pure 1 (.pure 2 (.pure 5 (.pure 6 (.pure 7 (.take 3 (.pure 4 (.take 8 (.pure 9 (.pure 10 .done))))))))))) (.one (fun w => Rd w e 0 (refV E ⟨.slice A1 E.out.length c1, .slice A2 E.inn.length c2, av, .slice A3 cd.length c3, cd⟩))) mixed (by kernel_rfl) (by exact Holds.rdWhole (Holds.drew H _)) ?_; have H := H.drew (w.drawn + 1)))
      | (show KSeq _ _ _ _ _ _ _; refine KSeq.normal ?_))
    refine Vc.loopS [(0, _), (4, _)] (fun q : Nat => [(3, .slice none 0 0), (5, .int .i64 0)]) (fun q w => Holds I w (refQ e E ⟨.slice A1 E.out.length c1, .slice A2 E.inn.length c2, av, .slice A3 cd.length c3, cd⟩ L)) (fun q _ => 0) 0 ⟨rfl, rfl, trivial⟩ ⟨rfl, rfl, trivial⟩ H ?_
    clear H
    rintro q w H
    repeat' (first
      | rw [hrs]
      | (show VcL _ _ _ _ _ _ _ _; first
      | refine VcL.pures tabOk rfl ?_
      | refine VcL.nil ?_
      | (show VcL _ _ _ _ (⟨_, .load _ _, _, _, _, _⟩ :: _) _ _ _; refine VcL.load1 tabOk rfl rfl rfl rfl rfl (by exact Holds.cell H rfl) ?_)
      | (refine VcL.guard rfl rfl rfl rfl (fun h => ?_) (fun h => ?_) <;> first | (cases h; done) | skip))
      | (show Vc _ _ _ _ _ _; first
      | refine Vc.seq ?_
      | refine Vc.region ?_
      | refine Vc.condF rfl ?_
      | refine Vc.ret ?_
      | refine Vc.exit ?_)
      | (show KSeq _ _ _ _ _ _ _; first
      | refine KSeq.normal ?_
      | refine KSeq.exit ?_)
      | (show KBlock _ _ _ _ _ _; refine KBlock.here ?_)
      | refine KLoop.exit ?_
      | (show KEnd _ _ _ _ _ _ _; refine KEnd.fin (Or.inr rfl) ⟨_, (ResL.tmp rfl ResL.nil), ?_⟩))
    exact ⟨I, Imm.Le.rfl' I, [], rfl, fun x hx => (by cases hx), Nat.zero_le _, Holds.own_nil (ref_close _ hm H)⟩
  · rw [if_neg hrs]
    have hrs0 : E.resets = false := by simpa using hrs
    refine ok_tithingref12_End_sends.rets rfl ?_
    repeat' (first
      | rw [hmn]
      | (show VcL _ _ _ _ _ _ _ _; first
      | refine VcL.pures tabOk rfl ?_
      | refine VcL.nil ?_)
      | (show VcD _ _ _ _ _ _ _ _ _; first
      | refine VcD.pures tabOk rfl ?_
      | refine VcD.done ?_
      | (show VcD _ _ _ _ _ (.take _ _) _ _ _; refine VcD.load1 tabOk rfl rfl rfl rfl rfl rfl (by intro w_ hw_; exact hw_ _ _ rfl) (by exact rfl) ?_))
      | (show Vc _ _ _ _ _ _; first
      | refine Vc.seq ?_
      | refine Vc.region ?_
      | refine Vc.block ?_
      | (refine Vc.drawn (id := 2) (.pure 0 (.pure 1 (.pure 2 (.pure 5 (.pure 6 (.pure 7 (.take 3 (.pure 4 (.take 8 (.pure 9 (.pure 10 .done))))))))))) (.one (fun w => Rd w e 0 (refV E ⟨.slice A1 E.out.length c1, .slice A2 E.inn.length c2, av, .slice A3 cd.length c3, cd⟩))) mixed (by kernel_rfl) (by exact Holds.rdWhole (Holds.drew H _)) ?_; have H := H.drew (w.drawn + 1)))
      | (show KSeq _ _ _ _ _ _ _; refine KSeq.normal ?_))
    refine Vc.loopS [(0, _), (4, _)] (fun q : Nat × Value => [(3, q.2), (5, .int .i64 q.1)]) (fun q w => q.1 ≤ n ∧ ∃ J, Imm.Le I J ∧ ∃ fl : List Fm, fl.map (·.fr) ++ sentG E (n - q.1) q.1 ((E.out.take n).drop q.1) = sentS E n ∧ (∀ x ∈ fl, FmOk J x) ∧ fl.length ≤ q.1 ∧ Holds J w (own q.2 24 5 fl.length (fl.flatMap fmC) :: refQ e E ⟨.slice A1 E.out.length c1, .slice A2 E.inn.length c2, av, .slice A3 cd.length c3, cd⟩ L)) (fun q _ => n - q.1) (0, .slice none 0 0) ⟨rfl, rfl, trivial⟩ ⟨rfl, rfl, trivial⟩ ⟨Nat.zero_le _, I, Imm.Le.rfl' I, [], rfl, fun x hx => (by cases hx), Nat.zero_le _, Holds.own_nil H⟩ ?_
    clear H
    rintro ⟨at_, ov⟩ w ⟨hat, J, hJ, fl, hfl, hfo, hfll, H⟩
    dsimp only at hat hfl hfll H ⊢
    by_cases hlt : at_ < n
    · obtain ⟨l, hl⟩ : ∃ l, (E.out.take n).drop at_ = l := ⟨_, rfl⟩
      have hll : l.length = n - at_ := by rw [← hl, List.length_drop, List.length_take]; omega
      have e1 : IntKind.i64.wrap ((E.base : Int) + at_) = ((E.base + at_ : Nat) : Int) := by unfold M at hb; rw [wrap_i64 (by omega) (by omega)]; omega
      have e2 : ((E.base + at_ : Nat) : Int).tmod (Int.ofNat (4294967295 + 1)) = ((plusS E.base at_ : Nat) : Int) := by rw [Int.tmod_eq_emod_of_nonneg (by omega)]; rfl
      repeat' (first
        | rw [hrs0]
        | rw [e1]
        | rw [e2]
        | (show VcL _ _ _ _ _ _ _ _; first
      | refine VcL.pures tabOk rfl ?_
      | refine VcL.nil ?_
      | (show VcL _ _ _ _ (⟨_, .load _ _, _, _, _, _⟩ :: _) _ _ _; refine VcL.load1 tabOk rfl rfl rfl rfl rfl (by first | exact Holds.cell (Holds.f1 H) rfl | exact Holds.cell (Holds.f2 H) rfl) ?_)
      | refine VcL.buildSlice tabOk H rfl rfl rfl rfl rfl rfl (fun sv w H => ?_)
      | (refine VcL.guard rfl rfl rfl rfl (fun h => ?_) (fun h => ?_) <;> first | (cases h; done) | skip))
        | (show Vc _ _ _ _ _ _; first
      | refine Vc.seq ?_
      | refine Vc.region ?_
      | refine Vc.skip ?_
      | refine Vc.block ?_
      | (refine Vc.cond rfl (fun h => ?_) (fun h => ?_) <;> first | (exfalso; simp only [decide_eq_true_eq, decide_eq_false_iff_not, Bool.not_eq_true', Bool.not_eq_false'] at h; omega) | (with_reducible have hp := of_decide_eq_true h)))
        | (show KSeq _ _ _ _ _ _ _; refine KSeq.normal ?_))
      obtain ⟨_, A5, c5, rfl⟩ := Holds.own_len H
      refine Vc.loopS [(0, _), (3, _), (4, _), (7, _)] (fun s : Nat × Bool × Option Addr × Nat => [(5, .int .i64 ((at_ + s.1 : Nat) : Int)), (6, .slice s.2.2.1 (1 + s.1) s.2.2.2)]) (fun s w => s.1 ≤ 60 ∧ s.1 ≤ l.length ∧ Cut l s.1 s.2.1 ∧ (s.2.1 = true → 0 < s.1) ∧ Holds J w (own (.slice s.2.2.1 (1 + s.1) s.2.2.2) 5 1 (1 + s.1) (byL (bitB s.2.1 :: (l.take s.1).map (·.1))) :: own ov 24 5 fl.length (fl.flatMap fmC) :: refQ e E ⟨.slice A1 E.out.length c1, .slice A2 E.inn.length c2, av, .slice A3 cd.length c3, cd⟩ L)) (fun s _ => 60 - s.1) (0, false, A5, c5) ⟨rfl, rfl, trivial⟩ ⟨rfl, rfl, rfl, rfl, trivial⟩ ⟨Nat.zero_le _, Nat.zero_le _, (by intro x hx; simp at hx), (fun h => by cases h), H⟩ ?_
      clear H
      rintro ⟨j, f, A5, c5⟩ w ⟨hj, hjl, hcut, hf, H⟩
      dsimp only at hj hjl hcut hf H ⊢
      obtain ⟨b5, o5, _, e4, hc5⟩ := Holds.own_some (by omega) H
      injection e4 with e5 e6 e7
      subst e5; subst e7
      obtain ⟨b5', o5', h4, hr5⟩ := SlR.at (Holds.own_toR H) (by omega)
      injection h4 with h4
      injection h4 with h5 h6 _
      subst h5; subst h6
      have hd0 := (rd_flat hr5).elem byC_len (k := 0) (x := bitB f) rfl
      clear hr5
      by_cases hgo : (at_ + j < n ∧ j < 60) ∧ f = false
      · obtain ⟨⟨hg1, hg2⟩, rfl⟩ := hgo
        obtain ⟨x, hx⟩ : ∃ x, l[j]? = some x := ⟨_, List.getElem?_eq_getElem (by omega)⟩
        have hxo : E.out[at_ + j]? = some x := by rw [← hl, List.getElem?_drop, List.getElem?_take_of_lt hg1] at hx; exact hx
        have ht : l.take (j + 1) = l.take j ++ [x] := by rw [List.take_add_one, hx]; rfl
        have hcut2 := cut_more hcut hg2 hx
        obtain ⟨b1, o1, c1', h2, hc2⟩ := Holds.own_some (show 0 < E.out.length by omega) (Holds.f3 H)
        injection h2 with h2 _ h3
        subst h2; subst h3
        obtain ⟨b1', o1', h4, hr⟩ := SlR.at (SlR.mem (e := 105) (Holds.drop H) (by repeat (first | exact .head _ | apply List.Mem.tail))) (show 0 < E.out.length by omega)
        injection h4 with h4
        injection h4 with h5 h6 _
        subst h5; subst h6
        have hx0 := hr.elem bfC_len (k := at_ + j) (x := x) hxo
        clear hr
        obtain ⟨y, z⟩ := x
        have hcat : byL (bitB false :: (l.take j).map (·.1)) ++ [byteV y] = byL (bitB false :: (l.take (j + 1)).map (·.1)) := by
          rw [ht, List.map_append]
          exact (List.map_append (f := byteV) (l₁ := bitB false :: (l.take j).map (·.1)) (l₂ := [y])).symm
        cases z
        ·
          repeat' (first
            | (refine VcL.append (m := 1) (ds := [byteV y]) tabOk rfl rfl rfl rfl (Holds.f1 H) (Holds.own_src H) (byL_one [y]) (by show (_ + _) * 1 ≤ _; omega) rfl rfl rfl (fun v_ w H => ?_); obtain ⟨_, A7, c7, rfl⟩ := Holds.own_len H)
            | (show VcL _ _ _ _ _ _ _ _; first
      | refine VcL.pures tabOk rfl ?_
      | refine VcL.nil ?_
      | (show VcL _ _ _ _ (⟨_, .load _ _, _, _, _, _⟩ :: _) _ _ _; refine VcL.load1 tabOk rfl rfl rfl rfl rfl (by first | exact Holds.cell (Holds.f2 H) rfl | exact Holds.cell (Holds.f3 H) rfl | exact RdW.get (by assumption) rfl H | exact RdW.get0 (by assumption) rfl (Holds.drop H) | exact RdW.get (by assumption) rfl (Holds.drop (Holds.drop H))) ?_)
      | (show VcL _ _ _ _ (⟨_, .indexAddr _ _ _, _, _, _, _⟩ :: _) _ _ _; refine VcL.indexAddr tabOk rfl rfl rfl rfl rfl rfl (by omega) (by omega) ?_)
      | refine VcL.buildSlice tabOk H rfl rfl rfl rfl rfl rfl (fun sv w H => ?_)
      | (refine VcL.guard rfl rfl rfl rfl (fun h => ?_) (fun h => ?_) <;> first | (exfalso; simp only [decide_eq_true_eq, decide_eq_false_iff_not, Bool.not_eq_true', Bool.not_eq_false'] at h; omega) | (with_reducible have hp := of_decide_eq_true h)))
            | (show Vc _ _ _ _ _ _; first
      | refine Vc.seq ?_
      | refine Vc.region ?_
      | refine Vc.condT rfl ?_
      | refine Vc.condF rfl ?_
      | refine Vc.skip ?_
      | refine Vc.block ?_)
            | (show KSeq _ _ _ _ _ _ _; refine KSeq.normal ?_)
            | (show KBlock _ _ _ _ _ _; refine KBlock.normal ?_))
          exact KLoop.again (j + 1, false, A7, c7) ⟨got_succ (k := at_ + j) rfl (by omega), rfl, trivial⟩ ⟨rfl, rfl, rfl, rfl, trivial⟩ ⟨hg2, by show j + 1 ≤ l.length; omega, hcut2, (fun h => by cases h), by rw [hcat] at H; exact Holds.drop1 H⟩ (by dsimp only; omega)
        ·
          repeat' (first
            | (refine VcL.append (m := 1) (ds := [byteV y]) tabOk rfl rfl rfl rfl (Holds.f1 H) (Holds.own_src H) (byL_one [y]) (by show (_ + _) * 1 ≤ _; omega) rfl rfl rfl (fun v_ w H => ?_); obtain ⟨_, A7, c7, rfl⟩ := Holds.own_len H; rw [hcat] at H; obtain ⟨b7, o7, _, e7, hc7⟩ := Holds.own_some (by omega) H; injection e7 with e71 e72 e73; subst e71; subst e73)
            | (refine VcL.storeOwn0 (k := 0) (1 : UInt8) tabOk byC_len (by rw [← byL_flat] at H; exact H) (z := bitB false) rfl rfl rfl (by exact rfl) (by exact rfl) (by exact rfl) (by exact rfl) rfl rfl (fun w H => ?_))
            | (show VcL _ _ _ _ _ _ _ _; first
      | refine VcL.pures tabOk rfl ?_
      | refine VcL.nil ?_
      | (show VcL _ _ _ _ (⟨_, .load _ _, _, _, _, _⟩ :: _) _ _ _; refine VcL.load1 tabOk rfl rfl rfl rfl rfl (by first | exact Holds.cell (Holds.f2 H) rfl | exact Holds.cell (Holds.f3 H) rfl | exact RdW.get (by assumption) rfl H | exact RdW.get0 (by assumption) rfl (Holds.drop H) | exact RdW.get (by assumption) rfl (Holds.drop (Holds.drop H))) ?_)
      | (show VcL _ _ _ _ (⟨_, .indexAddr _ _ _, _, _, _, _⟩ :: _) _ _ _; refine VcL.indexAddr tabOk rfl rfl rfl rfl rfl rfl (by omega) (by omega) ?_)
      | refine VcL.buildSlice tabOk H rfl rfl rfl rfl rfl rfl (fun sv w H => ?_)
      | (refine VcL.guard rfl rfl rfl rfl (fun h => ?_) (fun h => ?_) <;> first | (exfalso; simp only [decide_eq_true_eq, decide_eq_false_iff_not, Bool.not_eq_true', Bool.not_eq_false'] at h; omega) | (with_reducible have hp := of_decide_eq_true h)))
            | (show Vc _ _ _ _ _ _; first
      | refine Vc.seq ?_
      | refine Vc.region ?_
      | refine Vc.condT rfl ?_
      | refine Vc.skip ?_
      | refine Vc.block ?_)
            | (show KSeq _ _ _ _ _ _ _; refine KSeq.normal ?_)
            | (show KBlock _ _ _ _ _ _; refine KBlock.normal ?_))
          have hset : ∀ (cs : By), (((bitB false :: cs).set 0 (1 : UInt8)).flatMap byC) = byL (bitB true :: cs) := fun cs => byL_flat (bitB true :: cs)
          rw [hset] at H
          exact KLoop.again (j + 1, true, some ⟨b7, o7, none⟩, c7) ⟨got_succ (k := at_ + j) rfl (by omega), rfl, trivial⟩ ⟨rfl, rfl, rfl, rfl, trivial⟩ ⟨hg2, by show j + 1 ≤ l.length; omega, hcut2, (fun _ => Nat.succ_pos _), Holds.drop1 H⟩ (by dsimp only; omega)
      · have hs : f = true ∨ j = 60 ∨ j = l.length := by
          cases f with
          | true => exact .inl rfl
          | false => exact .inr (by have : ¬ (at_ + j < n ∧ j < 60) := fun h => hgo ⟨h, rfl⟩; omega)
        have hj0 : 0 < j := by
          rcases hs with h | h | h
          · exact hf h
          · omega
          · omega
        obtain ⟨hk1, hk2⟩ := cut_end hcut hj hjl hs
        have hstep := sentG_step (k := j) (e := f) E hno hlt (by rw [hl]; exact hk1) (by rw [hl]; exact hk2)
        rw [hl] at hstep
        obtain ⟨pc, hpc⟩ : ∃ pc, (l.take j).map (·.1) = pc := ⟨_, rfl⟩
        have hpcl : pc.length = j := by rw [← hpc, List.length_map, List.length_take]; omega
        rw [hpc] at hstep H hd0
        have hfin : ∀ (A9 : Option Addr) (c9 : Nat) (ov2 : Value) (w : World) (q1 q2 : Asn), Holds J w (own ov2 24 5 (fl.length + 1) (fl.flatMap fmC ++ fmC ⟨frameS E 4 (plusS E.base at_ : Nat) ((bitB f :: pc) ++ tailS E), .slice A9 (1 + j + 2) c9⟩) :: q1 :: own (.slice A9 (1 + j + 2) c9) 5 1 (1 + j + 2) (byL (bitB f :: pc) ++ byL (tailS E)) :: q2 :: refQ e E ⟨.slice A1 E.out.length c1, .slice A2 E.inn.length c2, av, .slice A3 cd.length c3, cd⟩ L) →
            ∃ J2, Imm.Le I J2 ∧ ∃ fl2 : List Fm, fl2.map (·.fr) ++ sentG E (n - (at_ + j)) (at_ + j) ((E.out.take n).drop (at_ + j)) = sentS E n ∧ (∀ x ∈ fl2, FmOk J2 x) ∧ fl2.length ≤ at_ + j ∧ Holds J2 w (own ov2 24 5 fl2.length (fl2.flatMap fmC) :: refQ e E ⟨.slice A1 E.out.length c1, .slice A2 E.inn.length c2, av, .slice A3 cd.length c3, cd⟩ L) := fun A9 c9 ov2 w q1 q2 H => by
          have H : Holds J w (own ov2 24 5 (fl.length + 1) (fl.flatMap fmC ++ fmC ⟨frameS E 4 (plusS E.base at_ : Nat) ((bitB f :: pc) ++ tailS E), .slice A9 (1 + j + 2) c9⟩) :: own (.slice A9 (1 + j + 2) c9) 5 1 (1 + j + 2) (byL ((bitB f :: pc) ++ tailS E)) :: refQ e E ⟨.slice A1 E.out.length c1, .slice A2 E.inn.length c2, av, .slice A3 cd.length c3, cd⟩ L) := by
            rw [show byL ((bitB f :: pc) ++ tailS E) = byL (bitB f :: pc) ++ byL (tailS E) from List.map_append]
            exact Holds.drop2 (Holds.drop1 H)
          obtain ⟨J2, hJ2, H, hs9⟩ := Holds.freezeOwn (Holds.f1 H)
          have hFm : FmOk J2 ⟨frameS E 4 (plusS E.base at_ : Nat) ((bitB f :: pc) ++ tailS E), .slice A9 (1 + j + 2) c9⟩ := by
            have e9 : ((bitB f :: pc) ++ tailS E).length = 1 + j + 2 := by rw [List.length_append, List.length_cons, hpcl]; show _ + 1 + 2 = _; omega
            show SlI J2 _ 1 ((bitB f :: pc) ++ tailS E).length (byL ((bitB f :: pc) ++ tailS E))
            rw [e9]
            exact hs9
          refine ⟨J2, hJ.trans hJ2, fl ++ [⟨frameS E 4 (plusS E.base at_ : Nat) ((bitB f :: pc) ++ tailS E), .slice A9 (1 + j + 2) c9⟩], ?_, fun x hx => ?_, by rw [List.length_append]; show fl.length + 1 ≤ at_ + j; omega, ?_⟩
          · rw [List.map_append, List.append_assoc, ← hfl, hl, hstep]
            rfl
          · rcases List.mem_append.1 hx with hx | hx
            · exact (hfo x hx).mono hJ2
            · rw [List.mem_singleton] at hx; subst hx; exact hFm
          · rw [List.length_append, flat_snoc]
            exact H
        cases f
        · have hs2 : j = 60 ∨ j = l.length := by rcases hs with h | h; cases h; exact h
          clear hs
          repeat' (first
            | (refine VcL.append (m := 2) (ds := byL (tailS E)) tabOk rfl rfl rfl rfl (Holds.f1 H) (Holds.own_src H) (byL_one _) (by show (_ + _) * 1 ≤ _; omega) rfl rfl rfl (fun v_ w H => ?_); obtain ⟨_, A9, c9, rfl⟩ := Holds.own_len H)
            | (refine VcL.append (m := 1) (ds := fmC ⟨frameS E 4 (plusS E.base at_ : Nat) ((bitB false :: pc) ++ tailS E), .slice A9 (1 + j + 2) c9⟩) tabOk rfl rfl rfl rfl (Holds.f3 H) (Holds.own_src H) (fmC_slice _) (by show (_ + 1) * 56 ≤ _; omega) rfl rfl rfl (fun ov2 w H => ?_))
            | (show VcL _ _ _ _ _ _ _ _; first
      | refine VcL.pures tabOk rfl ?_
      | refine VcL.nil ?_
      | refine VcL.buildSlice tabOk H rfl rfl rfl rfl rfl rfl (fun sv w H => ?_)
      | (show VcL _ _ _ _ (⟨_, .call ⟨.value (.func F_tithingref12_End_window), _, _⟩, _, _, _, _⟩ :: _) _ _ _; (refine VcL.callF ok_tithingref12_End_window rfl rfl rfl rfl (Rets.mono (windowR_any (E := E) (m := ⟨.slice A1 E.out.length c1, .slice A2 E.inn.length c2, av, .slice A3 cd.length c3, cd⟩) H (RdW.mem (by repeat (first | exact .head _ | apply List.Mem.tail))) rfl rfl hin) ?_); rintro _ w H; obtain ⟨_, A8, c8, rfl⟩ := Holds.own_len H))
      | (show VcL _ _ _ _ (⟨_, .call ⟨.value (.func F_tithingref12_End_frame), _, _⟩, _, _, _, _⟩ :: _) _ _ _; (refine VcL.callF ok_tithingref12_End_frame rfl rfl rfl rfl (Rets.mono (frameR_any (E := E) (m := ⟨.slice A1 E.out.length c1, .slice A2 E.inn.length c2, av, .slice A3 cd.length c3, cd⟩) H (RdW.mem (by repeat (first | exact .head _ | apply List.Mem.tail)))) ?_); rintro _ w ⟨rfl, H⟩))
      | (refine VcL.guard rfl rfl rfl rfl (fun h => ?_) (fun h => ?_) <;> first | (cases h; done) | (exfalso; simp only [decide_eq_true_eq, decide_eq_false_iff_not, Bool.not_eq_true', Bool.not_eq_false'] at h; omega) | (with_reducible have hp := of_decide_eq_true h) | (with_reducible have hp := of_decide_eq_false h) | skip))
            | (show Vc _ _ _ _ _ _; first
      | refine Vc.seq ?_
      | refine Vc.region ?_
      | refine Vc.condF rfl ?_
      | refine Vc.exit ?_)
            | (show KSeq _ _ _ _ _ _ _; first
      | refine KSeq.normal ?_
      | refine KSeq.exit ?_)
            | (show KBlock _ _ _ _ _ _; first
      | refine KBlock.normal ?_
      | refine KBlock.here ?_)
            | refine KLoop.exit ?_)
          all_goals exact KLoop.again (at_ + j, ov2) ⟨rfl, rfl, trivial⟩ ⟨rfl, rfl, trivial⟩ ⟨by show at_ + j ≤ n; omega, hfin _ _ _ _ _ _ H⟩ (by show _ < _; omega)
        ·
          repeat' (first
            | (refine VcL.append (m := 2) (ds := byL (tailS E)) tabOk rfl rfl rfl rfl (Holds.f1 H) (Holds.own_src H) (byL_one _) (by show (_ + _) * 1 ≤ _; omega) rfl rfl rfl (fun v_ w H => ?_); obtain ⟨_, A9, c9, rfl⟩ := Holds.own_len H)
            | (refine VcL.append (m := 1) (ds := fmC ⟨frameS E 4 (plusS E.base at_ : Nat) ((bitB true :: pc) ++ tailS E), .slice A9 (1 + j + 2) c9⟩) tabOk rfl rfl rfl rfl (Holds.f3 H) (Holds.own_src H) (fmC_slice _) (by show (_ + 1) * 56 ≤ _; omega) rfl rfl rfl (fun ov2 w H => ?_))
            | (show VcL _ _ _ _ _ _ _ _; first
      | refine VcL.pures tabOk rfl ?_
      | refine VcL.nil ?_
      | (show VcL _ _ _ _ (⟨_, .load _ _, _, _, _, _⟩ :: _) _ _ _; refine VcL.load1 tabOk rfl rfl rfl rfl rfl (by exact RdW.get (by assumption) rfl H) ?_)
      | (show VcL _ _ _ _ (⟨_, .indexAddr _ _ _, _, _, _, _⟩ :: _) _ _ _; refine VcL.indexAddr tabOk rfl rfl rfl rfl rfl rfl (by omega) (by omega) ?_)
      | refine VcL.buildSlice tabOk H rfl rfl rfl rfl rfl rfl (fun sv w H => ?_)
      | (show VcL _ _ _ _ (⟨_, .call ⟨.value (.func F_tithingref12_End_window), _, _⟩, _, _, _, _⟩ :: _) _ _ _; (refine VcL.callF ok_tithingref12_End_window rfl rfl rfl rfl (Rets.mono (windowR_any (E := E) (m := ⟨.slice A1 E.out.length c1, .slice A2 E.inn.length c2, av, .slice A3 cd.length c3, cd⟩) H (RdW.mem (by repeat (first | exact .head _ | apply List.Mem.tail))) rfl rfl hin) ?_); rintro _ w H; obtain ⟨_, A8, c8, rfl⟩ := Holds.own_len H))
      | (show VcL _ _ _ _ (⟨_, .call ⟨.value (.func F_tithingref12_End_frame), _, _⟩, _, _, _, _⟩ :: _) _ _ _; (refine VcL.callF ok_tithingref12_End_frame rfl rfl rfl rfl (Rets.mono (frameR_any (E := E) (m := ⟨.slice A1 E.out.length c1, .slice A2 E.inn.length c2, av, .slice A3 cd.length c3, cd⟩) H (RdW.mem (by repeat (first | exact .head _ | apply List.Mem.tail)))) ?_); rintro _ w ⟨rfl, H⟩))
      | (refine VcL.guard rfl rfl rfl rfl (fun h => ?_) (fun h => ?_) <;> first | (cases h; done) | (with_reducible have hp := of_decide_eq_true h) | (with_reducible have hp := of_decide_eq_false h) | skip))
            | (show Vc _ _ _ _ _ _; first
      | refine Vc.seq ?_
      | refine Vc.region ?_
      | refine Vc.condF rfl ?_
      | refine Vc.exit ?_)
            | (show KSeq _ _ _ _ _ _ _; first
      | refine KSeq.normal ?_
      | refine KSeq.exit ?_)
            | (show KBlock _ _ _ _ _ _; first
      | refine KBlock.normal ?_
      | refine KBlock.here ?_)
            | refine KLoop.exit ?_)
          all_goals exact KLoop.again (at_ + j, ov2) ⟨rfl, rfl, trivial⟩ ⟨rfl, rfl, trivial⟩ ⟨by show at_ + j ≤ n; omega, hfin _ _ _ _ _ _ H⟩ (by show _ < _; omega)
    · obtain rfl : at_ = n := by omega
      repeat' (first
        | rw [hrs0]
        | (show VcL _ _ _ _ _ _ _ _; first
      | refine VcL.pures tabOk rfl ?_
      | refine VcL.nil ?_
      | (show VcL _ _ _ _ (⟨_, .load _ _, _, _, _, _⟩ :: _) _ _ _; refine VcL.load1 tabOk rfl rfl rfl rfl rfl (by exact Holds.cell (Holds.f1 H) rfl) ?_)
      | (refine VcL.guard rfl rfl rfl rfl (fun h => ?_) (fun h => ?_) <;> first | (cases h; done) | skip))
        | (show Vc _ _ _ _ _ _; first
      | refine Vc.seq ?_
      | refine Vc.region ?_
      | refine Vc.ret ?_
      | refine Vc.exit ?_
      | (refine Vc.cond rfl (fun h => ?_) (fun h => ?_) <;> first | (exfalso; simp only [decide_eq_true_eq, decide_eq_false_iff_not, Bool.not_eq_true', Bool.not_eq_false'] at h; omega) | (with_reducible have hp := of_decide_eq_false h)))
        | (show KSeq _ _ _ _ _ _ _; first
      | refine KSeq.normal ?_
      | refine KSeq.exit ?_)
        | (show KBlock _ _ _ _ _ _; refine KBlock.here ?_)
        | refine KLoop.exit ?_
        | (show KEnd _ _ _ _ _ _ _; refine KEnd.fin (Or.inr rfl) ⟨_, (ResL.tmp rfl ResL.nil), ?_⟩))
      refine ⟨J, hJ, fl, ?_, hfo, by omega, Holds.swap (ref_close _ (hm.mono hJ) (Holds.re [1, 1, 1, 1, 0] H rfl))⟩
      rw [Nat.sub_self] at hfl
      simpa [sentG] using hfl
end Go.Proofs.Ytpfgcchammlpgaa.V
