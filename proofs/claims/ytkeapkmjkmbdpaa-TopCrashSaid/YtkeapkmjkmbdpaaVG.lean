/- The program's disk: a crash. -/
import Derived.Test.YtkeapkmjkmbdpaaVF
namespace Go.Proofs.Ytkeapkmjkmbdpaa.V
open Go Go.Proofs.YtkeapkmjkmbdpaaV
set_option linter.unusedVariables false
set_option linter.unusedSimpArgs false
set_option maxHeartbeats 1000000
set_option maxRecDepth 4000
attribute [local irreducible] IntKind.wrap
variable {I : Imm} {w : World} {L : List Asn}
structure Hold (p : Prop) : Prop where mk ::
  out : p
theorem set_same {α : Type} {l : List α} {k : Nat} {x : α} (h : l[k]? = some x) : l.set k x = l := by
  apply List.ext_getElem?
  intro i
  rw [List.getElem?_set]
  split
  · rename_i e
    subst e
    rw [h, if_pos]
    exact (List.getElem?_eq_some_iff.1 h).1
  · rfl
theorem bk_flat (l : List Vb) : l.flatMap bkC = l.map (·.1) := by
  induction l with
  | nil => rfl
  | cons x r ih => rw [List.flatMap_cons, ih]; rfl
theorem bk_set {l : List Vb} {k : Nat} {x : Vb} (h : l[k]? = some x) (b : By) : (l.set k (x.1, b)).flatMap bkC = l.flatMap bkC := by
  rw [bk_flat, bk_flat, List.map_set, set_same]
  rw [List.getElem?_map, h]
  rfl
def boC (b : Bool) : List Value := [.bool b]
theorem boC_len (b : Bool) : (boC b).length = 1 := rfl
/-- How much of a write is done, whether one may be torn yet. -/
def crOut (done : List Bool) (torn i : Nat) (f : Bool) : Nat × Bool := if i < done.length ∧ atD done i = true then (256, f) else if f then (torn, false) else (0, f)
theorem crG_step {done : List Bool} {torn i : Nat} {f : Bool} {bs : List By} {x : Nat × By} {r : List (Nat × By)} (hx : x.2.length = 256) (hi : x.1 < bs.length) (hb : (atD bs x.1).length = 256) :
    crG done torn i f bs (x :: r) = crG done torn (i + 1) (crOut done torn i f).2 (bs.set x.1 (x.2.take (crOut done torn i f).1 ++ (atD bs x.1).drop (crOut done torn i f).1)) r := by
  rw [crG]
  unfold crOut
  split
  · dsimp only
    rw [List.take_of_length_le (by omega), List.drop_of_length_le (by omega), List.append_nil]
  · split
    · rfl
    · dsimp only
      rw [List.take_zero, List.drop_zero, List.nil_append, set_same (atD_get hi)]
theorem CrashP_bad {d : Nat} {D : Dk} (H : Holds I w (dskA d D :: L)) {A : Option Addr} {m c : Nat} {torn : Int} (ht : ¬ (0 ≤ torn ∧ torn < 256)) :
    Rets Try.prog F_journal_Disk_Crash #[ptr d, .slice A m c, .int .i64 torn] w fun u w' => u = .int .i64 2 ∧ Holds I w' (dskA d D :: L) := by
  refine ok_journal_Disk_Crash.rets rfl ?_
  repeat' (first
    | (show VcL _ _ _ _ _ _ _ _; first
      | refine VcL.pures tabOk rfl ?_
      | refine VcL.nil ?_
      | (show VcL _ _ _ _ (⟨_, .call ⟨.value (.func F_journal_Disk_none), _, _⟩, _, _, _, _⟩ :: _) _ _ _; (refine VcL.callF ok_journal_Disk_none rfl rfl rfl rfl (Rets.mono (dskNone_any H) ?_); rintro _ w ⟨rfl, H⟩))
      | (refine VcL.guard rfl rfl rfl rfl (fun h => ?_) (fun h => ?_) <;> first | (with_reducible have hp := of_decide_eq_true h) | (with_reducible have hp := of_decide_eq_false h)))
    | (show Vc _ _ _ _ _ _; first
      | refine Vc.seq ?_
      | refine Vc.region ?_
      | refine Vc.condT rfl ?_
      | refine Vc.condF rfl ?_
      | refine Vc.ret ?_
      | refine Vc.block ?_
      | (refine Vc.cond rfl (fun h => ?_) (fun h => ?_) <;> first | (exfalso; simp only [decide_eq_true_eq, decide_eq_false_iff_not, Bool.not_eq_true', Bool.not_eq_false'] at h; omega) | (with_reducible have hp := of_decide_eq_true h)))
    | (show KSeq _ _ _ _ _ _ _; first
      | refine KSeq.normal ?_
      | refine KSeq.ret ?_)
    | (show KBlock _ _ _ _ _ _; refine KBlock.ret ?_)
    | (show KEnd _ _ _ _ _ _ _; refine KEnd.fin (Or.inr rfl) ⟨_, (ResL.tmp rfl ResL.nil), ?_⟩))
  all_goals exact ⟨rfl, H⟩
theorem CrashP_good {d : Nat} {D : Dk} (H : Holds I w (dskA d D :: L)) (hw : D.writes < 2 ^ 40) {v : Value} {done : List Bool} (hv : SlR I L v 1 done.length (done.flatMap boC)) {torn : Nat} (ht : torn < 256) :
    Rets Try.prog F_journal_Disk_Crash #[ptr d, v, .int .i64 (torn : Nat)] w fun u w' => u = .int .i64 0 ∧ Holds I w' (dskA d ⟨crG done torn 0 true D.blocks D.wait, [], D.writes, -1⟩ :: L) := by
  obtain ⟨A, cap1, rfl, hcap1⟩ := hv.form
  obtain ⟨b0, o0, cap, A2, cap2, P, rfl, hk, hcap, HB⟩ := dsk_open H
  clear H
  have H := HB
  clear HB
  have hmany := hk.many
  have hwr : P.dk.writes = P.writes := rfl
  rw [hwr] at hw
  have hok : DkOk ⟨crG done torn 0 true P.dk.blocks P.dk.wait, [], P.dk.writes, -1⟩ := by
    have := crS_ok hk.ok done (torn : Int)
    unfold crS at this
    rw [if_pos (by omega)] at this
    exact this
  refine ok_journal_Disk_Crash.rets rfl ?_
  repeat' (first
    | (show VcL _ _ _ _ _ _ _ _; first
      | refine VcL.pures tabOk rfl ?_
      | refine VcL.nil ?_
      | (show VcL _ _ _ _ (⟨_, .load _ _, _, _, _, _⟩ :: _) _ _ _; refine VcL.load1 tabOk rfl rfl rfl rfl rfl (by exact Holds.cell H rfl) ?_)
      | (show VcL _ _ _ _ (⟨_, .call ⟨.value (.func F_journal_Disk_none), _, _⟩, _, _, _, _⟩ :: _) _ _ _; (refine VcL.callF ok_journal_Disk_none rfl rfl rfl rfl (Rets.mono (noneD_any H Holds.toW hk.some) ?_); rintro _ w ⟨rfl, H⟩))
      | (refine VcL.guard rfl rfl rfl rfl (fun h => ?_) (fun h => ?_) <;> first | (cases h; done) | (with_reducible have hp := of_decide_eq_false h)))
    | (show Vc _ _ _ _ _ _; first
      | refine Vc.seq ?_
      | refine Vc.region ?_
      | refine Vc.condF rfl ?_
      | refine Vc.skip ?_
      | refine Vc.block ?_
      | (refine Vc.cond rfl (fun h => ?_) (fun h => ?_) <;> first | (exfalso; simp only [decide_eq_true_eq, decide_eq_false_iff_not, Bool.not_eq_true', Bool.not_eq_false'] at h; omega) | (with_reducible have hp := of_decide_eq_false h)))
    | (show KSeq _ _ _ _ _ _ _; refine KSeq.normal ?_)
    | (show KBlock _ _ _ _ _ _; refine KBlock.normal ?_))
  refine Vc.loopS [(0, _), (1, _), (2, _), (24, _), (25, _)] (fun s : Nat × Bool => [(7, .bool s.2), (26, .int .i64 s.1)]) (fun s w => s.1 ≤ P.wt.length ∧ ∃ bl : List Vb, bl.length = P.bl.length ∧ (∀ x ∈ bl, x.2.length = 256) ∧ crG done torn s.1 s.2 (bl.map (·.2)) ((P.wt.drop s.1).map fun x => (x.1, x.2.2)) = crG done torn 0 true P.dk.blocks P.dk.wait ∧
    Holds I w (blk d 53 (dkV P (.slice (some ⟨b0, o0, none⟩) P.bl.length cap) (.slice A2 P.wt.length cap2)) :: own (.slice (some ⟨b0, o0, none⟩) P.bl.length cap) 40 1 P.bl.length (bl.flatMap bkC) :: own (.slice A2 P.wt.length cap2) 43 2 P.wt.length (P.wt.flatMap wkC) :: bysA (bl ++ P.wt.map (·.2)) :: L)) (fun s _ => P.wt.length - s.1) (0, true) ⟨rfl, rfl, trivial⟩ ⟨rfl, rfl, rfl, rfl, rfl, trivial⟩ ⟨Nat.zero_le _, P.bl, rfl, hk.bl, rfl, H⟩ ?_
  rintro ⟨k, f⟩ w ⟨hkk, bl, hbl, hl256, hcr, H⟩
  dsimp only at hkk hcr ⊢
  by_cases hlt : k < P.wt.length
  · obtain ⟨z, hz⟩ : ∃ z, atD P.wt k = z := ⟨_, rfl⟩
    have hzm := hk.wt _ (atD_mem hlt)
    have hz2 : z.2 ∈ P.wt.map (·.2) := List.mem_map_of_mem (hz ▸ atD_mem hlt)
    rw [hz] at hzm
    have hgk : P.wt[k]? = some z := by rw [← hz]; exact atD_get hlt
    rw [drop_atD hlt, hz, List.map_cons] at hcr
    obtain ⟨A3, c3, hf⟩ := bys_form (x := z.2) (List.mem_append_right _ hz2) (H.f3)
    obtain ⟨bk, v, dat⟩ := z
    dsimp only at hf hzm hz2 hcr
    subst hf
    obtain ⟨b4, o4, rfl⟩ : ∃ b4 o4, A2 = some ⟨b4, o4, none⟩ := by
      obtain ⟨b, o, c, e, _⟩ := Holds.own_some (by omega) H.f2
      injection e with e1 e2 e3
      exact ⟨b, o, e1⟩
    obtain ⟨x, hx⟩ : ∃ x, atD bl bk = x := ⟨_, rfl⟩
    have hq : bl[bk]? = some x := by rw [← hx]; exact atD_get (by omega)
    have hxl : x.2.length = 256 := hl256 x (hx ▸ atD_mem (by omega))
    have hat : atD (bl.map (·.2)) bk = x.2 := atD_of (by rw [List.getElem?_map, hq]; rfl)
    rw [crG_step hzm.2 (by rw [List.length_map]; omega) (by rw [hat]; exact hxl), hat] at hcr
    have H1 := bys_take (k := bk) (x := x) (by rw [List.getElem?_append_left (by omega)]; exact hq) (H.re [3, 0, 0, 0] rfl)
    rw [List.eraseIdx_append_of_lt_length (by omega)] at H1
    have hdat := bys_rd (x := (.slice A3 dat.length c3, dat)) (List.mem_append_right _ hz2) H1.drop
    obtain ⟨xv, old⟩ := x
    dsimp only at hxl hcr H1
    clear H
    have H := H1.re [4, 2, 2, 1, 0] rfl
    clear H1
    obtain ⟨b5, o5, rfl, _⟩ := hdat.at (by omega)
    have hc3 : dat.length ≤ c3 := by
      obtain ⟨_, _, e, h⟩ := hdat.form
      injection e with _ _ e
      omega
    have hz256 : dat.length = 256 := hzm.2
    obtain ⟨q, hqo⟩ : ∃ q, crOut done torn k f = q := ⟨_, rfl⟩
    rw [hqo] at hcr
    have hq1 : q.1 ≤ 256 := by
      rw [← hqo]; unfold crOut
      split
      · exact Nat.le_refl _
      · split
        · show torn ≤ 256; omega
        · exact Nat.zero_le _
    by_cases hkd : k < done.length
    · obtain ⟨b6, o6, rfl, hrd⟩ := hv.at (by omega)
      have hrd := hrd.elem boC_len (atD_get hkd)
      repeat' (first
        | (show Vc _ _ (.seq (.seq (.region 10 _ _) _) _) _ _ _; refine Vc.cut [(0, ptr d), (1, .slice (some ⟨b6, o6, none⟩) done.length cap1), (2, .int .i64 (torn : Nat)), (9, ptr b), (24, .slice (some ⟨b4, o4, none⟩) P.wt.length cap2), (25, .int .i64 (P.wt.length : Nat)), (26, .int .i64 (k : Nat))] (fun q : Nat × Bool => [(7, .bool q.2), (10, .int .i64 (q.1 : Nat))]) (fun q' w => q' = q ∧ Holds I w (blk b 43 [.int .i64 (bk : Int), .slice (some ⟨b5, o5, none⟩) dat.length c3] :: own xv 5 1 old.length (byL old) :: bysA (bl.eraseIdx bk ++ P.wt.map (·.2)) :: blk d 53 (dkV P (.slice (some ⟨b0, o0, none⟩) P.bl.length cap) (.slice (some ⟨b4, o4, none⟩) P.wt.length cap2)) :: own (.slice (some ⟨b0, o0, none⟩) P.bl.length cap) 40 1 P.bl.length (bl.flatMap bkC) :: own (.slice (some ⟨b4, o4, none⟩) P.wt.length cap2) 43 2 P.wt.length (P.wt.flatMap wkC) :: L)) ?_ ?_; rotate_left; rintro q' w ⟨rfl, H⟩; rotate_right)
        | (show Vc _ _ (.region 14 _ _) _ _ _; rcases (Holds.f1 H).own_cases with ⟨_, h, _⟩ | ⟨bx, ox, cx, pre, rest, hxv, h2, h3, h4, h5, HB⟩ <;> first | (exfalso; omega) | (subst hxv; subst h4; clear H; have H := Holds.swap HB; clear HB; refine Hold.out ?_))
        | (refine VcL.load1 tabOk rfl rfl rfl rfl rfl (RdW.get0 hrd rfl H.drop.drop.drop.drop.drop.drop) ?_)
        | (show VcL _ _ _ _ _ _ _ _; first
      | refine VcL.pures tabOk rfl ?_
      | refine VcL.nil ?_
      | (show VcL _ _ _ _ (⟨_, .load _ _, _, _, _, _⟩ :: _) _ _ _; refine VcL.loadOwnN0 tabOk rfl rfl rfl rfl rfl rfl H (fun _ => rfl) (by assumption) (by exact rfl) (by exact rfl) (by exact rfl) ?_)
      | (show VcL _ _ _ _ (⟨_, .indexAddr _ _ _, _, _, _, _⟩ :: _) _ _ _; refine VcL.indexAddr tabOk rfl rfl rfl rfl rfl rfl (by omega) (by omega) ?_)
      | refine VcL.alloc tabOk H rfl rfl rfl rfl (fun b w H => ?_)
      | (show VcL _ _ _ _ (⟨_, .store _ _ _, _, _, _, _⟩ :: _) _ _ _; refine VcL.store tabOk rfl (by exact H) rfl rfl (by exact rfl) (by exact rfl) (by exact rfl) (by exact rfl) (fun w H => ?_))
      | (refine VcL.guard rfl rfl rfl rfl (fun h => ?_) (fun h => ?_) <;> first | (exfalso; simp only [decide_eq_true_eq, decide_eq_false_iff_not, Bool.not_eq_true', Bool.not_eq_false'] at h; omega) | (with_reducible have hp := of_decide_eq_true h)))
        | (show Vc _ _ _ _ _ _; first
      | refine Vc.seq ?_
      | refine Vc.region ?_
      | refine Vc.skip ?_
      | refine Vc.block ?_
      | (refine Vc.cond rfl (fun h => ?_) (fun h => ?_) <;> first | (exfalso; simp only [decide_eq_true_eq, decide_eq_false_iff_not, Bool.not_eq_true', Bool.not_eq_false'] at h; omega) | (with_reducible have hp := of_decide_eq_true h) | skip))
        | (show KSeq _ _ _ _ _ _ _; refine KSeq.normal ?_))
      · exact KCut.join (256, f) ⟨rfl, rfl, trivial⟩ ⟨rfl, rfl, rfl, rfl, rfl, rfl, rfl, trivial⟩ ⟨by rw [← hqo]; unfold crOut; rw [if_pos ⟨hkd, h⟩], H.re [0, 4, 3, 1, 1, 0] rfl⟩
      · exact KCut.join (torn, false) ⟨rfl, rfl, trivial⟩ ⟨rfl, rfl, rfl, rfl, rfl, rfl, rfl, trivial⟩ ⟨by rw [← hqo]; unfold crOut; rename_i h0; rw [if_neg (fun e => by rw [e.2] at h0; cases h0), h]; rfl, H.re [0, 4, 3, 1, 1, 0] rfl⟩
      · exact KCut.join (0, f) ⟨rfl, rfl, trivial⟩ ⟨rfl, rfl, rfl, rfl, rfl, rfl, rfl, trivial⟩ ⟨by rw [← hqo]; unfold crOut; rename_i h0; rw [if_neg (fun e => by rw [e.2] at h0; cases h0), h]; rfl, H.re [0, 4, 3, 1, 1, 0] rfl⟩
      · refine ⟨?_⟩
        repeat' (first
          | (refine VcD.copyB (m := q'.1) (ds := (byL dat).take (q'.1 * 1)) tabOk rfl rfl rfl rfl (Holds.f1 H) (Src.firsts (SlR.src (SlR.take hdat (by show _ ≤ dat.length; omega)) H.drop.drop) ⟨_, _, rfl⟩) rfl (by rw [List.length_take, byL_len, hzm.2]; show min (q'.1 * 1) 256 = q'.1 * 1; omega) (fun u hu => by_one dat u (List.mem_of_mem_take (List.mem_of_mem_take hu))) ?_ rfl rfl rfl (fun w H => ⟨Holds.drop H, ?_⟩))
          | (show VcL _ _ _ _ _ _ _ _; first
      | refine VcL.pures tabOk rfl ?_
      | refine VcL.nil ?_)
          | (show VcD _ _ _ _ _ _ _ _ _; first
      | refine VcD.pures tabOk rfl ?_
      | refine VcD.done ?_
      | (show VcD _ _ _ _ _ (.pure _ _) _ _ _; first
      | refine VcD.indexAddr tabOk rfl rfl rfl rfl rfl rfl rfl (by omega) (by omega) ?_
      | refine VcD.sliceTo tabOk rfl rfl rfl rfl rfl rfl rfl (by omega) ?_)
      | (show VcD _ _ _ _ _ (.take _ _) _ _ _; refine VcD.load1 tabOk rfl rfl rfl rfl rfl rfl (by intro w_ hw_; first | exact Holds.cell hw_ rfl | exact Holds.cell (Holds.f2 hw_) rfl | exact Holds.ownCell0 (Holds.f3 hw_) (fun _ => rfl) (by assumption) rfl) (by exact rfl) ?_))
          | (show Vc _ _ _ _ _ _; first
      | refine Vc.region ?_
      | (refine Vc.drawn (id := 14) (.pure 0 (.pure 1 (.pure 2 (.pure 4 (.pure 8 (.pure 10 (.take 3 (.take 5 (.pure 6 (.take 7 (.take 9 (.pure 11 (.only 12 .done))))))))))))) (.one (fun w => Holds I w (blk b 43 [.int .i64 (bk : Int), .slice (some ⟨b5, o5, none⟩) dat.length c3] :: bysA (bl.eraseIdx bk ++ P.wt.map (·.2)) :: blk d 53 (dkV P (.slice (some ⟨b0, o0, none⟩) P.bl.length cap) (.slice (some ⟨b4, o4, none⟩) P.wt.length cap2)) :: own (.slice (some ⟨b0, o0, none⟩) P.bl.length cap) 40 1 P.bl.length (bl.flatMap bkC) :: own (.slice (some ⟨b4, o4, none⟩) P.wt.length cap2) 43 2 P.wt.length (P.wt.flatMap wkC) :: L))) mixed (by kernel_rfl) (by exact Holds.drop (Holds.swap (Holds.drew H _))) ?_; have H := H.drew (w.drawn + 1)))
          | (show KSeq _ _ _ _ _ _ _; refine KSeq.normal ?_)
          | (show KBlock _ _ _ _ _ _; refine KBlock.normal ?_))
        · simp only [List.length_append]
          rw [h3]
          show pre.length + min q'.1 old.length * 1 ≤ _
          omega
        have e : over (pre ++ byL old ++ rest) pre.length (((byL dat).take (q'.1 * 1)).take (min q'.1 old.length * 1)) = pre ++ byL (dat.take q'.1 ++ old.drop q'.1) ++ rest := by
          rw [Nat.mul_one, Nat.mul_one, Nat.min_eq_left (by omega), List.take_take, Nat.min_self, over_pre (by rw [List.length_take, byL_len, byL_len]; omega)]
          unfold byL
          rw [← List.map_take, List.length_map, List.length_take, Nat.min_eq_left (by omega), ← List.map_drop, ← List.map_append]
        have hnl : (dat.take q'.1 ++ old.drop q'.1).length = old.length := by rw [torn_len hzm.2 hxl hq1, hxl]
        have H2 : Holds I w (blk bx 5 (pre ++ byL (dat.take q'.1 ++ old.drop q'.1) ++ rest) :: _) := e ▸ H
        have H3 := (H2.drop1.own_mk (sz := 1) (n := old.length) (cap := cx) h2 (by rw [byL_len, hnl, Nat.mul_one]) h5)
        have hlt2 : bk < bl.length := by omega
        have H4 := bys_put (xs := bl ++ P.wt.map (·.2)) (k := bk) (y := (.slice (some ⟨bx, pre.length, none⟩) old.length cx, dat.take q'.1 ++ old.drop q'.1)) (by rw [List.length_append]; omega) (by
          rw [List.eraseIdx_append_of_lt_length hlt2, hnl]
          exact H3)
        rw [List.set_append_left _ _ hlt2] at H4
        refine KLoop.again (k + 1, q'.2) ⟨rfl, got_succ rfl (by omega), trivial⟩ ⟨rfl, rfl, rfl, rfl, rfl, trivial⟩ ⟨hlt, bl.set bk (.slice (some ⟨bx, pre.length, none⟩) old.length cx, dat.take q'.1 ++ old.drop q'.1), by rw [List.length_set]; exact hbl, fun x hx => ?_, ?_, ?_⟩ (by show P.wt.length - (k + 1) < P.wt.length - k; omega)
        · rcases List.mem_or_eq_of_mem_set hx with hx | rfl
          · exact hl256 x hx
          · exact hnl.trans hxl
        · rw [List.map_set]
          exact hcr
        · rw [bk_set hq]
          exact H4.re [1, 1, 1, 0] rfl
    ·
      repeat' (first
        | (show Vc _ _ (.region 14 _ _) _ _ _; rcases (Holds.f1 H).own_cases with ⟨_, h, _⟩ | ⟨bx, ox, cx, pre, rest, hxv, h2, h3, h4, h5, HB⟩ <;> first | (exfalso; omega) | (subst hxv; subst h4; clear H; have H := Holds.swap HB; clear HB; refine Hold.out ?_))
        | (show Vc _ _ (.seq (.seq (.region 10 _ _) _) _) _ _ _; refine Vc.cut [(0, ptr d), (1, .slice A done.length cap1), (2, .int .i64 (torn : Nat)), (9, ptr b), (24, .slice (some ⟨b4, o4, none⟩) P.wt.length cap2), (25, .int .i64 (P.wt.length : Nat)), (26, .int .i64 (k : Nat))] (fun q : Nat × Bool => [(7, .bool q.2), (10, .int .i64 (q.1 : Nat))]) (fun q' w => q' = q ∧ Holds I w (blk b 43 [.int .i64 (bk : Int), .slice (some ⟨b5, o5, none⟩) dat.length c3] :: own xv 5 1 old.length (byL old) :: bysA (bl.eraseIdx bk ++ P.wt.map (·.2)) :: blk d 53 (dkV P (.slice (some ⟨b0, o0, none⟩) P.bl.length cap) (.slice (some ⟨b4, o4, none⟩) P.wt.length cap2)) :: own (.slice (some ⟨b0, o0, none⟩) P.bl.length cap) 40 1 P.bl.length (bl.flatMap bkC) :: own (.slice (some ⟨b4, o4, none⟩) P.wt.length cap2) 43 2 P.wt.length (P.wt.flatMap wkC) :: L)) ?_ ?_; rotate_left; rintro q' w ⟨rfl, H⟩; rotate_right)
        | (show VcL _ _ _ _ _ _ _ _; first
      | refine VcL.pures tabOk rfl ?_
      | refine VcL.nil ?_
      | (show VcL _ _ _ _ (⟨_, .load _ _, _, _, _, _⟩ :: _) _ _ _; refine VcL.loadOwnN0 tabOk rfl rfl rfl rfl rfl rfl H (fun _ => rfl) (by assumption) (by exact rfl) (by exact rfl) (by exact rfl) ?_)
      | (show VcL _ _ _ _ (⟨_, .indexAddr _ _ _, _, _, _, _⟩ :: _) _ _ _; refine VcL.indexAddr tabOk rfl rfl rfl rfl rfl rfl (by omega) (by omega) ?_)
      | refine VcL.alloc tabOk H rfl rfl rfl rfl (fun b w H => ?_)
      | (show VcL _ _ _ _ (⟨_, .store _ _ _, _, _, _, _⟩ :: _) _ _ _; refine VcL.store tabOk rfl (by exact H) rfl rfl (by exact rfl) (by exact rfl) (by exact rfl) (by exact rfl) (fun w H => ?_))
      | (refine VcL.guard rfl rfl rfl rfl (fun h => ?_) (fun h => ?_) <;> first | (exfalso; simp only [decide_eq_true_eq, decide_eq_false_iff_not, Bool.not_eq_true', Bool.not_eq_false'] at h; omega) | (with_reducible have hp := of_decide_eq_false h)))
        | (show Vc _ _ _ _ _ _; first
      | refine Vc.seq ?_
      | refine Vc.region ?_
      | refine Vc.condF rfl ?_
      | refine Vc.skip ?_
      | refine Vc.block ?_
      | (refine Vc.cond rfl (fun h => ?_) (fun h => ?_) <;> first | (exfalso; simp only [decide_eq_true_eq, decide_eq_false_iff_not, Bool.not_eq_true', Bool.not_eq_false'] at h; omega) | (with_reducible have hp := of_decide_eq_true h) | skip))
        | (show KSeq _ _ _ _ _ _ _; refine KSeq.normal ?_))
      · exact KCut.join (torn, false) ⟨rfl, rfl, trivial⟩ ⟨rfl, rfl, rfl, rfl, rfl, rfl, rfl, trivial⟩ ⟨by rw [← hqo]; unfold crOut; rw [if_neg (fun e => hkd e.1), h]; rfl, H.re [0, 4, 3, 1, 1, 0] rfl⟩
      · exact KCut.join (0, f) ⟨rfl, rfl, trivial⟩ ⟨rfl, rfl, rfl, rfl, rfl, rfl, rfl, trivial⟩ ⟨by rw [← hqo]; unfold crOut; rw [if_neg (fun e => hkd e.1), h]; rfl, H.re [0, 4, 3, 1, 1, 0] rfl⟩
      · refine ⟨?_⟩
        repeat' (first
          | (refine VcD.copyB (m := q'.1) (ds := (byL dat).take (q'.1 * 1)) tabOk rfl rfl rfl rfl (Holds.f1 H) (Src.firsts (SlR.src (SlR.take hdat (by show _ ≤ dat.length; omega)) H.drop.drop) ⟨_, _, rfl⟩) rfl (by rw [List.length_take, byL_len, hzm.2]; show min (q'.1 * 1) 256 = q'.1 * 1; omega) (fun u hu => by_one dat u (List.mem_of_mem_take (List.mem_of_mem_take hu))) ?_ rfl rfl rfl (fun w H => ⟨Holds.drop H, ?_⟩))
          | (show VcL _ _ _ _ _ _ _ _; first
      | refine VcL.pures tabOk rfl ?_
      | refine VcL.nil ?_)
          | (show VcD _ _ _ _ _ _ _ _ _; first
      | refine VcD.pures tabOk rfl ?_
      | refine VcD.done ?_
      | (show VcD _ _ _ _ _ (.pure _ _) _ _ _; first
      | refine VcD.indexAddr tabOk rfl rfl rfl rfl rfl rfl rfl (by omega) (by omega) ?_
      | refine VcD.sliceTo tabOk rfl rfl rfl rfl rfl rfl rfl (by omega) ?_)
      | (show VcD _ _ _ _ _ (.take _ _) _ _ _; refine VcD.load1 tabOk rfl rfl rfl rfl rfl rfl (by intro w_ hw_; first | exact Holds.cell hw_ rfl | exact Holds.cell (Holds.f2 hw_) rfl | exact Holds.ownCell0 (Holds.f3 hw_) (fun _ => rfl) (by assumption) rfl) (by exact rfl) ?_))
          | (show Vc _ _ _ _ _ _; first
      | refine Vc.region ?_
      | (refine Vc.drawn (id := 14) (.pure 0 (.pure 1 (.pure 2 (.pure 4 (.pure 8 (.pure 10 (.take 3 (.take 5 (.pure 6 (.take 7 (.take 9 (.pure 11 (.only 12 .done))))))))))))) (.one (fun w => Holds I w (blk b 43 [.int .i64 (bk : Int), .slice (some ⟨b5, o5, none⟩) dat.length c3] :: bysA (bl.eraseIdx bk ++ P.wt.map (·.2)) :: blk d 53 (dkV P (.slice (some ⟨b0, o0, none⟩) P.bl.length cap) (.slice (some ⟨b4, o4, none⟩) P.wt.length cap2)) :: own (.slice (some ⟨b0, o0, none⟩) P.bl.length cap) 40 1 P.bl.length (bl.flatMap bkC) :: own (.slice (some ⟨b4, o4, none⟩) P.wt.length cap2) 43 2 P.wt.length (P.wt.flatMap wkC) :: L))) mixed (by kernel_rfl) (by exact Holds.drop (Holds.swap (Holds.drew H _))) ?_; have H := H.drew (w.drawn + 1)))
          | (show KSeq _ _ _ _ _ _ _; refine KSeq.normal ?_)
          | (show KBlock _ _ _ _ _ _; refine KBlock.normal ?_))
        · simp only [List.length_append]
          rw [h3]
          show pre.length + min q'.1 old.length * 1 ≤ _
          omega
        have e : over (pre ++ byL old ++ rest) pre.length (((byL dat).take (q'.1 * 1)).take (min q'.1 old.length * 1)) = pre ++ byL (dat.take q'.1 ++ old.drop q'.1) ++ rest := by
          rw [Nat.mul_one, Nat.mul_one, Nat.min_eq_left (by omega), List.take_take, Nat.min_self, over_pre (by rw [List.length_take, byL_len, byL_len]; omega)]
          unfold byL
          rw [← List.map_take, List.length_map, List.length_take, Nat.min_eq_left (by omega), ← List.map_drop, ← List.map_append]
        have hnl : (dat.take q'.1 ++ old.drop q'.1).length = old.length := by rw [torn_len hzm.2 hxl hq1, hxl]
        have H2 : Holds I w (blk bx 5 (pre ++ byL (dat.take q'.1 ++ old.drop q'.1) ++ rest) :: _) := e ▸ H
        have H3 := (H2.drop1.own_mk (sz := 1) (n := old.length) (cap := cx) h2 (by rw [byL_len, hnl, Nat.mul_one]) h5)
        have hlt2 : bk < bl.length := by omega
        have H4 := bys_put (xs := bl ++ P.wt.map (·.2)) (k := bk) (y := (.slice (some ⟨bx, pre.length, none⟩) old.length cx, dat.take q'.1 ++ old.drop q'.1)) (by rw [List.length_append]; omega) (by
          rw [List.eraseIdx_append_of_lt_length hlt2, hnl]
          exact H3)
        rw [List.set_append_left _ _ hlt2] at H4
        refine KLoop.again (k + 1, q'.2) ⟨rfl, got_succ rfl (by omega), trivial⟩ ⟨rfl, rfl, rfl, rfl, rfl, trivial⟩ ⟨hlt, bl.set bk (.slice (some ⟨bx, pre.length, none⟩) old.length cx, dat.take q'.1 ++ old.drop q'.1), by rw [List.length_set]; exact hbl, fun x hx => ?_, ?_, ?_⟩ (by show P.wt.length - (k + 1) < P.wt.length - k; omega)
        · rcases List.mem_or_eq_of_mem_set hx with hx | rfl
          · exact hl256 x hx
          · exact hnl.trans hxl
        · rw [List.map_set]
          exact hcr
        · rw [bk_set hq]
          exact H4.re [1, 1, 1, 0] rfl
  ·
    obtain rfl : k = P.wt.length := by omega
    rw [List.drop_length] at hcr
    have hcr : bl.map (·.2) = crG done torn 0 true P.dk.blocks P.dk.wait := hcr
    repeat' (first
      | (show VcL _ _ _ _ _ _ _ _; first
      | refine VcL.pures tabOk rfl ?_
      | refine VcL.nil ?_
      | (show VcL _ _ _ _ (⟨_, .store _ _ _, _, _, _, _⟩ :: _) _ _ _; refine VcL.store tabOk rfl (by exact H) rfl rfl (by exact rfl) (by exact rfl) (by exact rfl) (by exact rfl) (fun w H => ?_)))
      | (show Vc _ _ _ _ _ _; first
      | refine Vc.seq ?_
      | refine Vc.region ?_
      | refine Vc.ret ?_
      | refine Vc.exit ?_
      | (refine Vc.cond rfl (fun h => ?_) (fun h => ?_) <;> first | (exfalso; simp only [decide_eq_true_eq, decide_eq_false_iff_not, Bool.not_eq_true', Bool.not_eq_false'] at h; omega) | (with_reducible have hp := of_decide_eq_false h)))
      | (show KSeq _ _ _ _ _ _ _; first
      | refine KSeq.normal ?_
      | refine KSeq.exit ?_)
      | (show KBlock _ _ _ _ _ _; refine KBlock.here ?_)
      | refine KLoop.exit ?_
      | (show KEnd _ _ _ _ _ _ _; refine KEnd.fin (Or.inr rfl) ⟨_, (ResL.tmp rfl ResL.nil), ?_⟩))
    refine ⟨rfl, dsk_close (bv := .slice (some ⟨b0, o0, none⟩) P.bl.length cap) (wv := .slice none 0 0) ⟨bl, [], P.writes, -1⟩ ?_ hok ?_⟩
    · unfold Kd.dk; rw [hcr]; rfl
    · have H2 := H.drop2.own_nil (e := 43) (sz := 2)
      have H3 := bys_left (H2.re [3, 1, 1, 0] rfl)
      have H4 := H3.re [1, 1, 1, 0] rfl
      show Holds I w (blk d _ [_, _, _, _] :: own _ _ _ bl.length _ :: _ :: bysA (bl ++ []) :: L)
      rw [hbl, List.append_nil]
      exact H4
end Go.Proofs.Ytkeapkmjkmbdpaa.V
