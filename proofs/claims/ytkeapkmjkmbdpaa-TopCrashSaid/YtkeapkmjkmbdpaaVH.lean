/- The program's disk: a block is read. -/
import Derived.Test.YtkeapkmjkmbdpaaVG
namespace Go.Proofs.Ytkeapkmjkmbdpaa.V
open Go Go.Proofs.YtkeapkmjkmbdpaaV
set_option linter.unusedVariables false
set_option linter.unusedSimpArgs false
set_option maxHeartbeats 1000000
set_option maxRecDepth 4000
attribute [local irreducible] IntKind.wrap
variable {I : Imm} {w : World} {L : List Asn}
instance : Inhabited Vb := ⟨.bool false, []⟩
theorem dsk_ok {d : Nat} {D : Dk} (H : Holds I w (dskA d D :: L)) : DkOk D := by
  obtain ⟨b0, o0, cap, A2, cap2, P, rfl, hk, hcap, HB⟩ := dsk_open H
  exact hk.ok
def rdS (D : Dk) (k : Int) : By × Int := if 0 ≤ k ∧ k < D.blocks.length then (rdB D k.toNat, 0) else ([], 2)
abbrev rdStep (k : Nat) (o : By) (x : Nat × By) : By := if x.1 = k then x.2 else o
theorem rdF_none {k : Nat} (l : List (Nat × By)) : ∀ o, (∀ x ∈ l, x.1 ≠ k) → l.foldl (rdStep k) o = o := by
  induction l with
  | nil => exact fun o h => rfl
  | cons x r ih =>
    intro o h
    rw [List.foldl_cons, ih _ (fun y hy => h y (List.mem_cons_of_mem _ hy))]
    exact if_neg (h x List.mem_cons_self)
theorem rdB_none {D : Dk} {k : Nat} (h : ∀ x ∈ D.wait, x.1 ≠ k) : rdB D k = atD D.blocks k := rdF_none _ _ h
theorem rdB_some {D : Dk} {k i : Nat} (hi : i < D.wait.length) (hx : (atD D.wait i).1 = k) (h : ∀ j, i < j → j < D.wait.length → (atD D.wait j).1 ≠ k) : rdB D k = (atD D.wait i).2 := by
  unfold rdB
  have e : D.wait = D.wait.take i ++ atD D.wait i :: D.wait.drop (i + 1) := by rw [← drop_atD hi, List.take_append_drop]
  generalize atD D.blocks k = o0
  conv => lhs; rw [e]
  rw [List.foldl_append, List.foldl_cons, if_pos hx]
  refine rdF_none _ _ fun y hy => ?_
  obtain ⟨j, hj, rfl⟩ := List.getElem_of_mem hy
  rw [List.length_drop] at hj
  rw [List.getElem_drop]
  have := h (i + 1 + j) (by omega) (by omega)
  have h2 := atD_get (l := D.wait) (k := i + 1 + j) (by omega)
  rw [List.getElem?_eq_getElem (by omega)] at h2
  injection h2 with h2
  rw [h2]
  exact this
theorem rdB_len {D : Dk} (hD : DkOk D) {k : Nat} (hk : k < D.blocks.length) : (rdB D k).length = 256 := by
  unfold rdB
  have h0 := hD.len _ (atD_mem hk)
  have : ∀ (l : List (Nat × By)) (o : By), (∀ x ∈ l, x.2.length = 256) → o.length = 256 → (l.foldl (rdStep k) o).length = 256 := by
    intro l
    induction l with
    | nil => exact fun o _ h => h
    | cons x r ih =>
      intro o hl ho
      rw [List.foldl_cons]
      refine ih _ (fun y hy => hl y (List.mem_cons_of_mem _ hy)) ?_
      unfold rdStep
      split
      · exact hl x List.mem_cons_self
      · exact ho
  exact this _ _ (fun x hx => (hD.wait x hx).2) h0
theorem BackwardW_any (H : Holds I w L) {A : Option Addr} {len cap : Nat} : Rets Try.prog F_slices_Backward_api_Write_api_Write #[.slice A len cap] w fun u w' => ∃ b, u = .func (.func F_slices_Backward_api_Write_api_Write_1) #[] #[.pointer (some ⟨b, 0, none⟩)] ∧ Holds I w' (blk b 44 [.slice A len cap] :: L) := by
  refine ok_slices_Backward_api_Write_api_Write.rets rfl ?_
  repeat' (first
    | (show VcL _ _ _ _ _ _ _ _; first
      | refine VcL.pures tabOk rfl ?_
      | refine VcL.nil ?_
      | refine VcL.box H rfl rfl rfl rfl rfl (fun b w H => ?_))
    | (show Vc _ _ _ _ _ _; first
      | refine Vc.seq ?_
      | refine Vc.region ?_
      | refine Vc.ret ?_)
    | (show KSeq _ _ _ _ _ _ _; refine KSeq.normal ?_)
    | (show KEnd _ _ _ _ _ _ _; refine KEnd.fin (Or.inr rfl) ⟨_, (ResL.tmp rfl ResL.nil), ?_⟩))
  exact ⟨b, rfl, H⟩
theorem Backward1W_any {α : Type} [Inhabited α] {enc : α → List Value} (hsz : ∀ x, (enc x).length = 2) {l : List α} {A : Option Addr} {cap bs lp : Nat} {J : Nat → World → Prop} {Jx : World → Prop} (hl : l.length ≤ 140737488355328)
    (hC : ∀ k w, J k w → w.cell? ⟨bs, 0, none⟩ = some (.slice A l.length cap) ∧ ∀ i, i < l.length → ∃ b o, A = some ⟨b, o, none⟩ ∧ Rd w b (o + i * 2) (enc (atD l i)))
    (hY : ∀ k w, k < l.length → J k w → Turns Try.prog lp [.int .i64 ((l.length - 1 - k : Nat) : Int), .agg (enc (atD l (l.length - 1 - k))).toArray].toArray w fun b w' => if b then J (k + 1) w' else Jx w') (h0 : J 0 w) :
    Rets Try.prog F_slices_Backward_api_Write_api_Write_1 (#[.func (.yield lp) #[] #[]] ++ #[.pointer (some ⟨bs, 0, none⟩)]) w fun _ w' => J l.length w' ∨ Jx w' := by
  have hc0 := (hC 0 w h0).1
  have hw0 : IntKind.i64.wrap ((l.length : Int) - 1) = (l.length : Int) - 1 := wrap_i64 (by omega) (by omega)
  refine ok_slices_Backward_api_Write_api_Write_1.rets rfl ?_
  repeat' (first
    | rw [hw0]
    | (show VcL _ _ _ _ _ _ _ _; first
      | refine VcL.pures tabOk rfl ?_
      | refine VcL.nil ?_
      | (show VcL _ _ _ _ (⟨_, .load _ _, _, _, _, _⟩ :: _) _ _ _; refine VcL.load1 tabOk rfl rfl rfl rfl rfl (by assumption) ?_))
    | (show Vc _ _ _ _ _ _; first
      | refine Vc.seq ?_
      | refine Vc.region ?_
      | refine Vc.block ?_)
    | (show KSeq _ _ _ _ _ _ _; refine KSeq.normal ?_))
  refine Vc.loopS [(0, _), (1, _)] (fun k : Nat => [(3, .int .i64 ((l.length : Int) - 1 - k))]) (fun k w => k ≤ l.length ∧ J k w) (fun k _ => l.length - k) 0 ⟨by rw [show ((l.length : Int) - 1 - ((0 : Nat) : Int)) = (l.length : Int) - 1 by omega]; rfl, trivial⟩ ⟨rfl, rfl, trivial⟩ ⟨Nat.zero_le _, h0⟩ ?_
  rintro k w ⟨hk, hJ⟩
  by_cases hlt : k < l.length
  · obtain ⟨i, hi⟩ : ∃ i : Nat, l.length - 1 - k = i := ⟨_, rfl⟩
    have hik : (l.length : Int) - 1 - (k : Int) = (i : Int) := by omega
    rw [hik]
    have hck := (hC k w hJ).1
    obtain ⟨b1, o1, rfl, hr1⟩ := (hC k w hJ).2 i (by omega)
    have hyk := hY k w hlt hJ
    rw [hi] at hyk
    have hlen := hsz (atD l i)
    repeat' (first
      | (refine VcL.yield rfl rfl rfl rfl rfl rfl (Turns.mono hyk ?_); rintro bb w hR)
      | (refine VcL.loadR tabOk rfl rfl rfl rfl rfl (hlen.symm ▸ rfl) hr1 rfl ?_)
      | (show VcL _ _ _ _ _ _ _ _; first
      | refine VcL.pures tabOk rfl ?_
      | refine VcL.nil ?_
      | (show VcL _ _ _ _ (⟨_, .load _ _, _, _, _, _⟩ :: _) _ _ _; refine VcL.load1 tabOk rfl rfl rfl rfl rfl (by assumption) ?_)
      | (show VcL _ _ _ _ (⟨_, .indexAddr _ _ _, _, _, _, _⟩ :: _) _ _ _; refine VcL.indexAddr tabOk rfl rfl rfl rfl rfl rfl (by omega) (by omega) ?_))
      | (show Vc _ _ _ _ _ _; first
      | refine Vc.seq ?_
      | refine Vc.region ?_
      | refine Vc.condT rfl ?_
      | refine Vc.ret ?_
      | refine Vc.skip ?_
      | refine Vc.block ?_
      | (refine Vc.cond rfl (fun h => ?_) (fun h => ?_) <;> skip))
      | (show KSeq _ _ _ _ _ _ _; first
      | refine KSeq.normal ?_
      | refine KSeq.ret ?_)
      | (show KBlock _ _ _ _ _ _; first
      | refine KBlock.normal ?_
      | refine KBlock.ret ?_)
      | refine KLoop.ret ?_
      | (show KEnd _ _ _ _ _ _ _; refine KEnd.fin (Or.inr rfl) ⟨_, ResL.nil, ?_⟩))
    · cases bb with
      | false => exact .inr hR
      | true => cases h
    · cases bb with
      | false => cases h
      | true => exact KLoop.again (k + 1) ⟨(show some (Value.int .i64 (IntKind.i64.wrap ((i : Int) - 1))) = some (Value.int .i64 ((l.length : Int) - 1 - ((k + 1 : Nat) : Int))) from by rw [wrap_i64 (by omega) (by omega)]; congr 2; omega), trivial⟩ ⟨rfl, rfl, trivial⟩ ⟨hlt, hR⟩ (by omega)
  ·
    obtain rfl : k = l.length := by omega
    repeat' (first
      | (show VcL _ _ _ _ _ _ _ _; first
      | refine VcL.pures tabOk rfl ?_
      | refine VcL.nil ?_)
      | (show Vc _ _ _ _ _ _; first
      | refine Vc.seq ?_
      | refine Vc.region ?_
      | refine Vc.exit ?_
      | (refine Vc.cond rfl (fun h => ?_) (fun h => ?_) <;> first | (exfalso; simp only [decide_eq_true_eq, decide_eq_false_iff_not, Bool.not_eq_true', Bool.not_eq_false'] at h; omega) | (with_reducible have hp := of_decide_eq_false h)))
      | (show KSeq _ _ _ _ _ _ _; first
      | refine KSeq.normal ?_
      | refine KSeq.exit ?_)
      | (show KBlock _ _ _ _ _ _; refine KBlock.here ?_)
      | refine KLoop.exit ?_
      | (show KEnd _ _ _ _ _ _ _; refine KEnd.fin (Or.inl rfl) ⟨_, ResL.nil, ?_⟩))
    exact .inl hJ
theorem ReadP_bad {d : Nat} {D : Dk} (H : Holds I w (dskA d D :: L)) {k : Int} (hk : ¬ (0 ≤ k ∧ k < D.blocks.length)) :
    Rets Try.prog F_journal_Disk_Read #[ptr d, .int .i64 k] w fun u w' => u = .tuple #[.slice none 0 0, .int .i64 2] ∧ Holds I w' (dskA d D :: L) := by
  obtain ⟨b0, o0, cap, A2, cap2, P, rfl, hkk, hcap, HB⟩ := dsk_open H
  clear H
  have H := HB
  clear HB
  have hbl : P.dk.blocks.length = P.bl.length := List.length_map ..
  rw [hbl] at hk
  refine ok_journal_Disk_Read.rets rfl ?_
  refine Vc.seq ?_
  refine Vc.region ?_
  refine VcL.box H rfl rfl rfl rfl rfl (fun b3 w H => ?_)
  refine VcL.alloc tabOk H rfl rfl rfl rfl (fun b4 w H => ?_)
  refine VcL.alloc tabOk H rfl rfl rfl rfl (fun b5 w H => ?_)
  repeat' (first
    | (show VcL _ _ _ _ _ _ _ _; first
      | refine VcL.pures tabOk rfl ?_
      | refine VcL.nil ?_
      | (show VcL _ _ _ _ (⟨_, .store _ _ _, _, _, _, _⟩ :: _) _ _ _; refine VcL.store tabOk rfl (by exact (Holds.f1 H)) rfl rfl (by exact rfl) (by exact rfl) (by exact rfl) (by exact rfl) (fun w H => ?_))
      | (show VcL _ _ _ _ (⟨_, .call ⟨.value (.func F_journal_Disk_none), _, _⟩, _, _, _, _⟩ :: _) _ _ _; (refine VcL.callF ok_journal_Disk_none rfl rfl rfl rfl (Rets.mono (noneD_any H Holds.toW.up.up.up hkk.some) ?_); rintro _ w ⟨rfl, H⟩)))
    | (show VcD _ _ _ _ _ _ _ _ _; first
      | refine VcD.pures tabOk rfl ?_
      | refine VcD.done ?_
      | (show VcD _ _ _ _ _ (.pure _ _) _ _ _; (refine VcD.guardP rfl rfl rfl rfl rfl (fun h => ?_) (fun h => ?_) <;> first | (with_reducible have hp := of_decide_eq_true h) | (with_reducible have hp := of_decide_eq_false h)))
      | (show VcD _ _ _ _ _ (.take _ _) _ _ _; first
      | refine VcD.load1 tabOk rfl rfl rfl rfl rfl rfl (by intro w_ hw_; first | exact hw_.1 0 _ rfl | exact hw_.2 0 _ rfl) (by exact rfl) ?_
      | refine VcD.skipT rfl rfl rfl ?_))
    | (show Vc _ _ _ _ _ _; first
      | refine Vc.seq ?_
      | refine Vc.region ?_
      | refine Vc.condT rfl ?_
      | refine Vc.condF rfl ?_
      | refine Vc.ret ?_
      | refine Vc.block ?_
      | (refine Vc.drawn (id := 3) (.take 0 (.pure 1 (.pure 2 (.pure 4 (.pure 5 (.pure 6 (.take 3 (.take 7 (.pure 8 (.pure 9 (.pure 10 (.pure 11 .done)))))))))))) (.one (fun w => Rd w b3 0 [.int .i64 k] ∧ Rd w d 0 (dkV P (.slice (some ⟨b0, o0, none⟩) P.bl.length cap) (.slice A2 P.wt.length cap2)))) mixed (by kernel_rfl) (by (refine ⟨?_, ?_⟩ <;> first | exact Holds.rdWhole (Holds.f2 (Holds.drew H _)) | exact Holds.rdWhole (Holds.f3 (Holds.drew H _)))) ?_; have H := H.drew (w.drawn + 1))
      | (refine Vc.cond rfl (fun h => ?_) (fun h => ?_) <;> first | (exfalso; simp only [decide_eq_true_eq, decide_eq_false_iff_not, Bool.not_eq_true', Bool.not_eq_false'] at h; omega) | (with_reducible have hp := of_decide_eq_true h)))
    | (show KSeq _ _ _ _ _ _ _; first
      | refine KSeq.normal ?_
      | refine KSeq.ret ?_)
    | (show KBlock _ _ _ _ _ _; refine KBlock.ret ?_)
    | (show KEnd _ _ _ _ _ _ _; refine KEnd.fin (Or.inr rfl) ⟨_, (ResL.cell rfl (LoadV.one tabOk rfl (by exact Holds.cell (Holds.f1 H) rfl)) (ResL.cell rfl (LoadV.one tabOk rfl (by exact Holds.cell H rfl)) ResL.nil)), ?_⟩))
  all_goals exact ⟨rfl, dsk_close P rfl hkk.ok H.drop.drop.drop⟩
theorem dk_wait {P : Kd} {i : Nat} (h : i < P.wt.length) : atD P.dk.wait i = ((atD P.wt i).1, (atD P.wt i).2.2) := atD_of (by
  show (P.wt.map _)[i]? = _
  rw [List.getElem?_map, atD_get h]
  rfl)
theorem ReadP_good {d : Nat} {D : Dk} (H : Holds I w (dskA d D :: L)) (hw : D.writes < 2 ^ 40) {k : Nat} (hk : k < D.blocks.length) :
    Rets Try.prog F_journal_Disk_Read #[ptr d, .int .i64 (k : Nat)] w fun u w' => ∃ uv, u = .tuple #[uv, .int .i64 0] ∧ Holds I w' (own uv 5 1 256 (byL (rdB D k)) :: dskA d D :: L) := by
  have hrl := rdB_len (dsk_ok H) hk
  obtain ⟨b0, o0, cap, A2, cap2, P, rfl, hkk, hcap, HB⟩ := dsk_open H
  clear H
  have H := HB
  clear HB
  have hbl : P.dk.blocks.length = P.bl.length := List.length_map ..
  rw [hbl] at hk
  have hmany := hkk.many
  have hwr : P.dk.writes = P.writes := rfl
  rw [hwr] at hw
  refine ok_journal_Disk_Read.rets rfl ?_
  refine Vc.seq ?_
  refine Vc.region ?_
  refine VcL.box H rfl rfl rfl rfl rfl (fun b3 w H => ?_)
  refine VcL.alloc tabOk H rfl rfl rfl rfl (fun b4 w H => ?_)
  refine VcL.alloc tabOk H rfl rfl rfl rfl (fun b5 w H => ?_)
  repeat' (first
    | (show VcL _ _ _ _ _ _ _ _; first
      | refine VcL.pures tabOk rfl ?_
      | refine VcL.nil ?_
      | (show VcL _ _ _ _ (⟨_, .load _ _, _, _, _, _⟩ :: _) _ _ _; refine VcL.load1 tabOk rfl rfl rfl rfl rfl (by exact Holds.cell (Holds.f3 H) rfl) ?_)
      | (show VcL _ _ _ _ (⟨_, .call ⟨.value (.func F_journal_Disk_none), _, _⟩, _, _, _, _⟩ :: _) _ _ _; (refine VcL.callF ok_journal_Disk_none rfl rfl rfl rfl (Rets.mono (noneD_any H Holds.toW.up.up.up hkk.some) ?_); rintro _ w ⟨rfl, H⟩))
      | (show VcL _ _ _ _ (⟨_, .call ⟨.value (.func F_slices_Backward_api_Write_api_Write), _, _⟩, _, _, _, _⟩ :: _) _ _ _; (refine VcL.callF ok_slices_Backward_api_Write_api_Write rfl rfl rfl rfl (Rets.mono (BackwardW_any H) ?_); rintro _ w ⟨bs, rfl, H⟩)))
    | (show VcD _ _ _ _ _ _ _ _ _; first
      | refine VcD.pures tabOk rfl ?_
      | refine VcD.done ?_
      | (show VcD _ _ _ _ _ (.pure _ _) _ _ _; (refine VcD.guardP rfl rfl rfl rfl rfl (fun h => ?_) (fun h => ?_) <;> first | (cases h; done) | (with_reducible have hp := of_decide_eq_false h)))
      | (show VcD _ _ _ _ _ (.take _ _) _ _ _; refine VcD.load1 tabOk rfl rfl rfl rfl rfl rfl (by intro w_ hw_; first | exact hw_.1 0 _ rfl | exact hw_.2 0 _ rfl) (by exact rfl) ?_))
    | (show Vc _ _ _ _ _ _; first
      | refine Vc.seq ?_
      | refine Vc.region ?_
      | refine Vc.condF rfl ?_
      | refine Vc.skip ?_
      | refine Vc.block ?_
      | (refine Vc.drawn (id := 3) (.take 0 (.pure 1 (.pure 2 (.pure 4 (.pure 5 (.pure 6 (.take 3 (.take 7 (.pure 8 (.pure 9 (.pure 10 (.pure 11 .done)))))))))))) (.one (fun w => Rd w b3 0 [.int .i64 (k : Int)] ∧ Rd w d 0 (dkV P (.slice (some ⟨b0, o0, none⟩) P.bl.length cap) (.slice A2 P.wt.length cap2)))) mixed (by kernel_rfl) (by (refine ⟨?_, ?_⟩ <;> first | exact Holds.rdWhole (Holds.f2 (Holds.drew H _)) | exact Holds.rdWhole (Holds.f3 (Holds.drew H _)) | exact Holds.rdWhole (Holds.f4 (Holds.drew H _)))) ?_; have H := H.drew (w.drawn + 1))
      | (refine Vc.cond rfl (fun h => ?_) (fun h => ?_) <;> first | (exfalso; simp only [decide_eq_true_eq, decide_eq_false_iff_not, Bool.not_eq_true', Bool.not_eq_false'] at h; omega) | (with_reducible have hp := of_decide_eq_false h)))
    | (show KSeq _ _ _ _ _ _ _; refine KSeq.normal ?_)
    | (show KBlock _ _ _ _ _ _; refine KBlock.normal ?_))
  obtain ⟨L0, hL0⟩ : ∃ L0, L0 = blk d 53 (dkV P (.slice (some ⟨b0, o0, none⟩) P.bl.length cap) (.slice A2 P.wt.length cap2)) :: own (.slice (some ⟨b0, o0, none⟩) P.bl.length cap) 40 1 P.bl.length (P.bl.flatMap bkC) :: own (.slice A2 P.wt.length cap2) 43 2 P.wt.length (P.wt.flatMap wkC) :: bysA P.all :: L := ⟨_, rfl⟩
  have hwv : SlR I L0 (.slice A2 P.wt.length cap2) 2 P.wt.length (P.wt.flatMap wkC) := by rw [hL0]; exact (Holds.own_toR H.drop.drop.drop.drop.drop.drop).up.up
  have hdat : ∀ x ∈ P.all, SlR I L0 x.1 1 x.2.length (byL x.2) := fun x hx => by rw [hL0]; exact (bys_rd hx H.drop.drop.drop.drop.drop.drop.drop).up.up.up
  have hform : ∀ x ∈ P.all, ∃ A c, x.1 = .slice A x.2.length c := fun x hx => bys_form hx H.drop.drop.drop.drop.drop.drop.drop
  rw [← hL0] at H
  refine Vc.range (f := F_slices_Backward_api_Write_api_Write_1) (N := P.wt.length) (args := fun j => [.int .i64 ((P.wt.length - 1 - j : Nat) : Int), .agg (wkC (atD P.wt (P.wt.length - 1 - j))).toArray])
    (fun j s => s = none ∧ ∀ i, i < j → (atD P.wt (P.wt.length - 1 - i)).1 ≠ k) (fun s => ∃ uv, s = some uv) (fun _ => I)
    (fun s : Option Value => match s with
      | none => blk bs 44 [.slice A2 P.wt.length cap2] :: blk b5 33 [.int .i64 0] :: blk b4 40 [.slice none 0 0] :: blk b3 3 [.int .i64 (k : Int)] :: L0
      | some uv => blk b5 33 [.int .i64 0] :: blk b4 40 [uv] :: own uv 5 1 256 (byL (rdB P.dk k)) :: L0) none
    rfl rfl rfl ok_slices_Backward_api_Write_api_Write_1.enter rfl (fun _ => rfl) ⟨rfl, fun i hi => absurd hi (by omega)⟩ H ?_ ?_ ?_ ?_
  · intro lp J Jx w1 hJ hY h0
    refine Backward1W_any (A := A2) (cap := cap2) wkC_len (by omega) (fun j w hj => ?_) hY h0
    obtain ⟨s, U, ⟨rfl, _⟩, HJ⟩ := hJ j w hj
    have HJ : Holds I w (blk bs 44 [.slice A2 P.wt.length cap2] :: blk b5 33 [.int .i64 0] :: blk b4 40 [.slice none 0 0] :: blk b3 3 [.int .i64 (k : Int)] :: (L0 ++ U)) := HJ
    refine ⟨Holds.cell HJ rfl, fun i hi => ?_⟩
    obtain ⟨b2, o2, rfl, hr⟩ := hwv.at (by omega)
    exact ⟨b2, o2, rfl, (hr.elem wkC_len (atD_get hi)).rd HJ.drop.drop.drop.drop.left⟩
  · rintro lp j s U w hj ⟨rfl, hall⟩ H
    have H : Holds I w (blk bs 44 [.slice A2 P.wt.length cap2] :: blk b5 33 [.int .i64 0] :: blk b4 40 [.slice none 0 0] :: blk b3 3 [.int .i64 (k : Int)] :: (L0 ++ U)) := H
    obtain ⟨z, hz⟩ : ∃ z, atD P.wt (P.wt.length - 1 - j) = z := ⟨_, rfl⟩
    have hzm : z ∈ P.wt := hz ▸ atD_mem (by omega)
    have hza : z.2 ∈ P.all := List.mem_append_right _ (List.mem_map_of_mem hzm)
    have hzl := (hkk.wt z hzm).2
    obtain ⟨A3, c3, hf⟩ := hform _ hza
    have hd := hdat _ hza
    have hxk : ∀ x, atD P.wt (P.wt.length - 1 - j) = x → x.1 = k → rdB P.dk k = x.2.2 := fun x hx e => by
      rw [rdB_some (i := P.wt.length - 1 - j) (by show _ < (P.wt.map _).length; rw [List.length_map]; omega) (by rw [dk_wait (by omega), hx]; exact e)]
      · rw [dk_wait (by omega), hx]
      · intro m hm1 hm2
        have hm2 : m < P.wt.length := by simpa [Kd.dk] using hm2
        rw [dk_wait hm2]
        have := hall (P.wt.length - 1 - m) (by omega)
        rw [show P.wt.length - 1 - (P.wt.length - 1 - m) = m by omega] at this
        exact this
    rw [hz]
    obtain ⟨bk, v, dat⟩ := z
    dsimp only at hf hzl hd
    subst hf
    show Vc _ _ _ _ (zipE [28, 29] [_, .agg #[.int .i64 (bk : Int), .slice A3 dat.length c3]] _) _
    repeat' (first
      | (show VcL _ _ _ _ _ _ _ _; first
      | refine VcL.nil ?_
      | refine VcL.alloc tabOk H rfl rfl rfl rfl (fun b w H => ?_)
      | (show VcL _ _ _ _ (⟨_, .store _ _ _, _, _, _, _⟩ :: _) _ _ _; refine VcL.store tabOk rfl (by exact H) rfl rfl (by exact rfl) (by exact rfl) (by exact rfl) (by exact rfl) (fun w H => ?_)))
      | (show Vc _ _ _ _ _ _; refine Vc.region ?_))
    refine KAsg.go (I := I) (L := blk b 43 [.int .i64 (bk : Int), .slice A3 dat.length c3] :: blk bs 44 [.slice A2 P.wt.length cap2] :: blk b5 33 [.int .i64 0] :: blk b4 40 [.slice none 0 0] :: blk b3 3 [.int .i64 (k : Int)] :: L0) H ?_
    rintro U' w H
    have H : Holds I w (blk b 43 [.int .i64 (bk : Int), .slice A3 dat.length c3] :: blk bs 44 [.slice A2 P.wt.length cap2] :: blk b5 33 [.int .i64 0] :: blk b4 40 [.slice none 0 0] :: blk b3 3 [.int .i64 (k : Int)] :: (L0 ++ U')) := H
    have hd2 : SlR I (L0 ++ U') (.slice A3 dat.length c3) 1 dat.length (byL dat) := hd.more fun w H => H.left
    repeat' (first
      | (show VcL _ _ _ _ _ _ _ _; first
      | refine VcL.pures tabOk rfl ?_
      | refine VcL.nil ?_
      | (show VcL _ _ _ _ (⟨_, .load _ _, _, _, _, _⟩ :: _) _ _ _; refine VcL.load1 tabOk rfl rfl rfl rfl rfl (by first | exact Holds.cell H rfl | exact Holds.cell (Holds.f4 H) rfl) ?_)
      | (show VcL _ _ _ _ (⟨_, .store _ _ _, _, _, _, _⟩ :: _) _ _ _; refine VcL.store tabOk rfl (by exact (Holds.f4 H)) rfl rfl (by exact rfl) (by exact rfl) (by exact rfl) (by exact rfl) (fun w H => ?_))
      | (show VcL _ _ _ _ (⟨_, .call ⟨.value (.func F_slices_Clone_byte_byte), _, _⟩, _, _, _, _⟩ :: _) _ _ _; (refine VcL.callF ok_slices_Clone_byte_byte rfl rfl rfl rfl (Rets.mono (CloneB_any H hd2.up.up.up.up.up (by_one dat) (by omega)) ?_); rintro _ w H; obtain ⟨_, A5, c5, rfl⟩ := Holds.own_len H)))
      | (show Vc _ _ _ _ _ _; first
      | refine Vc.seq ?_
      | refine Vc.region ?_
      | refine Vc.ret ?_
      | refine Vc.skip ?_
      | refine Vc.block ?_
      | (refine Vc.cond rfl (fun h => ?_) (fun h => ?_) <;> first | (with_reducible have hp := of_decide_eq_true h) | (with_reducible have hp := of_decide_eq_false h)))
      | (show KSeq _ _ _ _ _ _ _; refine KSeq.normal ?_)
      | (show KBlock _ _ _ _ _ _; first
      | refine KBlock.normal ?_
      | refine KBlock.ret ?_))
    · have e := hxk _ hz (by show bk = k; omega)
      have H2 := H.drop3.drop3.drop3
      refine KRound.ret (some (.slice A5 dat.length c5)) ⟨_, rfl⟩ ?_
      show Holds I w (_ :: _ :: own (.slice A5 dat.length c5) 5 1 256 (byL (rdB P.dk k)) :: (L0 ++ U'))
      rw [e, ← hzl]
      exact H2
    · refine KRound.normal none ⟨rfl, fun i hi => ?_⟩ H.drop
      rcases Nat.lt_or_ge i j with h1 | h1
      · exact hall i h1
      · obtain rfl : i = j := by omega
        rw [hz]
        show bk ≠ k
        omega
  · rintro D r w ⟨rfl, hall⟩ H
    have H : Holds I w (Go.Proofs.YtkeapkmjkmbdpaaV.pt D (.deferred (some [])) :: blk bs 44 [.slice A2 P.wt.length cap2] :: blk b5 33 [.int .i64 0] :: blk b4 40 [.slice none 0 0] :: blk b3 3 [.int .i64 (k : Int)] :: L0) := H
    subst hL0
    have H := H.drop1.re [0, 1, 0] rfl
    obtain ⟨x, hx⟩ : ∃ x, atD P.bl k = x := ⟨_, rfl⟩
    have hq : P.bl[k]? = some x := by rw [← hx]; exact atD_get hk
    have hxa : x ∈ P.all := List.mem_append_left _ (hx ▸ atD_mem hk)
    have hxl := hkk.bl x (hx ▸ atD_mem hk)
    have e : rdB P.dk k = x.2 := by
      rw [rdB_none]
      · exact atD_of (by show (P.bl.map _)[k]? = _; rw [List.getElem?_map, hq]; rfl)
      · intro y hy
        obtain ⟨y, hy2, rfl⟩ := List.mem_map.1 hy
        obtain ⟨i, hi, rfl⟩ := mem_atD hy2
        have := hall (P.wt.length - 1 - i) (by omega)
        rw [show P.wt.length - 1 - (P.wt.length - 1 - i) = i by omega] at this
        exact this
    obtain ⟨A3, c3, hf⟩ := hform _ hxa
    have hd := hdat _ hxa
    obtain ⟨xv, dat⟩ := x
    dsimp only at hf hxl hd
    subst hf
    repeat' (first
      | (show VcD _ _ _ _ _ _ _ _ _; first
      | refine VcD.pures tabOk rfl ?_
      | refine VcD.done ?_
      | (show VcD _ _ _ _ _ (.pure _ _) _ _ _; refine VcD.indexAddr tabOk rfl rfl rfl rfl rfl rfl rfl (by omega) (by omega) ?_)
      | (show VcD _ _ _ _ _ (.take _ _) _ _ _; refine VcD.load1 tabOk rfl rfl rfl rfl rfl rfl (by intro w_ hw_; first | exact Holds.cell (Holds.f2 hw_) rfl | exact Holds.cell (Holds.f3 hw_) rfl | exact Holds.ownCell0 (Holds.f4 hw_) (fun _ => rfl) (by assumption) rfl) (by exact rfl) ?_)
      | (show VcD _ _ _ _ _ (.only _ _) _ _ _; first
      | (refine VcD.callF (f := F_slices_Clone_byte_byte) rfl ok_slices_Clone_byte_byte rfl rfl rfl rfl (Rets.mono (CloneB_any H hd.up.up.up.up (by_one dat) (by omega)) ?_); rintro _ w H; obtain ⟨_, A5, c5, rfl⟩ := Holds.own_len H; refine ⟨(by exact Holds.drop (Holds.drop H)), ?_⟩)
      | (refine VcD.eff rfl rfl rfl rfl (OpE.store tabOk (by first | exact (Holds.f2 H) | exact (Holds.f3 H)) rfl rfl rfl (by exact rfl) (by exact rfl) (by exact rfl) (by exact rfl)) ?_; rintro _ w ⟨_, H⟩; refine ⟨(by trivial), ?_⟩)))
      | (show Vc _ _ _ _ _ _; first
      | refine Vc.seq ?_
      | refine Vc.ret ?_
      | (refine Vc.drawn (id := 9) (.pure 0 (.pure 1 (.pure 2 (.take 3 (.take 4 (.pure 5 (.take 6 (.only 7 (.only 8 (.only 9 .done)))))))))) (.till (fun w => Holds I w (blk b4 40 [.slice none 0 0] :: blk b5 33 [.int .i64 0] :: blk b3 3 [.int .i64 (k : Int)] :: blk d 53 (dkV P (.slice (some ⟨b0, o0, none⟩) P.bl.length cap) (.slice A2 P.wt.length cap2)) :: own (.slice (some ⟨b0, o0, none⟩) P.bl.length cap) 40 1 P.bl.length (P.bl.flatMap bkC) :: own (.slice A2 P.wt.length cap2) 43 2 P.wt.length (P.wt.flatMap wkC) :: bysA P.all :: L)) 8 (.one (fun w => True))) mixed (by kernel_rfl) (by exact Holds.drop (Holds.drew H _)) ?_; have H := H.drew (w.drawn + 1)))
      | (show KSeq _ _ _ _ _ _ _; refine KSeq.normal ?_)
      | (show KBlock _ _ _ _ _ _; refine KBlock.normal ?_))
    exact KEnd.fin2 rfl H.f3 (.inr rfl) fun w H => ⟨_, ResL.cell rfl (LoadV.one tabOk rfl (Holds.cell H.f1 rfl)) (ResL.cell rfl (LoadV.one tabOk rfl (Holds.cell H rfl)) ResL.nil), .slice A5 dat.length c5, rfl, by
      rw [e, ← hxl]
      exact (dsk_close P rfl hkk.ok (Holds.re [1, 1, 1, 1, 0] H.drop.drop.drop1 rfl)).swap⟩
  · rintro D r w ⟨uv, rfl⟩ H
    have H : Holds I w (Go.Proofs.YtkeapkmjkmbdpaaV.pt D (.deferred (some [])) :: blk b5 33 [.int .i64 0] :: blk b4 40 [uv] :: own uv 5 1 256 (byL (rdB P.dk k)) :: L0) := H
    subst hL0
    repeat' (first
      | (show KSeq _ _ _ _ _ _ _; refine KSeq.ret ?_)
      | (show KBlock _ _ _ _ _ _; refine KBlock.ret ?_))
    exact KEnd.fin2 rfl H (.inr rfl) fun w H => ⟨_, ResL.cell rfl (LoadV.one tabOk rfl (Holds.cell H.f1 rfl)) (ResL.cell rfl (LoadV.one tabOk rfl (Holds.cell H rfl)) ResL.nil), uv, rfl, (dsk_close P rfl hkk.ok (Holds.re [1, 1, 1, 1, 0] H.drop.drop rfl)).swap⟩
end Go.Proofs.Ytkeapkmjkmbdpaa.V
