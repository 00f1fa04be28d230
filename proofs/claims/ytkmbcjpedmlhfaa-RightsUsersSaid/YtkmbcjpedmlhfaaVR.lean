/- Rights: which count. -/
import Derived.Test.YtkmbcjpedmlhfaaVC
namespace Go.Proofs.Ytkmbcjpedmlhfaa.V
open Go Go.Proofs.YtkmbcjpedmlhfaaV
set_option linter.unusedVariables false
set_option linter.unusedSimpArgs false
set_option maxHeartbeats 1000000
attribute [local irreducible] IntKind.wrap
variable {I : Imm} {w : World} {L : List Asn}
theorem BackwardR_any (H : Holds I w L) {A : Option Addr} {len cap : Nat} : Rets Try.prog F_slices_Backward_api_Rights_api_Rights #[.slice A len cap] w fun u w' => ∃ b, u = .func (.func F_slices_Backward_api_Rights_api_Rights_1) #[] #[.pointer (some ⟨b, 0, none⟩)] ∧ Holds I w' (blk b 44 [.slice A len cap] :: L) := by
  refine ok_slices_Backward_api_Rights_api_Rights.rets rfl ?_
  repeat' (first
    | (show VcL _ _ _ _ _ _ _ _; first
      | refine VcL.pures tabOk rfl ?_
      | refine VcL.nil ?_
      | refine VcL.box H rfl rfl rfl rfl rfl (fun b w H => ?_))
    | (show Vc _ _ _ _ _ _; first
      | refine Vc.seq ?_
      | refine Vc.region ?_
      | refine Vc.ret ?_)
    | (show KSeq _ _ _ _ _ _ _; refine KSeq.normal ?_)
    | (show KEnd _ _ _ _ _ _ _; refine KEnd.fin (Or.inr rfl) ⟨_, (ResL.tmp rfl ResL.nil), ?_⟩))
  exact ⟨b, rfl, H⟩
theorem Backward1R_any {α : Type} [Inhabited α] {enc : α → List Value} (hsz : ∀ x, (enc x).length = 6) {l : List α} {A : Option Addr} {cap bs lp : Nat} {J : Nat → World → Prop} {Jx : World → Prop} (hl : l.length ≤ 140737488355328)
    (hC : ∀ k w, J k w → w.cell? ⟨bs, 0, none⟩ = some (.slice A l.length cap) ∧ ∀ i, i < l.length → ∃ b o, A = some ⟨b, o, none⟩ ∧ Rd w b (o + i * 6) (enc (atD l i)))
    (hY : ∀ k w, k < l.length → J k w → Turns Try.prog lp [.int .i64 ((l.length - 1 - k : Nat) : Int), .agg (enc (atD l (l.length - 1 - k))).toArray].toArray w fun b w' => if b then J (k + 1) w' else Jx w') (h0 : J 0 w) :
    Rets Try.prog F_slices_Backward_api_Rights_api_Rights_1 (#[.func (.yield lp) #[] #[]] ++ #[.pointer (some ⟨bs, 0, none⟩)]) w fun _ w' => J l.length w' ∨ Jx w' := by
  have hc0 := (hC 0 w h0).1
  have hw0 : IntKind.i64.wrap ((l.length : Int) - 1) = (l.length : Int) - 1 := wrap_i64 (by omega) (by omega)
  refine ok_slices_Backward_api_Rights_api_Rights_1.rets rfl ?_
  repeat' (first
    | rw [hw0]
    | (show VcL _ _ _ _ _ _ _ _; first
      | refine VcL.pures tabOk rfl ?_
      | refine VcL.nil ?_
      | (show VcL _ _ _ _ (⟨_, .load _ _, _, _, _, _⟩ :: _) _ _ _; refine VcL.load1 tabOk rfl rfl rfl rfl rfl (by assumption) ?_))
    | (show Vc _ _ _ _ _ _; first
      | refine Vc.seq ?_
      | refine Vc.region ?_
      | refine Vc.block ?_)
    | (show KSeq _ _ _ _ _ _ _; refine KSeq.normal ?_))
  refine Vc.loopS [(0, _), (1, _)] (fun k : Nat => [(3, .int .i64 ((l.length : Int) - 1 - k))]) (fun k w => k ≤ l.length ∧ J k w) (fun k _ => l.length - k) 0 ⟨by rw [show ((l.length : Int) - 1 - ((0 : Nat) : Int)) = (l.length : Int) - 1 by omega]; rfl, trivial⟩ ⟨rfl, rfl, trivial⟩ ⟨Nat.zero_le _, h0⟩ ?_
  rintro k w ⟨hk, hJ⟩
  by_cases hlt : k < l.length
  · obtain ⟨i, hi⟩ : ∃ i : Nat, l.length - 1 - k = i := ⟨_, rfl⟩
    have hik : (l.length : Int) - 1 - (k : Int) = (i : Int) := by omega
    rw [hik]
    have hck := (hC k w hJ).1
    obtain ⟨b1, o1, rfl, hr1⟩ := (hC k w hJ).2 i (by omega)
    have hyk := hY k w hlt hJ
    rw [hi] at hyk
    have hlen := hsz (atD l i)
    repeat' (first
      | (refine VcL.yield rfl rfl rfl rfl rfl rfl (Turns.mono hyk ?_); rintro bb w hR)
      | (refine VcL.loadR tabOk rfl rfl rfl rfl rfl (hlen.symm ▸ rfl) hr1 rfl ?_)
      | (show VcL _ _ _ _ _ _ _ _; first
      | refine VcL.pures tabOk rfl ?_
      | refine VcL.nil ?_
      | (show VcL _ _ _ _ (⟨_, .load _ _, _, _, _, _⟩ :: _) _ _ _; refine VcL.load1 tabOk rfl rfl rfl rfl rfl (by assumption) ?_)
      | (show VcL _ _ _ _ (⟨_, .indexAddr _ _ _, _, _, _, _⟩ :: _) _ _ _; refine VcL.indexAddr tabOk rfl rfl rfl rfl rfl rfl (by omega) (by omega) ?_))
      | (show Vc _ _ _ _ _ _; first
      | refine Vc.seq ?_
      | refine Vc.region ?_
      | refine Vc.condT rfl ?_
      | refine Vc.ret ?_
      | refine Vc.skip ?_
      | refine Vc.block ?_
      | (refine Vc.cond rfl (fun h => ?_) (fun h => ?_) <;> skip))
      | (show KSeq _ _ _ _ _ _ _; first
      | refine KSeq.normal ?_
      | refine KSeq.ret ?_)
      | (show KBlock _ _ _ _ _ _; first
      | refine KBlock.normal ?_
      | refine KBlock.ret ?_)
      | refine KLoop.ret ?_
      | (show KEnd _ _ _ _ _ _ _; refine KEnd.fin (Or.inr rfl) ⟨_, ResL.nil, ?_⟩))
    · cases bb with
      | false => exact .inr hR
      | true => cases h
    · cases bb with
      | false => cases h
      | true => exact KLoop.again (k + 1) ⟨(show some (Value.int .i64 (IntKind.i64.wrap ((i : Int) - 1))) = some (Value.int .i64 ((l.length : Int) - 1 - ((k + 1 : Nat) : Int))) from by rw [wrap_i64 (by omega) (by omega)]; congr 2; omega), trivial⟩ ⟨rfl, rfl, trivial⟩ ⟨hlt, hR⟩ (by omega)
  ·
    obtain rfl : k = l.length := by omega
    repeat' (first
      | (show VcL _ _ _ _ _ _ _ _; first
      | refine VcL.pures tabOk rfl ?_
      | refine VcL.nil ?_)
      | (show Vc _ _ _ _ _ _; first
      | refine Vc.seq ?_
      | refine Vc.region ?_
      | refine Vc.exit ?_
      | (refine Vc.cond rfl (fun h => ?_) (fun h => ?_) <;> first | (exfalso; simp only [decide_eq_true_eq, decide_eq_false_iff_not] at h; omega) | (with_reducible have hp := of_decide_eq_false h)))
      | (show KSeq _ _ _ _ _ _ _; first
      | refine KSeq.normal ?_
      | refine KSeq.exit ?_)
      | (show KBlock _ _ _ _ _ _; refine KBlock.here ?_)
      | refine KLoop.exit ?_
      | (show KEnd _ _ _ _ _ _ _; refine KEnd.fin (Or.inl rfl) ⟨_, ResL.nil, ?_⟩))
    exact .inl hJ
/-- Rights: Owner, Group, ForOwner, ForGroup, ForAll, Blank. -/
structure Rt where mk ::
  owner : Int
  group : Int
  fo : Int
  fg : Int
  fa : Int
  blank : Bool
instance : Inhabited Rt := ⟨⟨0, 0, 0, 0, 0, false⟩⟩
def rtC (r : Rt) : List Value := [.int .i64 r.owner, .int .i64 r.group, .int .i64 r.fo, .int .i64 r.fg, .int .i64 r.fa, .bool r.blank]
theorem rtC_len (r : Rt) : (rtC r).length = 6 := rfl
theorem rtC_one (r : Rt) : ∀ x ∈ rtC r, oneC x = true := by
  intro x hx
  simp only [rtC, List.mem_cons, List.not_mem_nil, or_false] at hx
  rcases hx with rfl | rfl | rfl | rfl | rfl | rfl <;> rfl
abbrev zeroR : Rt := ⟨0, 0, 0, 0, 0, false⟩
abbrev fullR : Rt := ⟨0, 0, 7, 7, 7, false⟩
/-- The rights that count: the last ones that are not blank. -/
def effS (l : List Rt) : Rt := (l.reverse.find? fun r => !r.blank).getD fullR
theorem rev_atD {l : List Rt} {k : Nat} (hk : k < l.length) : l.reverse[k]? = some (atD l (l.length - 1 - k)) := by
  rw [List.getElem?_reverse hk, atD_get (by omega)]
theorem effS_none {l : List Rt} (h : ∀ j, j < l.length → (atD l (l.length - 1 - j)).blank = true) : effS l = fullR := by
  unfold effS
  rw [List.find?_eq_none.2]
  · rfl
  · intro x hx
    obtain ⟨j, hj, rfl⟩ := List.getElem_of_mem hx
    rw [List.length_reverse] at hj
    have h1 := rev_atD hj
    rw [List.getElem?_eq_getElem (by simpa using hj)] at h1
    injection h1 with h1
    rw [h1, h j hj]
    decide
theorem effS_some {l : List Rt} {k : Nat} (hk : k < l.length) (h : ∀ j, j < k → (atD l (l.length - 1 - j)).blank = true) (hx : (atD l (l.length - 1 - k)).blank = false) : effS l = atD l (l.length - 1 - k) := by
  unfold effS
  have : l.reverse.find? (fun r => !r.blank) = some (atD l (l.length - 1 - k)) := by
    rw [List.find?_eq_some_iff_getElem]
    refine ⟨by rw [hx]; rfl, k, by simpa using hk, ?_, fun j hj => ?_⟩
    · have := rev_atD hk
      rw [List.getElem?_eq_getElem (by simpa using hk)] at this
      injection this
    · have h1 := rev_atD (show j < l.length by omega)
      rw [List.getElem?_eq_getElem (by rw [List.length_reverse]; omega)] at h1
      injection h1 with h1
      rw [h1, h j hj]
      decide
  rw [this]
  rfl
theorem effective_any (H : Holds I w L) {v : Value} {l : List Rt} (hv : SlR I L v 6 l.length (l.flatMap rtC)) (hl : l.length ≤ 140737488355328) :
    Rets Try.prog F_rights_effective #[v] w fun u w' => u = .agg (rtC (effS l)).toArray ∧ Holds I w' L := by
  obtain ⟨A, cap, rfl, hcap⟩ := hv.form
  refine ok_rights_effective.rets rfl ?_
  repeat' (first
    | (show VcL _ _ _ _ _ _ _ _; first
      | refine VcL.pures tabOk rfl ?_
      | refine VcL.nil ?_
      | refine VcL.alloc tabOk H rfl rfl rfl rfl (fun b w H => ?_)
      | (show VcL _ _ _ _ (⟨_, .call ⟨.value (.func F_slices_Backward_api_Rights_api_Rights), _, _⟩, _, _, _, _⟩ :: _) _ _ _; (refine VcL.callF ok_slices_Backward_api_Rights_api_Rights rfl rfl rfl rfl (Rets.mono (BackwardR_any H) ?_); rintro _ w ⟨bs, rfl, H⟩)))
    | (show Vc _ _ _ _ _ _; first
      | refine Vc.seq ?_
      | refine Vc.region ?_
      | refine Vc.block ?_)
    | (show KSeq _ _ _ _ _ _ _; refine KSeq.normal ?_))
  refine Vc.range (f := F_slices_Backward_api_Rights_api_Rights_1) (N := l.length) (args := fun k => [.int .i64 ((l.length - 1 - k : Nat) : Int), .agg (rtC (atD l (l.length - 1 - k))).toArray])
    (fun k r => r = zeroR ∧ ∀ j, j < k → (atD l (l.length - 1 - j)).blank = true) (fun r => r = effS l) (fun _ => I) (fun r => blk bs 44 [.slice A l.length cap] :: blk b 24 (rtC r) :: L) zeroR
    rfl rfl rfl ok_slices_Backward_api_Rights_api_Rights_1.enter rfl (fun _ => rfl) ⟨rfl, fun j hj => absurd hj (by omega)⟩ H ?_ ?_ ?_ ?_
  · intro lp J Jx w1 hJ hY h0
    refine Backward1R_any (A := A) (cap := cap) rtC_len hl (fun k w hk => ?_) hY h0
    obtain ⟨s, U, _, HJ⟩ := hJ k w hk
    refine ⟨Holds.cell HJ rfl, fun i hi => ?_⟩
    obtain ⟨b2, o2, rfl, hr⟩ := hv.at (by omega)
    have H2 : Holds I w (L ++ U) := HJ.drop.drop
    exact ⟨b2, o2, rfl, (hr.elem rtC_len (atD_get hi)).rd H2.left⟩
  · rintro lp k r U w hk ⟨rfl, hall⟩ H
    have H : Holds I w (blk bs 44 [.slice A l.length cap] :: blk b 24 (rtC zeroR) :: (L ++ U)) := H
    obtain ⟨x, hx⟩ : ∃ x, atD l (l.length - 1 - k) = x := ⟨_, rfl⟩
    rw [hx]
    obtain ⟨x1, x2, x3, x4, x5, x6⟩ := x
    show Vc _ _ _ _ (zipE [7, 8] [_, .agg #[.int .i64 x1, .int .i64 x2, .int .i64 x3, .int .i64 x4, .int .i64 x5, .bool x6]] _) _
    repeat' (first
      | (show VcL _ _ _ _ _ _ _ _; first
      | refine VcL.nil ?_
      | refine VcL.alloc tabOk H rfl rfl rfl rfl (fun b w H => ?_)
      | (show VcL _ _ _ _ (⟨_, .store _ _ _, _, _, _, _⟩ :: _) _ _ _; refine VcL.store tabOk rfl (by exact H) rfl rfl (by exact rfl) (by exact rfl) (by exact rfl) (by exact rfl) (fun w H => ?_)))
      | (show Vc _ _ _ _ _ _; refine Vc.region ?_))
    refine KAsg.go (I := I) (L := blk b 24 (rtC ⟨x1, x2, x3, x4, x5, x6⟩) :: blk bs 44 [.slice A l.length cap] :: blk _ 24 (rtC zeroR) :: L) H ?_
    rintro U' w H
    have H : Holds I w (blk b 24 [.int .i64 x1, .int .i64 x2, .int .i64 x3, .int .i64 x4, .int .i64 x5, .bool x6] :: blk bs 44 [.slice A l.length cap] :: blk _ 24 (rtC zeroR) :: (L ++ U')) := H
    repeat' (first
      | (show VcL _ _ _ _ _ _ _ _; first
      | refine VcL.pures tabOk rfl ?_
      | refine VcL.nil ?_
      | (show VcL _ _ _ _ (⟨_, .load _ _, _, _, _, _⟩ :: _) _ _ _; first
      | refine VcL.load1 tabOk rfl rfl rfl rfl rfl (by exact Holds.cell H rfl) ?_
      | refine VcL.loadN tabOk rfl rfl rfl rfl rfl rfl (by exact H) (by exact rfl) ?_)
      | (show VcL _ _ _ _ (⟨_, .store _ _ _, _, _, _, _⟩ :: _) _ _ _; refine VcL.store tabOk rfl (by exact (Holds.f2 H)) rfl rfl (by exact rfl) (by exact rfl) (by exact rfl) (by exact rfl) (fun w H => ?_)))
      | (show Vc _ _ _ _ _ _; first
      | refine Vc.seq ?_
      | refine Vc.region ?_
      | refine Vc.ret ?_
      | refine Vc.skip ?_
      | refine Vc.block ?_
      | (refine Vc.cond rfl (fun h => ?_) (fun h => ?_) <;> skip))
      | (show KSeq _ _ _ _ _ _ _; refine KSeq.normal ?_)
      | (show KBlock _ _ _ _ _ _; first
      | refine KBlock.normal ?_
      | refine KBlock.ret ?_))
    · cases x6 with
      | true => cases h
      | false => exact KRound.ret _ (by rw [effS_some hk hall (by rw [hx]), hx]) (Holds.drop2 (Holds.re [2, 0] H rfl))
    · cases x6 with
      | false => cases h
      | true =>
        refine KRound.normal zeroR ⟨rfl, fun j hj => ?_⟩ H.drop
        rcases Nat.lt_or_ge j k with h1 | h1
        · exact hall j h1
        · obtain rfl : j = k := by omega
          rw [hx]
  · rintro D r w ⟨rfl, hall⟩ H
    repeat' (first
      | (show VcL _ _ _ _ _ _ _ _; first
      | refine VcL.pures tabOk rfl ?_
      | refine VcL.nil ?_
      | (show VcL _ _ _ _ (⟨_, .store _ _ _, _, _, _, _⟩ :: _) _ _ _; refine VcL.store tabOk rfl (by exact (Holds.f2 H)) rfl rfl (by exact rfl) (by exact rfl) (by exact rfl) (by exact rfl) (fun w H => ?_)))
      | (show Vc _ _ _ _ _ _; first
      | refine Vc.seq ?_
      | refine Vc.region ?_
      | refine Vc.ret ?_)
      | (show KSeq _ _ _ _ _ _ _; refine KSeq.normal ?_)
      | (show KBlock _ _ _ _ _ _; refine KBlock.normal ?_))
    exact KEnd.fin2 rfl (Holds.f1 H) (.inr rfl) fun w H => ⟨_, ResL.cell rfl (LoadV.aggH tabOk rfl rfl H (by exact rfl)) ResL.nil, by rw [effS_none hall]; rfl, H.drop.drop⟩
  · rintro D r w rfl H
    repeat' (first
      | (show KSeq _ _ _ _ _ _ _; refine KSeq.ret ?_)
      | (show KBlock _ _ _ _ _ _; refine KBlock.ret ?_))
    exact KEnd.fin2 rfl H (.inr rfl) fun w H => ⟨_, ResL.cell rfl (LoadV.aggH tabOk rfl rfl H.f1 (by exact rfl)) ResL.nil, rfl, H.drop.drop⟩
end Go.Proofs.Ytkmbcjpedmlhfaa.V
