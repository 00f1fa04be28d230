/- A door of the document. -/
import Derived.Test.YtccbfajjboccoaaVE
namespace Go.Proofs.Ytccbfajjboccoaa.V
open Go Go.Proofs.YtccbfajjboccoaaV
set_option linter.unusedVariables false
set_option linter.unusedSimpArgs false
set_option maxHeartbeats 1000000
attribute [local irreducible] IntKind.wrap
variable {I : Imm} {w : World} {L : List Asn}
/-- A guard of the document: the number that counts (-1: none), how many tries have failed. -/
def gdN (v : Vs) : Int := if v.given then (v.num : Int) else -1
def gdC (v : Vs) : List Value := [.int .i64 (gdN v), .int .i64 (v.tries : Int)]
theorem gdC_len (v : Vs) : (gdC v).length = 2 := rfl
theorem gdC_one (v : Vs) : ∀ x ∈ gdC v, oneC x = true := by
  intro x hx
  simp only [gdC, List.mem_cons, List.not_mem_nil, or_false] at hx
  rcases hx with rfl | rfl <;> rfl
def usV1 (v : Vs) : List Value := usC v.user
theorem usV1_len (v : Vs) : (usV1 v).length = 4 := rfl
theorem usV1_one (v : Vs) : ∀ x ∈ usV1 v, oneC x = true := usC_one v.user
abbrev rdV (D : Dr) (lv gv : Value) : List Value := [lv, gv, .int .i64 (D.seed : Int), .int .i64 (D.asked : Int)]
abbrev ownLV (v : Value) (l : List Vs) : Asn := own v 34 4 l.length (l.flatMap usV1)
abbrev ownGV (v : Value) (l : List Vs) : Asn := own v 79 2 l.length (l.flatMap gdC)
def rdA (d : Nat) (D : Dr) : Asn := ex fun lv => ex fun gv => star (blk d 77 (rdV D lv gv)) (star (ownLV lv D.vis) (ownGV gv D.vis))
theorem rd_own {d : Nat} {D : Dr} : Holds I w (rdA d D :: L) ↔ ∃ lv gv, Holds I w (blk d 77 (rdV D lv gv) :: ownLV lv D.vis :: ownGV gv D.vis :: L) := by
  unfold rdA
  rw [Holds.ex]
  refine exists_congr fun lv => ?_
  rw [Holds.ex]
  refine exists_congr fun gv => ?_
  rw [Holds.star]
  exact ⟨fun h => (Holds.star.1 h.swap).f2, fun h => (Holds.star.2 h.f1.f2.swap).swap⟩
/-- What is known when a door of the document lies open. -/
theorem rd_open {d : Nat} {D : Dr} (H : Holds I w (rdA d D :: L)) : ∃ A1 c1 A2 c2, Holds I w (blk d 77 (rdV D (.slice A1 D.vis.length c1) (.slice A2 D.vis.length c2)) :: ownLV (.slice A1 D.vis.length c1) D.vis :: ownGV (.slice A2 D.vis.length c2) D.vis :: L) := by
  obtain ⟨lv, gv, H⟩ := rd_own.1 H
  obtain ⟨_, A1, c1, rfl⟩ := H.swap.own_len
  obtain ⟨_, A2, c2, rfl⟩ := H.f2.own_len
  exact ⟨A1, c1, A2, c2, H⟩
theorem rd_close {d n : Nat} {D : Dr} {lv gv : Value} (hn : D.vis.length = n) (H : Holds I w (blk d 77 (rdV D lv gv) :: own lv 34 4 n (D.vis.flatMap usV1) :: own gv 79 2 n (D.vis.flatMap gdC) :: L)) : Holds I w (rdA d D :: L) := by
  subst hn
  exact rd_own.2 ⟨lv, gv, H⟩
theorem rd_shut {d n : Nat} {D : Dr} {lv gv : Value} {us gs : List Value} (hn : D.vis.length = n) (hu : D.vis.flatMap usV1 = us) (hg : D.vis.flatMap gdC = gs) (H : Holds I w (blk d 77 (rdV D lv gv) :: own lv 34 4 n us :: own gv 79 2 n gs :: L)) : Holds I w (rdA d D :: L) := by
  subst hu; subst hg
  exact rd_close hn H
theorem placeR_any {d : Nat} {D : Dr} {A1 A2 : Option Addr} {c1 c2 : Nat} (H : Holds I w (blk d 77 (rdV D (.slice A1 D.vis.length c1) (.slice A2 D.vis.length c2)) :: ownLV (.slice A1 D.vis.length c1) D.vis :: ownGV (.slice A2 D.vis.length c2) D.vis :: L)) (hD : DrOk I D) (name : ByteArray) (hn : name.size ≤ 140737488355328) :
    Rets Try.prog F_tithingref24_Door_place #[ptr d, .string name] w fun u w' => u = .int .i64 (placeD D name) ∧ Holds I w' (blk d 77 (rdV D (.slice A1 D.vis.length c1) (.slice A2 D.vis.length c2)) :: ownLV (.slice A1 D.vis.length c1) D.vis :: ownGV (.slice A2 D.vis.length c2) D.vis :: L) := by
  have hl := hD.len
  refine ok_tithingref24_Door_place.rets rfl ?_
  repeat' (first
    | (show VcL _ _ _ _ _ _ _ _; first
      | refine VcL.pures tabOk rfl ?_
      | refine VcL.nil ?_)
    | (show Vc _ _ _ _ _ _; first
      | refine Vc.seq ?_
      | refine Vc.region ?_
      | refine Vc.block ?_)
    | (show KSeq _ _ _ _ _ _ _; refine KSeq.normal ?_))
  refine Vc.loopS [(0, _), (1, _)] (fun k : Nat => [(5, .int .i64 k)]) (fun k w => Holds I w (blk d 77 (rdV D (.slice A1 D.vis.length c1) (.slice A2 D.vis.length c2)) :: ownLV (.slice A1 D.vis.length c1) D.vis :: ownGV (.slice A2 D.vis.length c2) D.vis :: L) ∧ k ≤ D.vis.length ∧ ∀ j, j < k → hasN name (atD D.vis j) = false) (fun k _ => D.vis.length - k) 0 ⟨rfl, trivial⟩ ⟨rfl, rfl, trivial⟩ ⟨H, Nat.zero_le _, fun j hj => absurd hj (by omega)⟩ ?_
  rintro k w ⟨H, hk, hall⟩
  by_cases hlt : k < D.vis.length
  · obtain ⟨b2, o2, rfl, _⟩ := (Holds.own_toR H.drop).at (by omega)
    have hnm := (hD.vis _ (atD_mem hlt)).user.name
    repeat' (first
      | (show VcL _ _ _ _ _ _ _ _; first
      | refine VcL.pures tabOk rfl ?_
      | refine VcL.nil ?_
      | (show VcL _ _ _ _ (⟨_, .load _ _, _, _, _, _⟩ :: _) _ _ _; refine VcL.load1 tabOk rfl rfl rfl rfl rfl (by first | exact Holds.cell H rfl | exact Holds.ownCell (Holds.f1 H) (fun _ => rfl) (by exact atD_get (by assumption)) rfl) ?_)
      | (show VcL _ _ _ _ (⟨_, .indexAddr _ _ _, _, _, _, _⟩ :: _) _ _ _; refine VcL.indexAddr tabOk rfl rfl rfl rfl rfl rfl (by omega) (by omega) ?_)
      | (show VcL _ _ _ _ (⟨_, .call ⟨.value (.func F_tithingref01_Equal), _, _⟩, _, _, _, _⟩ :: _) _ _ _; (refine VcL.callF ok_tithingref01_Equal rfl rfl rfl rfl (Rets.mono (EqualR_any H _ _ hnm hn) ?_); rintro _ w ⟨rfl, H⟩)))
      | (show Vc _ _ _ _ _ _; first
      | refine Vc.seq ?_
      | refine Vc.region ?_
      | refine Vc.ret ?_
      | refine Vc.skip ?_
      | refine Vc.block ?_
      | (refine Vc.cond rfl (fun h => ?_) (fun h => ?_) <;> first | (exfalso; simp only [decide_eq_true_eq, decide_eq_false_iff_not] at h; omega) | (with_reducible have hp := of_decide_eq_true h) | skip))
      | (show KSeq _ _ _ _ _ _ _; first
      | refine KSeq.normal ?_
      | refine KSeq.ret ?_)
      | (show KBlock _ _ _ _ _; first
      | refine KBlock.normal ?_
      | refine KBlock.ret ?_)
      | refine KLoop.ret ?_
      | (show KEnd _ _ _ _ _ _; refine KEnd.mk (Or.inr rfl) ⟨_, (ResL.tmp rfl ResL.nil), ?_⟩))
    · exact ⟨by show Value.int .i64 k = _; rw [show placeD D name = (k : Int) from idxF_yes hlt h hall], H⟩
    · refine KLoop.again (k + 1) ⟨got_succ rfl (by omega), trivial⟩ ⟨rfl, rfl, trivial⟩ ⟨H, hlt, fun j hj => ?_⟩ (by omega)
      rcases Nat.lt_or_ge j k with h1 | h1
      · exact hall j h1
      · obtain rfl : j = k := by omega
        exact h
  ·
    repeat' (first
      | (show VcL _ _ _ _ _ _ _ _; first
      | refine VcL.pures tabOk rfl ?_
      | refine VcL.nil ?_
      | (show VcL _ _ _ _ (⟨_, .load _ _, _, _, _, _⟩ :: _) _ _ _; refine VcL.load1 tabOk rfl rfl rfl rfl rfl (by exact Holds.cell H rfl) ?_))
      | (show Vc _ _ _ _ _ _; first
      | refine Vc.seq ?_
      | refine Vc.region ?_
      | refine Vc.ret ?_
      | refine Vc.exit ?_
      | (refine Vc.cond rfl (fun h => ?_) (fun h => ?_) <;> first | (exfalso; simp only [decide_eq_true_eq, decide_eq_false_iff_not] at h; omega) | (with_reducible have hp := of_decide_eq_false h)))
      | (show KSeq _ _ _ _ _ _ _; first
      | refine KSeq.normal ?_
      | refine KSeq.exit ?_)
      | (show KBlock _ _ _ _ _; refine KBlock.here ?_)
      | refine KLoop.exit ?_
      | (show KEnd _ _ _ _ _ _; refine KEnd.mk (Or.inr rfl) ⟨_, (ResL.tmp rfl ResL.nil), ?_⟩))
    obtain rfl : k = D.vis.length := by omega
    exact ⟨by show Value.int .i64 (-1) = _; rw [show placeD D name = -1 from idxF_no hall], H⟩
theorem place_cases (D : Dr) (name : ByteArray) : placeD D name = -1 ∨ ∃ k, k < D.vis.length ∧ placeD D name = (k : Int) := by
  rcases idxF_cases (hasN name) D.vis with ⟨h, _⟩ | ⟨k, hk, h, _⟩
  · exact .inl h
  · exact .inr ⟨k, hk, h⟩
theorem cipherRI_any (H : Holds I w L) {x k : Int} (hx : 0 ≤ x ∧ x < 4294967296) (hk : 0 ≤ k ∧ k < 4294967296) : Rets Try.prog F_tithingref24_cipher #[.int .i64 x, .int .i64 k] w fun u w' => u = .int .i64 (cphV x k) ∧ Holds I w' L := by
  obtain ⟨n, rfl⟩ := Int.eq_ofNat_of_zero_le hx.1
  obtain ⟨m, rfl⟩ := Int.eq_ofNat_of_zero_le hk.1
  exact cipherR_any H (by omega) (by omega)
theorem flat_same {α : Type} [Inhabited α] {enc : α → List Value} {l : List α} {k : Nat} {q : α} (hk : k < l.length) (h : enc q = enc (atD l k)) : (l.set k q).flatMap enc = l.flatMap enc := by
  have e1 : (l.set k q)[k]? = some q := by simp [hk]
  rw [flat_split e1, flat_split (atD_get hk), h]
  rw [List.take_set_of_le (Nat.le_refl k), List.drop_set_of_lt (by omega)]
theorem AskR_any {d : Nat} {D : Dr} (H : Holds I w (rdA d D :: L)) (hD : DrOk I D) (hasked : D.asked < 2 ^ 40) (name : ByteArray) (hn : name.size ≤ 140737488355328) :
    Rets Try.prog F_tithingref24_Door_Ask #[ptr d, .string name] w fun u w' => u = .tuple #[.int .i64 (askS D name).2.1, .int .i64 (askS D name).2.2] ∧ Holds I w' (rdA d (askS D name).1 :: L) := by
  obtain ⟨A1, c1, A2, c2, HB⟩ := rd_open H
  clear H
  have H := HB
  clear HB
  have hmod : Int.tmod (D.asked : Int) (Int.ofNat (4294967295 + 1)) = ((D.asked % 2 ^ 32 : Nat) : Int) := by
    show Int.tmod _ 4294967296 = _
    rw [Int.tmod_eq_emod_of_nonneg (by omega)]; omega
  have hsucc : IntKind.i64.wrap ((D.asked : Int) + 1) = ((D.asked + 1 : Nat) : Int) := wrap_succ _ (Nat.lt_trans hasked (by decide))
  rcases place_cases D name with hpl | ⟨k, hk, hpl⟩
  · have e1 : askS D name = (D, 0, 240) := by unfold askS; rw [hpl]; rfl
    refine ok_tithingref24_Door_Ask.rets rfl ?_
    repeat' (first
      | (show VcL _ _ _ _ _ _ _ _; first
      | refine VcL.pures tabOk rfl ?_
      | refine VcL.nil ?_
      | (show VcL _ _ _ _ (⟨_, .call ⟨.value (.func F_tithingref24_Door_place), _, _⟩, _, _, _, _⟩ :: _) _ _ _; (refine VcL.callF ok_tithingref24_Door_place rfl rfl rfl rfl (Rets.mono (placeR_any H hD name hn) ?_); rintro _ w ⟨rfl, H⟩; rw [hpl]))
      | (refine VcL.guard rfl rfl rfl rfl (fun h => ?_) (fun h => ?_) <;> first | (cases h; done) | (with_reducible have hp := of_decide_eq_true h)))
      | (show Vc _ _ _ _ _ _; first
      | refine Vc.seq ?_
      | refine Vc.region ?_
      | refine Vc.condT rfl ?_
      | refine Vc.ret ?_)
      | (show KSeq _ _ _ _ _ _ _; first
      | refine KSeq.normal ?_
      | refine KSeq.ret ?_)
      | (show KEnd _ _ _ _ _ _; refine KEnd.mk (Or.inr rfl) ⟨_, (ResL.tmp rfl (ResL.tmp rfl ResL.nil)), ?_⟩))
    rw [e1]
    exact ⟨rfl, rd_close rfl H⟩
  · obtain ⟨gb, go, rfl, _⟩ := (Holds.own_toR H.f2).at (by omega)
    refine ok_tithingref24_Door_Ask.rets rfl ?_
    repeat' (first
      | rw [hmod]
      | rw [hsucc]
      | (refine VcD.eff rfl rfl rfl rfl (OpE.storeOwn (f := 0) (vGive (atD D.vis k) (cphN (D.asked % 2 ^ 32) D.seed)) tabOk gdC_len (Holds.f2 H) (atD_get hk) rfl (by exact rfl) rfl (by exact rfl) (by exact rfl) (by exact rfl) (by exact rfl) (by exact rfl)) ?_; rintro _ w ⟨_, H⟩; have H := Holds.f2 (Holds.f2 H); refine ⟨Holds.rdWhole H, ?_⟩; have hrow := set_at (l := D.vis) (y := vGive (atD D.vis k) (cphN (D.asked % 2 ^ 32) D.seed)) hk)
      | (show VcL _ _ _ _ _ _ _ _; first
      | refine VcL.pures tabOk rfl ?_
      | refine VcL.nil ?_
      | (show VcL _ _ _ _ (⟨_, .load _ _, _, _, _, _⟩ :: _) _ _ _; refine VcL.load1 tabOk rfl rfl rfl rfl rfl (by first | exact Holds.cell H rfl | exact Holds.ownCell (Holds.f2 H) (fun _ => rfl) (by first | assumption | exact atD_get (by assumption)) rfl | exact Holds.ownCell0 (Holds.f2 H) (fun _ => rfl) (by assumption) rfl) ?_)
      | (show VcL _ _ _ _ (⟨_, .indexAddr _ _ _, _, _, _, _⟩ :: _) _ _ _; refine VcL.indexAddr tabOk rfl rfl rfl rfl rfl rfl (by omega) (by omega) ?_)
      | (show VcL _ _ _ _ (⟨_, .store _ _ _, _, _, _, _⟩ :: _) _ _ _; refine VcL.store tabOk rfl (by exact H) rfl rfl (by exact rfl) (by exact rfl) (by exact rfl) (by exact rfl) (fun w H => ?_))
      | (show VcL _ _ _ _ (⟨_, .call ⟨.value (.func F_tithingref24_Door_place), _, _⟩, _, _, _, _⟩ :: _) _ _ _; (refine VcL.callF ok_tithingref24_Door_place rfl rfl rfl rfl (Rets.mono (placeR_any H hD name hn) ?_); rintro _ w ⟨rfl, H⟩; rw [hpl]))
      | (refine VcL.guard rfl rfl rfl rfl (fun h => ?_) (fun h => ?_) <;> first | (cases h; done) | (with_reducible have hp := of_decide_eq_false h)))
      | (show VcD _ _ _ _ _ _ _ _ _; first
      | refine VcD.pures tabOk rfl ?_
      | refine VcD.done ?_
      | (show VcD _ _ _ _ _ (.pure _ _) _ _ _; refine VcD.indexAddr tabOk rfl rfl rfl rfl rfl rfl rfl (by omega) (by omega) ?_)
      | (show VcD _ _ _ _ _ (.take _ _) _ _ _; refine VcD.load1 tabOk rfl rfl rfl rfl rfl rfl (by intro w_ hw_; exact hw_ _ _ rfl) (by exact rfl) ?_)
      | (show VcD _ _ _ _ _ (.only _ _) _ _ _; (refine VcD.callF (f := F_tithingref24_cipher) rfl ok_tithingref24_cipher rfl rfl rfl rfl (Rets.mono (cipherR_any H (Nat.mod_lt _ (by decide)) hD.seed) ?_); rintro _ w ⟨rfl, H⟩; refine ⟨(by exact Holds.rdWhole H), ?_⟩)))
      | (show Vc _ _ _ _ _ _; first
      | refine Vc.seq ?_
      | refine Vc.region ?_
      | refine Vc.ret ?_
      | refine Vc.skip ?_
      | (refine Vc.drawn (id := 4) (.pure 0 (.pure 1 (.pure 2 (.pure 4 (.pure 5 (.pure 6 (.pure 7 (.pure 10 (.pure 11 (.pure 12 (.take 3 (.take 8 (.pure 9 (.take 13 (.only 14 (.pure 15 (.pure 16 (.only 17 .done)))))))))))))))))) (.one (fun w => Rd w d 0 (rdV D (.slice A1 D.vis.length c1) (.slice (some ⟨gb, go, none⟩) D.vis.length c2)))) mixed (by kernel_rfl) (by exact Holds.rdWhole (Holds.drew H _)) ?_; have H := H.drew (w.drawn + 1))
      | (refine Vc.cond rfl (fun h => ?_) (fun h => ?_) <;> first | (with_reducible have hp := of_decide_eq_true h) | (with_reducible have hp := of_decide_eq_false h)))
      | (show KSeq _ _ _ _ _ _ _; first
      | refine KSeq.normal ?_
      | refine KSeq.ret ?_)
      | (show KEnd _ _ _ _ _ _; refine KEnd.mk (Or.inr rfl) ⟨_, (ResL.tmp rfl (ResL.tmp rfl ResL.nil)), ?_⟩))
    · have hp1 : 5 ≤ ((atD D.vis k).tries : Int) := hp
      have e1 : askS D name = (D, 0, 240) := by unfold askS; rw [hpl]; simp only [Int.toNat_natCast]; rw [if_pos (by omega)]
      rw [e1]
      exact ⟨rfl, rd_close rfl H⟩
    · have hp1 : ¬ 5 ≤ ((atD D.vis k).tries : Int) := hp
      have e1 : askS D name = ((⟨D.seed, D.asked + 1, D.vis.set k (vGive (atD D.vis k) (cphN (D.asked % 2 ^ 32) D.seed))⟩ : Dr), ((cphN (D.asked % 2 ^ 32) D.seed : Nat) : Int), (0 : Int)) := by unfold askS; rw [hpl]; simp only [Int.toNat_natCast]; rw [if_neg (by omega)]
      have e2 : (D.vis.set k (vGive (atD D.vis k) (cphN (D.asked % 2 ^ 32) D.seed))).flatMap usV1 = D.vis.flatMap usV1 := flat_same hk rfl
      rw [e1]
      exact ⟨rfl, rd_shut List.length_set e2 rfl H⟩
def plcE (r : Dr × Option Nat) : Int := match r.2 with
  | some k => (k : Int)
  | none => -1
theorem enterR_any {d : Nat} {D : Dr} (H : Holds I w (rdA d D :: L)) (hD : DrOk I D) (name : ByteArray) (hn : name.size ≤ 140737488355328) (answer : Int) :
    Rets Try.prog F_tithingref24_Door_enter #[ptr d, .string name, .int .i64 answer] w fun u w' => u = .int .i64 (plcE (enterS D name answer)) ∧ Holds I w' (rdA d (enterS D name answer).1 :: L) := by
  obtain ⟨A1, c1, A2, c2, HB⟩ := rd_open H
  clear H
  have H := HB
  clear HB
  rcases place_cases D name with hpl | ⟨k, hk, hpl⟩
  · have e1 : enterS D name answer = (D, none) := by unfold enterS; rw [hpl]; rfl
    refine ok_tithingref24_Door_enter.rets rfl ?_
    repeat' (first
      | (show VcL _ _ _ _ _ _ _ _; first
      | refine VcL.pures tabOk rfl ?_
      | refine VcL.nil ?_
      | (show VcL _ _ _ _ (⟨_, .call ⟨.value (.func F_tithingref24_Door_place), _, _⟩, _, _, _, _⟩ :: _) _ _ _; (refine VcL.callF ok_tithingref24_Door_place rfl rfl rfl rfl (Rets.mono (placeR_any H hD name hn) ?_); rintro _ w ⟨rfl, H⟩; rw [hpl]))
      | (refine VcL.guard rfl rfl rfl rfl (fun h => ?_) (fun h => ?_) <;> first | (cases h; done) | (with_reducible have hp := of_decide_eq_true h) | skip))
      | (show Vc _ _ _ _ _ _; first
      | refine Vc.seq ?_
      | refine Vc.region ?_
      | refine Vc.condT rfl ?_
      | refine Vc.ret ?_)
      | (show KSeq _ _ _ _ _ _ _; first
      | refine KSeq.normal ?_
      | refine KSeq.ret ?_)
      | (show KEnd _ _ _ _ _ _; refine KEnd.mk (Or.inr rfl) ⟨_, (ResL.tmp rfl ResL.nil), ?_⟩))
    rw [e1]
    exact ⟨rfl, rd_close rfl H⟩
  · obtain ⟨gb, go, rfl, _⟩ := (Holds.own_toR H.f2).at (by omega)
    obtain ⟨lb, lo, rfl, _⟩ := (Holds.own_toR H.f1).at (by omega)
    have hv := hD.vis _ (atD_mem hk)
    have htk : ((k : Int)).toNat = k := Int.toNat_natCast k
    have hsec : 0 ≤ (atD D.vis k).user.sec ∧ (atD D.vis k).user.sec < 4294967296 := by
      obtain ⟨s, hs, hs2⟩ := hv.sec
      omega
    have hnum : 0 ≤ ((atD D.vis k).num : Int) ∧ ((atD D.vis k).num : Int) < 4294967296 := by
      have := hv.num
      omega
    have hsucc : IntKind.i64.wrap (((atD D.vis k).tries : Int) + 1) = (((atD D.vis k).tries + 1 : Nat) : Int) := wrap_succ _ (Nat.lt_of_le_of_lt hv.tries (by decide))
    have e2 : ∀ q : Vs, q.user = (atD D.vis k).user → (D.vis.set k q).flatMap usV1 = D.vis.flatMap usV1 := fun q hq => flat_same hk (by unfold usV1; rw [hq])
    have hfin : ∀ (q : Vs), q.user = (atD D.vis k).user → ∀ w, Holds I w (blk d 77 (rdV D (.slice (some ⟨lb, lo, none⟩) D.vis.length c1) (.slice (some ⟨gb, go, none⟩) D.vis.length c2)) :: ownLV (.slice (some ⟨lb, lo, none⟩) D.vis.length c1) D.vis :: own (.slice (some ⟨gb, go, none⟩) D.vis.length c2) 79 2 D.vis.length ((D.vis.set k q).flatMap gdC) :: L) → Holds I w (rdA d ⟨D.seed, D.asked, D.vis.set k q⟩ :: L) := fun q hq w H => by
      exact rd_shut List.length_set (e2 q hq) rfl H
    by_cases hgv : (atD D.vis k).given = true
    · have hgd : gdN (atD D.vis k) = ((atD D.vis k).num : Int) := by unfold gdN; rw [if_pos hgv]
      refine ok_tithingref24_Door_enter.rets rfl ?_
      repeat' (first
        | rw [htk]
        | rw [hgd]
        | rw [hsucc]
        | (refine VcL.storeOwn0 (vTook (atD D.vis k)) tabOk gdC_len (Holds.f2 H) (atD_get hk) rfl rfl rfl rfl rfl rfl rfl rfl (fun w H => ?_); have H := Holds.f2 (Holds.f2 H); have hrow := set_at (l := D.vis) (y := vTook (atD D.vis k)) hk)
        | (refine VcL.storeOwn (f := 1) (vFail (atD D.vis k)) tabOk gdC_len (Holds.f2 H) (set_at hk) rfl rfl rfl rfl rfl rfl rfl rfl (fun w H => ?_); have H := Holds.f2 (Holds.f2 H))
        | (refine VcL.storeOwn (f := 1) (vDone (atD D.vis k)) tabOk gdC_len (Holds.f2 H) (set_at hk) rfl rfl rfl rfl rfl rfl rfl rfl (fun w H => ?_); have H := Holds.f2 (Holds.f2 H))
        | (show VcL _ _ _ _ _ _ _ _; first
      | refine VcL.pures tabOk rfl ?_
      | refine VcL.nil ?_
      | (show VcL _ _ _ _ (⟨_, .load _ _, _, _, _, _⟩ :: _) _ _ _; refine VcL.load1 tabOk rfl rfl rfl rfl rfl (by first | exact Holds.cell H rfl | exact Holds.ownCell (Holds.f2 H) (fun _ => rfl) (by first | assumption | exact atD_get (by assumption)) rfl | exact Holds.ownCell0 (Holds.f2 H) (fun _ => rfl) (by exact atD_get (by assumption)) rfl) ?_)
      | (show VcL _ _ _ _ (⟨_, .indexAddr _ _ _, _, _, _, _⟩ :: _) _ _ _; refine VcL.indexAddr tabOk rfl rfl rfl rfl rfl rfl (by omega) (by omega) ?_)
      | (show VcL _ _ _ _ (⟨_, .call ⟨.value (.func F_tithingref24_Door_place), _, _⟩, _, _, _, _⟩ :: _) _ _ _; (refine VcL.callF ok_tithingref24_Door_place rfl rfl rfl rfl (Rets.mono (placeR_any H hD name hn) ?_); rintro _ w ⟨rfl, H⟩; rw [hpl]))
      | (refine VcL.guard rfl rfl rfl rfl (fun h => ?_) (fun h => ?_) <;> first | (cases h; done) | (with_reducible have hp := of_decide_eq_false h)))
        | (show VcD _ _ _ _ _ _ _ _ _; first
      | refine VcD.pures tabOk rfl ?_
      | refine VcD.done ?_
      | (show VcD _ _ _ _ _ (.pure _ _) _ _ _; refine VcD.indexAddr tabOk rfl rfl rfl rfl rfl rfl rfl (by omega) (by omega) ?_)
      | (show VcD _ _ _ _ _ (.take _ _) _ _ _; refine VcD.load1 tabOk rfl rfl rfl rfl rfl rfl (by intro w_ hw_; first | exact Holds.cell hw_ rfl | exact Holds.ownCell (Holds.f1 hw_) (fun _ => rfl) (by exact atD_get (by assumption)) rfl | exact Holds.ownCell0 (Holds.f2 hw_) (fun _ => rfl) (by exact atD_get (by assumption)) rfl) (by exact rfl) ?_)
      | (show VcD _ _ _ _ _ (.only _ _) _ _ _; (refine VcD.callF (f := F_tithingref24_cipher) rfl ok_tithingref24_cipher rfl rfl rfl rfl (Rets.mono (cipherRI_any H hnum hsec) ?_); rintro _ w ⟨rfl, H⟩; refine ⟨(by exact H), ?_⟩)))
        | (show Vc _ _ _ _ _ _; first
      | refine Vc.seq ?_
      | refine Vc.region ?_
      | refine Vc.ret ?_
      | refine Vc.skip ?_
      | refine Vc.drawnH (id := 5) H (.pure 0 (.pure 1 (.pure 2 (.pure 3 (.pure 5 (.pure 6 (.pure 7 (.pure 9 (.take 4 (.take 8 (.pure 10 (.pure 11 (.take 12 (.only 13 (.pure 14 (.pure 15 .done)))))))))))))))) mixed (by kernel_rfl) (fun w H => ?_)
      | (refine Vc.cond rfl (fun h => ?_) (fun h => ?_) <;> first | (with_reducible have hp := of_decide_eq_true h) | (with_reducible have hp := of_decide_eq_false h) | (with_reducible have hp := ndec_t h) | (with_reducible have hp := ndec_f h)))
        | (show KSeq _ _ _ _ _ _ _; first
      | refine KSeq.normal ?_
      | refine KSeq.ret ?_)
        | (show KEnd _ _ _ _ _ _; refine KEnd.mk (Or.inr rfl) ⟨_, (ResL.tmp rfl ResL.nil), ?_⟩))
      · have hp1 : 5 ≤ ((atD D.vis k).tries : Int) := hp
        have e1 : enterS D name answer = (D, none) := by unfold enterS; rw [hpl]; simp only [Int.toNat_natCast]; rw [if_pos (by right; left; omega)]
        rw [e1]
        exact ⟨rfl, rd_close rfl H⟩
      · have hp1 : ¬ 5 ≤ ((atD D.vis k).tries : Int) := by assumption
        have hx : answer ≠ cphV (atD D.vis k).num (atD D.vis k).user.sec := by simpa using h
        have e1 : enterS D name answer = ((⟨D.seed, D.asked, D.vis.set k (vFail (atD D.vis k))⟩ : Dr), none) := by unfold enterS; rw [hpl]; simp only [Int.toNat_natCast]; rw [if_neg (by simp [hgv]; omega), if_pos hx]
        rw [List.set_set] at H
        rw [e1]
        exact ⟨rfl, hfin (vFail (atD D.vis k)) rfl _ H⟩
      · have hp1 : ¬ 5 ≤ ((atD D.vis k).tries : Int) := by assumption
        have hx : answer = cphV (atD D.vis k).num (atD D.vis k).user.sec := by simpa using h
        have e1 : enterS D name answer = ((⟨D.seed, D.asked, D.vis.set k (vDone (atD D.vis k))⟩ : Dr), some k) := by unfold enterS; rw [hpl]; simp only [Int.toNat_natCast]; rw [if_neg (by simp [hgv]; omega), if_neg (by simpa using hx)]
        rw [List.set_set] at H
        rw [e1]
        exact ⟨rfl, hfin (vDone (atD D.vis k)) rfl _ H⟩
    · have hgd : gdN (atD D.vis k) = -1 := by unfold gdN; rw [if_neg hgv]
      have e1 : enterS D name answer = (D, none) := by unfold enterS; rw [hpl]; simp only [Int.toNat_natCast]; rw [if_pos (by right; right; simpa using hgv)]
      refine ok_tithingref24_Door_enter.rets rfl ?_
      repeat' (first
        | rw [htk]
        | rw [hgd]
        | (show VcL _ _ _ _ _ _ _ _; first
      | refine VcL.pures tabOk rfl ?_
      | refine VcL.nil ?_
      | (show VcL _ _ _ _ (⟨_, .load _ _, _, _, _, _⟩ :: _) _ _ _; refine VcL.load1 tabOk rfl rfl rfl rfl rfl (by first | exact Holds.cell H rfl | exact Holds.ownCell0 (Holds.f2 H) (fun _ => rfl) (by exact atD_get (by assumption)) rfl) ?_)
      | (show VcL _ _ _ _ (⟨_, .indexAddr _ _ _, _, _, _, _⟩ :: _) _ _ _; refine VcL.indexAddr tabOk rfl rfl rfl rfl rfl rfl (by omega) (by omega) ?_)
      | (show VcL _ _ _ _ (⟨_, .call ⟨.value (.func F_tithingref24_Door_place), _, _⟩, _, _, _, _⟩ :: _) _ _ _; (refine VcL.callF ok_tithingref24_Door_place rfl rfl rfl rfl (Rets.mono (placeR_any H hD name hn) ?_); rintro _ w ⟨rfl, H⟩; rw [hpl]))
      | (refine VcL.guard rfl rfl rfl rfl (fun h => ?_) (fun h => ?_) <;> first | (cases h; done) | (with_reducible have hp := of_decide_eq_true h) | (with_reducible have hp := of_decide_eq_false h)))
        | (show Vc _ _ _ _ _ _; first
      | refine Vc.seq ?_
      | refine Vc.region ?_
      | refine Vc.condT rfl ?_
      | refine Vc.ret ?_)
        | (show KSeq _ _ _ _ _ _ _; first
      | refine KSeq.normal ?_
      | refine KSeq.ret ?_)
        | (show KEnd _ _ _ _ _ _; refine KEnd.mk (Or.inr rfl) ⟨_, (ResL.tmp rfl ResL.nil), ?_⟩))
      rw [e1]
      exact ⟨rfl, rd_close rfl H⟩
theorem plcE_some {r : Dr × Option Nat} {k : Nat} (h : r.2 = some k) : plcE r = (k : Int) := by unfold plcE; rw [h]
theorem plcE_none {r : Dr × Option Nat} (h : r.2 = none) : plcE r = -1 := by unfold plcE; rw [h]
theorem EnterR_any {d : Nat} {D : Dr} (H : Holds I w (rdA d D :: L)) (hD : DrOk I D) (name : ByteArray) (hn : name.size ≤ 140737488355328) (answer : Int) :
    Rets Try.prog F_tithingref24_Door_Enter #[ptr d, .string name, .int .i64 answer] w fun u w' => u = .tuple #[.int .i64 (idAt (enterS D name answer)), .int .i64 (errAt (enterS D name answer))] ∧ Holds I w' (rdA d (enterS D name answer).1 :: L) := by
  have hlen := (enterS_ok hD name answer).1.len
  rcases hr : (enterS D name answer).2 with _ | k
  · have hp := plcE_none hr
    refine ok_tithingref24_Door_Enter.rets rfl ?_
    repeat' (first
      | (show VcL _ _ _ _ _ _ _ _; first
      | refine VcL.pures tabOk rfl ?_
      | refine VcL.nil ?_
      | (show VcL _ _ _ _ (⟨_, .call ⟨.value (.func F_tithingref24_Door_enter), _, _⟩, _, _, _, _⟩ :: _) _ _ _; (refine VcL.callF ok_tithingref24_Door_enter rfl rfl rfl rfl (Rets.mono (enterR_any H hD name hn answer) ?_); rintro _ w ⟨rfl, H⟩; rw [hp])))
      | (show Vc _ _ _ _ _ _; first
      | refine Vc.seq ?_
      | refine Vc.region ?_
      | refine Vc.condT rfl ?_
      | refine Vc.ret ?_)
      | (show KSeq _ _ _ _ _ _ _; first
      | refine KSeq.normal ?_
      | refine KSeq.ret ?_)
      | (show KEnd _ _ _ _ _ _; refine KEnd.mk (Or.inr rfl) ⟨_, (ResL.tmp rfl (ResL.tmp rfl ResL.nil)), ?_⟩))
    unfold idAt errAt; rw [hr]; exact ⟨rfl, H⟩
  · have hp := plcE_some hr
    have hk := enterS_some hr
    have htk : ((k : Int)).toNat = k := Int.toNat_natCast k
    refine ok_tithingref24_Door_Enter.rets rfl ?_
    repeat' (first
      | rw [htk]
      | (show VcL _ _ _ _ _ _ _ _; first
      | refine VcL.pures tabOk rfl ?_
      | refine VcL.nil ?_
      | (show VcL _ _ _ _ (⟨_, .load _ _, _, _, _, _⟩ :: _) _ _ _; refine VcL.load1 tabOk rfl rfl rfl rfl rfl (by first | exact Holds.cell H rfl | exact Holds.ownCell0 (Holds.f1 H) (fun _ => rfl) (by exact atD_get (by assumption)) rfl) ?_)
      | (show VcL _ _ _ _ (⟨_, .indexAddr _ _ _, _, _, _, _⟩ :: _) _ _ _; refine VcL.indexAddr tabOk rfl rfl rfl rfl rfl rfl (by omega) (by omega) ?_)
      | (show VcL _ _ _ _ (⟨_, .call ⟨.value (.func F_tithingref24_Door_enter), _, _⟩, _, _, _, _⟩ :: _) _ _ _; (refine VcL.callF ok_tithingref24_Door_enter rfl rfl rfl rfl (Rets.mono (enterR_any H hD name hn answer) ?_); rintro _ w ⟨rfl, H⟩; rw [hp]; obtain ⟨A1, c1, A2, c2, HB⟩ := rd_open H; clear H; have H := HB; clear HB; obtain ⟨lb, lo, rfl, _⟩ := (Holds.own_toR (Holds.f1 H)).at (by omega))))
      | (show Vc _ _ _ _ _ _; first
      | refine Vc.seq ?_
      | refine Vc.region ?_
      | refine Vc.condF rfl ?_
      | refine Vc.ret ?_
      | refine Vc.skip ?_)
      | (show KSeq _ _ _ _ _ _ _; refine KSeq.normal ?_)
      | (show KEnd _ _ _ _ _ _; refine KEnd.mk (Or.inr rfl) ⟨_, (ResL.tmp rfl (ResL.tmp rfl ResL.nil)), ?_⟩))
    unfold idAt errAt; rw [hr]
    exact ⟨rfl, rd_close rfl H⟩
theorem EnterBothR_any {d : Nat} {D : Dr} (H : Holds I w (rdA d D :: L)) (hD : DrOk I D) (name : ByteArray) (hn : name.size ≤ 140737488355328) (answer other : Int) :
    Rets Try.prog F_tithingref24_Door_EnterBoth #[ptr d, .string name, .int .i64 answer, .int .i64 other] w fun u w' => u = bothV D name answer other ∧ Holds I w' (rdA d (bothS D name answer other) :: L) := by
  have hok := (enterS_ok hD name answer).1
  have hlen := hok.len
  by_cases ho : is32 other = true
  · have hto : 0 ≤ other ∧ other < 4294967296 := by unfold is32 at ho; simp only [Bool.and_eq_true, decide_eq_true_eq] at ho; omega
    unfold bothV bothS
    rw [if_pos ho, if_pos ho]
    rcases hr : (enterS D name answer).2 with _ | k
    · have hp := plcE_none hr
      refine ok_tithingref24_Door_EnterBoth.rets rfl ?_
      repeat' (first
        | rw [ho]
        | (show VcL _ _ _ _ _ _ _ _; first
      | refine VcL.pures tabOk rfl ?_
      | refine VcL.nil ?_
      | (show VcL _ _ _ _ (⟨_, .call ⟨.value (.func F_tithingref24_isNumber), _, _⟩, _, _, _, _⟩ :: _) _ _ _; (refine VcL.callF ok_tithingref24_isNumber rfl rfl rfl rfl (Rets.mono (isNumber_any H _) ?_); rintro _ w ⟨rfl, H⟩))
      | (show VcL _ _ _ _ (⟨_, .call ⟨.value (.func F_tithingref24_Door_enter), _, _⟩, _, _, _, _⟩ :: _) _ _ _; (refine VcL.callF ok_tithingref24_Door_enter rfl rfl rfl rfl (Rets.mono (enterR_any H hD name hn answer) ?_); rintro _ w ⟨rfl, H⟩; rw [hp])))
        | (show Vc _ _ _ _ _ _; first
      | refine Vc.seq ?_
      | refine Vc.region ?_
      | refine Vc.condT rfl ?_
      | refine Vc.condF rfl ?_
      | refine Vc.ret ?_
      | refine Vc.skip ?_)
        | (show KSeq _ _ _ _ _ _ _; first
      | refine KSeq.normal ?_
      | refine KSeq.ret ?_)
        | (show KEnd _ _ _ _ _ _; refine KEnd.mk (Or.inr rfl) ⟨_, (ResL.tmp rfl (ResL.tmp rfl (ResL.tmp rfl ResL.nil))), ?_⟩))
      exact ⟨rfl, H⟩
    · have hp := plcE_some hr
      have hk := enterS_some hr
      have htk : ((k : Int)).toNat = k := Int.toNat_natCast k
      have htn := turnK_eq (hok.vis _ (atD_mem hk)).sec
      refine ok_tithingref24_Door_EnterBoth.rets rfl ?_
      repeat' (first
        | rw [ho]
        | rw [htk]
        | rw [htn.1]
        | (show VcL _ _ _ _ _ _ _ _; first
      | refine VcL.pures tabOk rfl ?_
      | refine VcL.nil ?_
      | (show VcL _ _ _ _ (⟨_, .call ⟨.value (.func F_tithingref24_isNumber), _, _⟩, _, _, _, _⟩ :: _) _ _ _; (refine VcL.callF ok_tithingref24_isNumber rfl rfl rfl rfl (Rets.mono (isNumber_any H _) ?_); rintro _ w ⟨rfl, H⟩))
      | (show VcL _ _ _ _ (⟨_, .call ⟨.value (.func F_tithingref24_Door_enter), _, _⟩, _, _, _, _⟩ :: _) _ _ _; (refine VcL.callF ok_tithingref24_Door_enter rfl rfl rfl rfl (Rets.mono (enterR_any H hD name hn answer) ?_); rintro _ w ⟨rfl, H⟩; rw [hp]; obtain ⟨A1, c1, A2, c2, HB⟩ := rd_open H; clear H; have H := HB; clear HB; obtain ⟨lb, lo, rfl, _⟩ := (Holds.own_toR (Holds.f1 H)).at (by omega))))
        | (show VcD _ _ _ _ _ _ _ _ _; first
      | refine VcD.pures tabOk rfl ?_
      | refine VcD.done ?_
      | (show VcD _ _ _ _ _ (.pure _ _) _ _ _; refine VcD.indexAddr tabOk rfl rfl rfl rfl rfl rfl rfl (by omega) (by omega) ?_)
      | (show VcD _ _ _ _ _ (.take _ _) _ _ _; refine VcD.load1 tabOk rfl rfl rfl rfl rfl rfl (by intro w_ hw_; first | exact Holds.cell hw_ rfl | exact Holds.ownCell (Holds.f1 hw_) (fun _ => rfl) (by exact atD_get (by assumption)) rfl | exact Holds.ownCell0 (Holds.f1 hw_) (fun _ => rfl) (by exact atD_get (by assumption)) rfl) (by exact rfl) ?_)
      | (show VcD _ _ _ _ _ (.only _ _) _ _ _; (refine VcD.callF (f := F_tithingref24_cipher) rfl ok_tithingref24_cipher rfl rfl rfl rfl (Rets.mono (cipherRI_any H hto htn.2) ?_); rintro _ w ⟨rfl, H⟩; refine ⟨(by exact H), ?_⟩)))
        | (show Vc _ _ _ _ _ _; first
      | refine Vc.seq ?_
      | refine Vc.region ?_
      | refine Vc.condF rfl ?_
      | refine Vc.ret ?_
      | refine Vc.skip ?_
      | refine Vc.drawnH (id := 6) H (.pure 0 (.pure 1 (.pure 2 (.pure 4 (.pure 8 (.pure 9 (.pure 10 (.pure 11 (.pure 13 (.take 3 (.pure 5 (.pure 6 (.take 7 (.take 12 (.pure 14 (.pure 15 (.take 16 (.pure 17 (.only 18 (.pure 19 (.pure 20 (.pure 21 .done)))))))))))))))))))))) mixed (by kernel_rfl) (fun w H => ?_))
        | (show KSeq _ _ _ _ _ _ _; refine KSeq.normal ?_)
        | (show KEnd _ _ _ _ _ _; refine KEnd.mk (Or.inr rfl) ⟨_, (ResL.tmp rfl (ResL.tmp rfl (ResL.tmp rfl ResL.nil))), ?_⟩))
      exact ⟨rfl, rd_close rfl H⟩
  · unfold bothV bothS
    rw [if_neg ho, if_neg ho]
    have ho : is32 other = false := by simpa using ho
    refine ok_tithingref24_Door_EnterBoth.rets rfl ?_
    repeat' (first
      | rw [ho]
      | (show VcL _ _ _ _ _ _ _ _; first
      | refine VcL.pures tabOk rfl ?_
      | refine VcL.nil ?_
      | (show VcL _ _ _ _ (⟨_, .call ⟨.value (.func F_tithingref24_isNumber), _, _⟩, _, _, _, _⟩ :: _) _ _ _; (refine VcL.callF ok_tithingref24_isNumber rfl rfl rfl rfl (Rets.mono (isNumber_any H _) ?_); rintro _ w ⟨rfl, H⟩)))
      | (show Vc _ _ _ _ _ _; first
      | refine Vc.seq ?_
      | refine Vc.region ?_
      | refine Vc.condT rfl ?_
      | refine Vc.ret ?_)
      | (show KSeq _ _ _ _ _ _ _; first
      | refine KSeq.normal ?_
      | refine KSeq.ret ?_)
      | (show KEnd _ _ _ _ _ _; refine KEnd.mk (Or.inr rfl) ⟨_, (ResL.tmp rfl (ResL.tmp rfl (ResL.tmp rfl ResL.nil))), ?_⟩))
    exact ⟨rfl, H⟩
theorem ChangeR_any {d : Nat} {D : Dr} (H : Holds I w (rdA d D :: L)) (hD : DrOk I D) (name : ByteArray) (hn : name.size ≤ 140737488355328) (answer sec : Int) :
    Rets Try.prog F_tithingref24_Door_Change #[ptr d, .string name, .int .i64 answer, .int .i64 sec] w fun u w' => u = .int .i64 (changeS D name answer sec).2 ∧ Holds I w' (rdA d (changeS D name answer sec).1 :: L) := by
  have hok := (enterS_ok hD name answer).1
  have hlen := hok.len
  by_cases ho : is31 sec = true
  · unfold changeS
    rw [if_pos ho]
    rcases hr : (enterS D name answer).2 with _ | k
    · have hp := plcE_none hr
      refine ok_tithingref24_Door_Change.rets rfl ?_
      repeat' (first
        | rw [ho]
        | (show VcL _ _ _ _ _ _ _ _; first
      | refine VcL.pures tabOk rfl ?_
      | refine VcL.nil ?_
      | (show VcL _ _ _ _ (⟨_, .call ⟨.value (.func F_tithingref24_isSecret), _, _⟩, _, _, _, _⟩ :: _) _ _ _; (refine VcL.callF ok_tithingref24_isSecret rfl rfl rfl rfl (Rets.mono (isSecret_any H _) ?_); rintro _ w ⟨rfl, H⟩))
      | (show VcL _ _ _ _ (⟨_, .call ⟨.value (.func F_tithingref24_Door_enter), _, _⟩, _, _, _, _⟩ :: _) _ _ _; (refine VcL.callF ok_tithingref24_Door_enter rfl rfl rfl rfl (Rets.mono (enterR_any H hD name hn answer) ?_); rintro _ w ⟨rfl, H⟩; rw [hp])))
        | (show Vc _ _ _ _ _ _; first
      | refine Vc.seq ?_
      | refine Vc.region ?_
      | refine Vc.condT rfl ?_
      | refine Vc.condF rfl ?_
      | refine Vc.ret ?_
      | refine Vc.skip ?_)
        | (show KSeq _ _ _ _ _ _ _; first
      | refine KSeq.normal ?_
      | refine KSeq.ret ?_)
        | (show KEnd _ _ _ _ _ _; refine KEnd.mk (Or.inr rfl) ⟨_, (ResL.tmp rfl ResL.nil), ?_⟩))
      exact ⟨rfl, H⟩
    · have hp := plcE_some hr
      have hk := enterS_some hr
      have htk : ((k : Int)).toNat = k := Int.toNat_natCast k
      refine ok_tithingref24_Door_Change.rets rfl ?_
      repeat' (first
        | rw [ho]
        | rw [htk]
        | (refine VcL.storeOwn (f := 2) (vSec (atD (enterS D name answer).1.vis k) sec) tabOk usV1_len (Holds.f1 H) (atD_get hk) rfl rfl rfl rfl rfl rfl rfl rfl (fun w H => ?_); have H := Holds.f1 H)
        | (show VcL _ _ _ _ _ _ _ _; first
      | refine VcL.pures tabOk rfl ?_
      | refine VcL.nil ?_
      | (show VcL _ _ _ _ (⟨_, .load _ _, _, _, _, _⟩ :: _) _ _ _; refine VcL.load1 tabOk rfl rfl rfl rfl rfl (by exact Holds.cell H rfl) ?_)
      | (show VcL _ _ _ _ (⟨_, .indexAddr _ _ _, _, _, _, _⟩ :: _) _ _ _; refine VcL.indexAddr tabOk rfl rfl rfl rfl rfl rfl (by omega) (by omega) ?_)
      | (show VcL _ _ _ _ (⟨_, .call ⟨.value (.func F_tithingref24_isSecret), _, _⟩, _, _, _, _⟩ :: _) _ _ _; (refine VcL.callF ok_tithingref24_isSecret rfl rfl rfl rfl (Rets.mono (isSecret_any H _) ?_); rintro _ w ⟨rfl, H⟩))
      | (show VcL _ _ _ _ (⟨_, .call ⟨.value (.func F_tithingref24_Door_enter), _, _⟩, _, _, _, _⟩ :: _) _ _ _; (refine VcL.callF ok_tithingref24_Door_enter rfl rfl rfl rfl (Rets.mono (enterR_any H hD name hn answer) ?_); rintro _ w ⟨rfl, H⟩; rw [hp]; obtain ⟨A1, c1, A2, c2, HB⟩ := rd_open H; clear H; have H := HB; clear HB; obtain ⟨lb, lo, rfl, _⟩ := (Holds.own_toR (Holds.f1 H)).at (by omega))))
        | (show Vc _ _ _ _ _ _; first
      | refine Vc.seq ?_
      | refine Vc.region ?_
      | refine Vc.condF rfl ?_
      | refine Vc.ret ?_
      | refine Vc.skip ?_)
        | (show KSeq _ _ _ _ _ _ _; refine KSeq.normal ?_)
        | (show KEnd _ _ _ _ _ _; refine KEnd.mk (Or.inr rfl) ⟨_, (ResL.tmp rfl ResL.nil), ?_⟩))
      have e2 : ((enterS D name answer).1.vis.set k (vSec (atD (enterS D name answer).1.vis k) sec)).flatMap gdC = (enterS D name answer).1.vis.flatMap gdC := flat_same hk rfl
      exact ⟨rfl, rd_shut List.length_set rfl e2 H⟩
  · unfold changeS
    rw [if_neg ho]
    have ho : is31 sec = false := by simpa using ho
    refine ok_tithingref24_Door_Change.rets rfl ?_
    repeat' (first
      | rw [ho]
      | (show VcL _ _ _ _ _ _ _ _; first
      | refine VcL.pures tabOk rfl ?_
      | refine VcL.nil ?_
      | (show VcL _ _ _ _ (⟨_, .call ⟨.value (.func F_tithingref24_isSecret), _, _⟩, _, _, _, _⟩ :: _) _ _ _; (refine VcL.callF ok_tithingref24_isSecret rfl rfl rfl rfl (Rets.mono (isSecret_any H _) ?_); rintro _ w ⟨rfl, H⟩)))
      | (show Vc _ _ _ _ _ _; first
      | refine Vc.seq ?_
      | refine Vc.region ?_
      | refine Vc.condT rfl ?_
      | refine Vc.ret ?_)
      | (show KSeq _ _ _ _ _ _ _; first
      | refine KSeq.normal ?_
      | refine KSeq.ret ?_)
      | (show KEnd _ _ _ _ _ _; refine KEnd.mk (Or.inr rfl) ⟨_, (ResL.tmp rfl ResL.nil), ?_⟩))
    exact ⟨rfl, H⟩
theorem TriesR_any {d : Nat} {D : Dr} (H : Holds I w (rdA d D :: L)) (hD : DrOk I D) (name : ByteArray) (hn : name.size ≤ 140737488355328) :
    Rets Try.prog F_tithingref24_Door_Tries #[ptr d, .string name] w fun u w' => u = .int .i64 (triesS D name) ∧ Holds I w' (rdA d D :: L) := by
  obtain ⟨A1, c1, A2, c2, HB⟩ := rd_open H
  clear H
  have H := HB
  clear HB
  unfold triesS
  rcases place_cases D name with hpl | ⟨k, hk, hpl⟩
  · rw [hpl]
    refine ok_tithingref24_Door_Tries.rets rfl ?_
    repeat' (first
      | (show VcL _ _ _ _ _ _ _ _; first
      | refine VcL.pures tabOk rfl ?_
      | refine VcL.nil ?_
      | (show VcL _ _ _ _ (⟨_, .call ⟨.value (.func F_tithingref24_Door_place), _, _⟩, _, _, _, _⟩ :: _) _ _ _; (refine VcL.callF ok_tithingref24_Door_place rfl rfl rfl rfl (Rets.mono (placeR_any H hD name hn) ?_); rintro _ w ⟨rfl, H⟩; rw [hpl])))
      | (show Vc _ _ _ _ _ _; first
      | refine Vc.seq ?_
      | refine Vc.region ?_
      | refine Vc.condF rfl ?_
      | refine Vc.ret ?_
      | refine Vc.skip ?_)
      | (show KSeq _ _ _ _ _ _ _; refine KSeq.normal ?_)
      | (show KEnd _ _ _ _ _ _; refine KEnd.mk (Or.inr rfl) ⟨_, (ResL.tmp rfl ResL.nil), ?_⟩))
    exact ⟨rfl, rd_close rfl H⟩
  · rw [hpl, if_neg (by omega)]
    obtain ⟨gb, go, rfl, _⟩ := (Holds.own_toR H.f2).at (by omega)
    have htk : ((k : Int)).toNat = k := Int.toNat_natCast k
    rw [htk]
    refine ok_tithingref24_Door_Tries.rets rfl ?_
    repeat' (first
      | rw [htk]
      | (show VcL _ _ _ _ _ _ _ _; first
      | refine VcL.pures tabOk rfl ?_
      | refine VcL.nil ?_
      | (show VcL _ _ _ _ (⟨_, .load _ _, _, _, _, _⟩ :: _) _ _ _; refine VcL.load1 tabOk rfl rfl rfl rfl rfl (by first | exact Holds.cell H rfl | exact Holds.ownCell (Holds.f2 H) (fun _ => rfl) (by exact atD_get (by assumption)) rfl) ?_)
      | (show VcL _ _ _ _ (⟨_, .indexAddr _ _ _, _, _, _, _⟩ :: _) _ _ _; refine VcL.indexAddr tabOk rfl rfl rfl rfl rfl rfl (by omega) (by omega) ?_)
      | (show VcL _ _ _ _ (⟨_, .call ⟨.value (.func F_tithingref24_Door_place), _, _⟩, _, _, _, _⟩ :: _) _ _ _; (refine VcL.callF ok_tithingref24_Door_place rfl rfl rfl rfl (Rets.mono (placeR_any H hD name hn) ?_); rintro _ w ⟨rfl, H⟩; rw [hpl])))
      | (show Vc _ _ _ _ _ _; first
      | refine Vc.seq ?_
      | refine Vc.region ?_
      | refine Vc.condT rfl ?_
      | refine Vc.ret ?_)
      | (show KSeq _ _ _ _ _ _ _; first
      | refine KSeq.normal ?_
      | refine KSeq.ret ?_)
      | (show KEnd _ _ _ _ _ _; refine KEnd.mk (Or.inr rfl) ⟨_, (ResL.tmp rfl ResL.nil), ?_⟩))
    exact ⟨rfl, rd_close rfl H⟩
end Go.Proofs.Ytccbfajjboccoaa.V
