/- A door of the program. -/
import Derived.Test.YtccbfajjboccoaaVA
import Derived.Test.YtccbfajjboccoaaVC
namespace Go.Proofs.Ytccbfajjboccoaa.V
open Go Go.Proofs.YtccbfajjboccoaaV
set_option linter.unusedVariables false
set_option linter.unusedSimpArgs false
set_option maxHeartbeats 1000000
attribute [local irreducible] IntKind.wrap
variable {I : Imm} {w : World} {L : List Asn}
/-- A visitor: the user, whether a number counts, it, how many tries have failed. -/
structure Vs where mk ::
  user : Us
  given : Bool
  num : Nat
  tries : Nat
instance : Inhabited Vs := ⟨⟨default, false, 0, 0⟩⟩
def vsC (v : Vs) : List Value := [.int .i64 v.user.id, .string v.user.name, .int .i64 v.user.sec, SlD.v v.user.grp, .bool v.given, .int .i64 (v.num : Int), .int .i64 (v.tries : Int)]
theorem vsC_len (v : Vs) : (vsC v).length = 7 := rfl
theorem vsC_one (v : Vs) : ∀ x ∈ vsC v, oneC x = true := by
  intro x hx
  simp only [vsC, List.mem_cons, List.not_mem_nil, or_false] at hx
  rcases hx with rfl | rfl | rfl | rfl | rfl | rfl | rfl <;> rfl
structure Dr where mk ::
  seed : Nat
  asked : Nat
  vis : List Vs
structure VsOk (I : Imm) (v : Vs) : Prop where
  user : UsI I v.user
  sec : ∃ s : Nat, v.user.sec = s ∧ s < 2 ^ 31
  num : v.num < 2 ^ 32
  tries : v.tries ≤ 5
  few : v.user.grp.2.2.length ≤ 10
structure DrOk (I : Imm) (D : Dr) : Prop where
  seed : D.seed < 2 ^ 32
  len : D.vis.length ≤ 20
  vis : ∀ v ∈ D.vis, VsOk I v
abbrev drV (D : Dr) (vv : Value) : List Value := [.bool true, .int .i64 (D.seed : Int), .int .i64 (D.asked : Int), vv]
abbrev viB (b : Nat) (pre : List Value) (vis : List Vs) (post : List Value) : Asn := blk b 71 (pre ++ vis.flatMap vsC ++ post)
def doorA (d : Nat) (D : Dr) : Asn := ex fun vv => star (blk d 61 (drV D vv)) (own vv 71 7 D.vis.length (D.vis.flatMap vsC))
theorem door_own {d : Nat} {D : Dr} : Holds I w (doorA d D :: L) ↔ ∃ vv, Holds I w (blk d 61 (drV D vv) :: own vv 71 7 D.vis.length (D.vis.flatMap vsC) :: L) := by
  unfold doorA
  rw [Holds.ex]
  exact exists_congr fun vv => Holds.star
theorem door_open {d : Nat} {D : Dr} (H : Holds I w (doorA d D :: L)) : (D.vis = [] ∧ Holds I w (blk d 61 (drV D (.slice none 0 0)) :: L)) ∨
    ∃ b pre post cap, D.vis.length ≤ cap ∧ (cap - D.vis.length) * 7 ≤ post.length ∧ Holds I w (blk d 61 (drV D (.slice (some ⟨b, pre.length, none⟩) D.vis.length cap)) :: viB b pre D.vis post :: L) := by
  obtain ⟨vv, H⟩ := door_own.1 H
  rcases H.swap.own_cases with ⟨rfl, h2, h3, H'⟩ | ⟨b, o, cap, pre, post, rfl, h1, h2, rfl, h4, H'⟩
  · left
    refine ⟨List.eq_nil_of_length_eq_zero h2, ?_⟩
    exact H'
  · exact .inr ⟨b, pre, post, cap, h1, h4, H'.swap⟩
theorem door_close {d b cap n : Nat} {pre post : List Value} {D : Dr} (hn : D.vis.length = n) (h1 : n ≤ cap) (h2 : (cap - n) * 7 ≤ post.length) (H : Holds I w (blk d 61 (drV D (.slice (some ⟨b, pre.length, none⟩) n cap)) :: viB b pre D.vis post :: L)) : Holds I w (doorA d D :: L) := by
  subst hn
  exact door_own.2 ⟨_, (H.swap.own_mk h1 (flat_len vsC_len _) h2).swap⟩
theorem door_nil {d : Nat} {D : Dr} (h : D.vis = []) (H : Holds I w (blk d 61 (drV D (.slice none 0 0)) :: L)) : Holds I w (doorA d D :: L) :=
  door_own.2 ⟨_, by rw [h]; exact (H.own_nil).swap⟩
abbrev ptr (d : Nat) : Value := .pointer (some ⟨d, 0, none⟩)
/-- The cipher, of integers. -/
theorem cipherPI_any (H : Holds I w L) {x k : Int} (hx : 0 ≤ x ∧ x < 4294967296) (hk : 0 ≤ k ∧ k < 4294967296) : Rets Try.prog F_secret_cipher #[.int .i64 x, .int .i64 k] w fun u w' => u = .int .i64 (cphV x k) ∧ Holds I w' L := by
  obtain ⟨n, rfl⟩ := Int.eq_ofNat_of_zero_le hx.1
  obtain ⟨m, rfl⟩ := Int.eq_ofNat_of_zero_le hk.1
  exact cipherP_any H (by omega) (by omega)
theorem cphV_nat (n : Nat) (k : Int) : cphV (n : Int) k = (cphN n k.toNat : Nat) := rfl
abbrev vGive (v : Vs) (n : Nat) : Vs := ⟨v.user, true, n, v.tries⟩
abbrev vTook (v : Vs) : Vs := ⟨v.user, false, v.num, v.tries⟩
abbrev vFail (v : Vs) : Vs := ⟨v.user, false, v.num, v.tries + 1⟩
abbrev vDone (v : Vs) : Vs := ⟨v.user, false, v.num, 0⟩
def hasN (name : ByteArray) (v : Vs) : Bool := eqT v.user.name name
def placeD (D : Dr) (name : ByteArray) : Int := idxF (hasN name) D.vis
def askS (D : Dr) (name : ByteArray) : Dr × Int × Int :=
  let k := (placeD D name).toNat
  if placeD D name < 0 ∨ 5 ≤ (atD D.vis k).tries then (D, 0, 240)
  else (⟨D.seed, D.asked + 1, D.vis.set k (vGive (atD D.vis k) (cphN (D.asked % 2 ^ 32) D.seed))⟩, (cphN (D.asked % 2 ^ 32) D.seed : Nat), 0)
def enterS (D : Dr) (name : ByteArray) (answer : Int) : Dr × Option Nat :=
  let k := (placeD D name).toNat
  let v := atD D.vis k
  if placeD D name < 0 ∨ 5 ≤ v.tries ∨ v.given = false then (D, none)
  else if answer ≠ cphV v.num v.user.sec then ({ D with vis := D.vis.set k (vFail v) }, none)
  else ({ D with vis := D.vis.set k (vDone v) }, some k)
/-- A row that lies behind another part. -/
theorem Holds.toRow {α : Type} {enc : α → List Value} {sz : Nat} (he : ∀ x, (enc x).length = sz) {A : Asn} {b e cap : Nat} {pre post : List Value} {l : List α} (hc : l.length ≤ cap) : SlR I (A :: blk b e (pre ++ l.flatMap enc ++ post) :: L) (.slice (some ⟨b, pre.length, none⟩) l.length cap) sz l.length (l.flatMap enc) :=
  ⟨_, cap, rfl, flat_len he l, hc, (fun e => by cases e), fun a ha _ => ⟨b, pre.length, by injection ha with ha; exact ha.symm, ⟨fun w H => H.drop.rd rfl⟩⟩⟩
theorem noneD_any (H : Holds I w L) {d : Nat} {made : Bool} {a c e : Value} (hd : RdW I L d 0 [.bool made, a, c, e]) : Rets Try.prog F_secret_Door_none #[ptr d] w fun u w' => u = .bool (!made) ∧ Holds I w' L := by
  refine ok_secret_Door_none.rets rfl ?_
  repeat' (first
    | (show VcL _ _ _ _ _ _ _ _; first
      | refine VcL.pures tabOk rfl ?_
      | refine VcL.nil ?_
      | (show VcL _ _ _ _ (⟨_, .load _ _, _, _, _, _⟩ :: _) _ _ _; refine VcL.load1 tabOk rfl rfl rfl rfl rfl (by exact RdW.get0 (by assumption) rfl H) ?_)
      | (refine VcL.guard rfl rfl rfl rfl (fun h => ?_) (fun h => ?_) <;> first | (cases h; done) | skip))
    | (show Vc _ _ _ _ _ _; first
      | refine Vc.seq ?_
      | refine Vc.region ?_
      | refine Vc.ret ?_)
    | (show KSeq _ _ _ _ _ _ _; refine KSeq.normal ?_)
    | (show KEnd _ _ _ _ _ _; refine KEnd.mk (Or.inr rfl) ⟨_, (ResL.tmp rfl ResL.nil), ?_⟩))
  exact ⟨rfl, H⟩
theorem noneNil_any (H : Holds I w L) : Rets Try.prog F_secret_Door_none #[.pointer none] w fun u w' => u = .bool true ∧ Holds I w' L := by
  refine ok_secret_Door_none.rets rfl ?_
  repeat' (first
    | (show VcL _ _ _ _ _ _ _ _; first
      | refine VcL.pures tabOk rfl ?_
      | refine VcL.nil ?_
      | (refine VcL.guard rfl rfl rfl rfl (fun h => ?_) (fun h => ?_) <;> first | (cases h; done) | skip))
    | (show Vc _ _ _ _ _ _; first
      | refine Vc.seq ?_
      | refine Vc.region ?_
      | refine Vc.ret ?_)
    | (show KSeq _ _ _ _ _ _ _; refine KSeq.normal ?_)
    | (show KEnd _ _ _ _ _ _; refine KEnd.mk (Or.inr rfl) ⟨_, (ResL.tmp rfl ResL.nil), ?_⟩))
  exact ⟨rfl, H⟩
theorem doorNone_any {d : Nat} {D : Dr} (H : Holds I w (doorA d D :: L)) : Rets Try.prog F_secret_Door_none #[ptr d] w fun u w' => u = .bool false ∧ Holds I w' (doorA d D :: L) := by
  obtain ⟨vv, HB⟩ := door_own.1 H
  exact (noneD_any HB Holds.toW).mono fun u w' ⟨h1, h2⟩ => ⟨h1, door_own.2 ⟨vv, h2⟩⟩
theorem find_any (H : Holds I w L) {d b o cap : Nat} {D : Dr} {vis : List Vs} (hd : RdW I L d 0 (drV D (.slice (some ⟨b, o, none⟩) vis.length cap))) (hv : SlR I L (.slice (some ⟨b, o, none⟩) vis.length cap) 7 vis.length (vis.flatMap vsC)) (name : ByteArray) (hn : name.size ≤ 140737488355328) (hvis : ∀ v ∈ vis, v.user.name.size ≤ 140737488355328) (hl : vis.length ≤ 20) :
    Rets Try.prog F_secret_Door_find #[ptr d, .string name] w fun u w' => Holds I w' L ∧ ((idxF (hasN name) vis = -1 ∧ u = .pointer none) ∨ ∃ k, k < vis.length ∧ idxF (hasN name) vis = (k : Int) ∧ u = .pointer (some ⟨b, o + k * 7, none⟩)) := by
  refine ok_secret_Door_find.rets rfl ?_
  repeat' (first
    | (show VcL _ _ _ _ _ _ _ _; first
      | refine VcL.pures tabOk rfl ?_
      | refine VcL.nil ?_
      | (show VcL _ _ _ _ (⟨_, .load _ _, _, _, _, _⟩ :: _) _ _ _; refine VcL.load1 tabOk rfl rfl rfl rfl rfl (by exact RdW.get (by assumption) rfl H) ?_))
    | (show Vc _ _ _ _ _ _; first
      | refine Vc.seq ?_
      | refine Vc.region ?_
      | refine Vc.block ?_)
    | (show KSeq _ _ _ _ _ _ _; refine KSeq.normal ?_))
  refine Vc.loopS [(0, _), (1, _), (10, _)] (fun k : Nat => [(11, .int .i64 k)]) (fun k w => Holds I w L ∧ k ≤ vis.length ∧ ∀ j, j < k → hasN name (atD vis j) = false) (fun k _ => vis.length - k) 0 ⟨rfl, trivial⟩ ⟨rfl, rfl, rfl, trivial⟩ ⟨H, Nat.zero_le _, fun j hj => absurd hj (by omega)⟩ ?_
  rintro k w ⟨H, hk, hall⟩
  by_cases hlt : k < vis.length
  · obtain ⟨b2, o2, e, hr⟩ := hv.at (by omega)
    injection e with e
    injection e with e1 e2
    subst e1; subst e2
    have hx := hr.elem vsC_len (atD_get hlt)
    have hnm := hvis _ (atD_mem hlt)
    repeat' (first
      | (show VcL _ _ _ _ _ _ _ _; first
      | refine VcL.pures tabOk rfl ?_
      | refine VcL.nil ?_
      | (show VcL _ _ _ _ (⟨_, .load _ _, _, _, _, _⟩ :: _) _ _ _; refine VcL.load1 tabOk rfl rfl rfl rfl rfl (by exact RdW.get (by assumption) rfl H) ?_)
      | (show VcL _ _ _ _ (⟨_, .indexAddr _ _ _, _, _, _, _⟩ :: _) _ _ _; refine VcL.indexAddr tabOk rfl rfl rfl rfl rfl rfl (by omega) (by omega) ?_)
      | (show VcL _ _ _ _ (⟨_, .call ⟨.value (.func F_octet_Equal), _, _⟩, _, _, _, _⟩ :: _) _ _ _; (refine VcL.callF ok_octet_Equal rfl rfl rfl rfl (Rets.mono (Equal_any H _ _ hnm hn) ?_); rintro _ w ⟨rfl, H⟩)))
      | (show Vc _ _ _ _ _ _; first
      | refine Vc.seq ?_
      | refine Vc.region ?_
      | refine Vc.ret ?_
      | refine Vc.skip ?_
      | refine Vc.block ?_
      | (refine Vc.cond rfl (fun h => ?_) (fun h => ?_) <;> first | (exfalso; simp only [decide_eq_true_eq, decide_eq_false_iff_not] at h; omega) | (with_reducible have hp := of_decide_eq_true h) | skip))
      | (show KSeq _ _ _ _ _ _ _; first
      | refine KSeq.normal ?_
      | refine KSeq.ret ?_)
      | (show KBlock _ _ _ _ _; first
      | refine KBlock.normal ?_
      | refine KBlock.ret ?_)
      | refine KLoop.ret ?_
      | (show KEnd _ _ _ _ _ _; refine KEnd.mk (Or.inr rfl) ⟨_, (ResL.tmp rfl ResL.nil), ?_⟩))
    · exact ⟨H, .inr ⟨k, hlt, idxF_yes hlt h hall, rfl⟩⟩
    · refine KLoop.again (k + 1) ⟨got_succ rfl (by omega), trivial⟩ ⟨rfl, rfl, rfl, trivial⟩ ⟨H, hlt, fun j hj => ?_⟩ (by omega)
      rcases Nat.lt_or_ge j k with h1 | h1
      · exact hall j h1
      · obtain rfl : j = k := by omega
        exact h
  ·
    repeat' (first
      | (show VcL _ _ _ _ _ _ _ _; first
      | refine VcL.pures tabOk rfl ?_
      | refine VcL.nil ?_)
      | (show Vc _ _ _ _ _ _; first
      | refine Vc.seq ?_
      | refine Vc.region ?_
      | refine Vc.ret ?_
      | refine Vc.exit ?_
      | (refine Vc.cond rfl (fun h => ?_) (fun h => ?_) <;> first | (exfalso; simp only [decide_eq_true_eq, decide_eq_false_iff_not] at h; omega) | (with_reducible have hp := of_decide_eq_false h)))
      | (show KSeq _ _ _ _ _ _ _; first
      | refine KSeq.normal ?_
      | refine KSeq.exit ?_)
      | (show KBlock _ _ _ _ _; refine KBlock.here ?_)
      | refine KLoop.exit ?_
      | (show KEnd _ _ _ _ _ _; refine KEnd.mk (Or.inr rfl) ⟨_, (ResL.tmp rfl ResL.nil), ?_⟩))
    obtain rfl : k = vis.length := by omega
    exact ⟨H, .inl ⟨idxF_no hall, rfl⟩⟩
theorem findNil_any (H : Holds I w L) {d : Nat} {D : Dr} (hd : RdW I L d 0 (drV D (.slice none 0 0))) (name : ByteArray) :
    Rets Try.prog F_secret_Door_find #[ptr d, .string name] w fun u w' => u = .pointer none ∧ Holds I w' L := by
  refine ok_secret_Door_find.rets rfl ?_
  repeat' (first
    | (show VcL _ _ _ _ _ _ _ _; first
      | refine VcL.pures tabOk rfl ?_
      | refine VcL.nil ?_
      | (show VcL _ _ _ _ (⟨_, .load _ _, _, _, _, _⟩ :: _) _ _ _; refine VcL.load1 tabOk rfl rfl rfl rfl rfl (by exact RdW.get (by assumption) rfl H) ?_))
    | (show Vc _ _ _ _ _ _; first
      | refine Vc.seq ?_
      | refine Vc.region ?_
      | refine Vc.block ?_)
    | (show KSeq _ _ _ _ _ _ _; refine KSeq.normal ?_))
  refine Vc.loopS [(0, _), (1, _), (10, _)] (fun k : Nat => [(11, .int .i64 k)]) (fun k w => Holds I w L ∧ k = 0) (fun k _ => 0) 0 ⟨rfl, trivial⟩ ⟨rfl, rfl, rfl, trivial⟩ ⟨H, rfl⟩ ?_
  rintro k w ⟨H, rfl⟩
  repeat' (first
    | (show VcL _ _ _ _ _ _ _ _; first
      | refine VcL.pures tabOk rfl ?_
      | refine VcL.nil ?_)
    | (show Vc _ _ _ _ _ _; first
      | refine Vc.seq ?_
      | refine Vc.region ?_
      | refine Vc.condF rfl ?_
      | refine Vc.ret ?_
      | refine Vc.exit ?_)
    | (show KSeq _ _ _ _ _ _ _; first
      | refine KSeq.normal ?_
      | refine KSeq.exit ?_)
    | (show KBlock _ _ _ _ _; refine KBlock.here ?_)
    | refine KLoop.exit ?_
    | (show KEnd _ _ _ _ _ _; refine KEnd.mk (Or.inr rfl) ⟨_, (ResL.tmp rfl ResL.nil), ?_⟩))
  exact ⟨rfl, H⟩
theorem place_none {D : Dr} {name : ByteArray} (h : D.vis = []) : placeD D name = -1 := by unfold placeD; rw [h]; rfl
theorem AskP_any {d : Nat} {D : Dr} (H : Holds I w (doorA d D :: L)) (hD : DrOk I D) (hasked : D.asked < 2 ^ 40) (name : ByteArray) (hn : name.size ≤ 140737488355328) :
    Rets Try.prog F_secret_Door_Ask #[ptr d, .string name] w fun u w' => u = .tuple #[.int .i64 (askS D name).2.1, .int .i64 (askS D name).2.2] ∧ Holds I w' (doorA d (askS D name).1 :: L) := by
  rcases door_open H with ⟨hnil, HB⟩ | ⟨b, pre, post, cap, h1, h2, HB⟩
  · clear H
    have H := HB
    have hp := place_none (name := name) hnil
    have e1 : askS D name = (D, 0, 240) := by unfold askS; rw [hp]; rfl
    refine ok_secret_Door_Ask.rets rfl ?_
    repeat' (first
      | (show VcL _ _ _ _ _ _ _ _; first
      | refine VcL.pures tabOk rfl ?_
      | refine VcL.nil ?_
      | (show VcL _ _ _ _ (⟨_, .call ⟨.value (.func F_secret_Door_none), _, _⟩, _, _, _, _⟩ :: _) _ _ _; (refine VcL.callF ok_secret_Door_none rfl rfl rfl rfl (Rets.mono (noneD_any H Holds.toW) ?_); rintro _ w ⟨rfl, H⟩))
      | (show VcL _ _ _ _ (⟨_, .call ⟨.value (.func F_secret_Door_find), _, _⟩, _, _, _, _⟩ :: _) _ _ _; (refine VcL.callF ok_secret_Door_find rfl rfl rfl rfl (Rets.mono (findNil_any H Holds.toW name) ?_); rintro _ w ⟨rfl, H⟩))
      | (refine VcL.guard rfl rfl rfl rfl (fun h => ?_) (fun h => ?_) <;> first | (cases h; done) | skip))
      | (show Vc _ _ _ _ _ _; first
      | refine Vc.seq ?_
      | refine Vc.region ?_
      | refine Vc.condT rfl ?_
      | refine Vc.condF rfl ?_
      | refine Vc.ret ?_
      | refine Vc.skip ?_)
      | (show KSeq _ _ _ _ _ _ _; first
      | refine KSeq.normal ?_
      | refine KSeq.ret ?_)
      | (show KEnd _ _ _ _ _ _; refine KEnd.mk (Or.inr rfl) ⟨_, (ResL.tmp rfl (ResL.tmp rfl ResL.nil)), ?_⟩))
    rw [e1]
    exact ⟨rfl, door_nil hnil H⟩
  · clear H
    have H := HB
    have hand : IntKind.i64.wrap ((BitVec.ofInt IntKind.i64.bits (D.asked : Int) &&& BitVec.ofInt IntKind.i64.bits 4294967295).toNat : Int) = ((D.asked % 2 ^ 32 : Nat) : Int) := by
      rw [BitVec.toNat_and]
      show IntKind.i64.wrap (((BitVec.ofInt 64 (D.asked : Int)).toNat &&& (BitVec.ofInt 64 ((4294967295 : Nat) : Int)).toNat : Nat) : Int) = _
      have := hasked
      rw [bv_nat (Nat.lt_trans this (by decide)), bv_nat (by decide), Nat.and_two_pow_sub_one_eq_mod _ 32, wi64 (Nat.lt_trans (Nat.mod_lt _ (by decide)) (by decide))]
    have hsucc : IntKind.i64.wrap ((D.asked : Int) + 1) = ((D.asked + 1 : Nat) : Int) := wrap_succ _ (Nat.lt_trans hasked (by decide))
    refine ok_secret_Door_Ask.rets rfl ?_
    repeat' (first
      | rw [hand]
      | rw [hsucc]
      | (refine VcD.eff rfl rfl rfl rfl (OpE.storeRow (vGive (atD D.vis k) (atD D.vis k).num) tabOk vsC_len (Holds.swap H) (atD_get hk) rfl rfl (by exact rfl) (by exact rfl) (by exact rfl) (by exact rfl) (by exact rfl)) ?_; rintro _ w ⟨_, H⟩; have H := Holds.swap H; refine ⟨Holds.drop (Holds.swap H), ?_⟩)
      | (refine VcD.eff rfl rfl rfl rfl (OpE.storeRow (vGive (atD D.vis k) (cphN (D.asked % 2 ^ 32) D.seed)) tabOk vsC_len (Holds.swap H) (set_at hk) rfl rfl (by exact rfl) (by exact rfl) (by exact rfl) (by exact rfl) (by exact rfl)) ?_; rintro _ w ⟨_, H⟩; have H := Holds.swap H; refine ⟨Holds.drop (Holds.swap H), ?_⟩; have hrow := set_at2 (l := D.vis) (x := (vGive (atD D.vis k) (atD D.vis k).num)) (y := (vGive (atD D.vis k) (cphN (D.asked % 2 ^ 32) D.seed))) hk)
      | (show VcL _ _ _ _ _ _ _ _; first
      | refine VcL.pures tabOk rfl ?_
      | refine VcL.nil ?_
      | (show VcL _ _ _ _ (⟨_, .load _ _, _, _, _, _⟩ :: _) _ _ _; refine VcL.load1 tabOk rfl rfl rfl rfl rfl (by first | exact Holds.cell H rfl | exact Holds.rowCell (Holds.f1 H) (fun _ => rfl) (by first | assumption | exact atD_get (by assumption)) rfl) ?_)
      | (show VcL _ _ _ _ (⟨_, .store _ _ _, _, _, _, _⟩ :: _) _ _ _; refine VcL.store tabOk rfl (by exact H) rfl rfl (by exact rfl) (by exact rfl) (by exact rfl) (by exact rfl) (fun w H => ?_))
      | (show VcL _ _ _ _ (⟨_, .call ⟨.value (.func F_secret_Door_none), _, _⟩, _, _, _, _⟩ :: _) _ _ _; (refine VcL.callF ok_secret_Door_none rfl rfl rfl rfl (Rets.mono (noneD_any H Holds.toW) ?_); rintro _ w ⟨rfl, H⟩))
      | (show VcL _ _ _ _ (⟨_, .call ⟨.value (.func F_secret_Door_find), _, _⟩, _, _, _, _⟩ :: _) _ _ _; (refine VcL.callF ok_secret_Door_find rfl rfl rfl rfl (Rets.mono (find_any H Holds.toW (Holds.toRow vsC_len h1) name hn (fun v hv => (hD.vis v hv).user.name) hD.len) ?_); rintro _ w ⟨H, ⟨hi, rfl⟩ | ⟨k, hk, hi, rfl⟩⟩))
      | (refine VcL.guard rfl rfl rfl rfl (fun h => ?_) (fun h => ?_) <;> first | (cases h; done) | skip))
      | (show VcD _ _ _ _ _ _ _ _ _; first
      | refine VcD.pures tabOk rfl ?_
      | refine VcD.done ?_
      | (show VcD _ _ _ _ _ (.take _ _) _ _ _; refine VcD.load1 tabOk rfl rfl rfl rfl rfl rfl (by intro w_ hw_; exact Holds.cell hw_ rfl) (by exact rfl) ?_)
      | (show VcD _ _ _ _ _ (.only _ _) _ _ _; (refine VcD.callF (f := F_secret_cipher) rfl ok_secret_cipher rfl rfl rfl rfl (Rets.mono (cipherP_any H (Nat.mod_lt _ (by decide)) hD.seed) ?_); rintro _ w ⟨rfl, H⟩; refine ⟨(by exact Holds.drop (Holds.swap H)), ?_⟩)))
      | (show Vc _ _ _ _ _ _; first
      | refine Vc.seq ?_
      | refine Vc.region ?_
      | refine Vc.condT rfl ?_
      | refine Vc.condF rfl ?_
      | refine Vc.ret ?_
      | refine Vc.skip ?_
      | (refine Vc.drawn (id := 6) (.pure 0 (.pure 1 (.pure 2 (.pure 3 (.pure 4 (.pure 7 (.pure 8 (.pure 9 (.take 5 (.pure 6 (.take 10 (.only 11 (.pure 12 (.pure 13 (.only 14 (.pure 15 (.pure 16 (.only 17 .done)))))))))))))))))) (.one (fun w => Holds I w (blk d 61 (drV D (.slice (some ⟨b, pre.length, none⟩) D.vis.length cap)) :: L))) mixed (by kernel_rfl) (by exact Holds.drop (Holds.swap (Holds.drew H _))) ?_; have H := H.drew (w.drawn + 1))
      | (refine Vc.cond rfl (fun h => ?_) (fun h => ?_) <;> first | (with_reducible have hp := of_decide_eq_true h) | (with_reducible have hp := of_decide_eq_false h)))
      | (show KSeq _ _ _ _ _ _ _; first
      | refine KSeq.normal ?_
      | refine KSeq.ret ?_)
      | (show KEnd _ _ _ _ _ _; refine KEnd.mk (Or.inr rfl) ⟨_, (ResL.tmp rfl (ResL.tmp rfl ResL.nil)), ?_⟩))
    · have e1 : askS D name = (D, 0, 240) := by unfold askS placeD; rw [hi]; rfl
      rw [e1]
      exact ⟨rfl, door_close rfl h1 h2 H⟩
    · have e1 : askS D name = (D, 0, 240) := by unfold askS placeD; rw [hi]; simp only [Int.toNat_natCast]; rw [if_pos (by omega)]
      rw [e1]
      exact ⟨rfl, door_close rfl h1 h2 H⟩
    · have e1 : askS D name = ((⟨D.seed, D.asked + 1, D.vis.set k (vGive (atD D.vis k) (cphN (D.asked % 2 ^ 32) D.seed))⟩ : Dr), ((cphN (D.asked % 2 ^ 32) D.seed : Nat) : Int), (0 : Int)) := by unfold askS placeD; rw [hi]; simp only [Int.toNat_natCast]; rw [if_neg (by omega)]
      rw [e1]
      rw [List.set_set] at H
      exact ⟨rfl, door_close List.length_set h1 h2 H⟩
/-- What an entry leaves: the visitor's place, or nil. -/
structure Entered (I : Imm) (w : World) (L : List Asn) (d : Nat) (r : Dr × Option Nat) (u : Value) : Prop where mk ::
  out : (r.2 = none ∧ u = .pointer none ∧ Holds I w (doorA d r.1 :: L)) ∨ ∃ k b pre post cap n, r.2 = some k ∧ r.1.vis.length = n ∧ k < n ∧ u = .pointer (some ⟨b, pre.length + k * 7, none⟩) ∧ n ≤ cap ∧ (cap - n) * 7 ≤ post.length ∧
    Holds I w (blk d 61 (drV r.1 (.slice (some ⟨b, pre.length, none⟩) n cap)) :: viB b pre r.1.vis post :: L)
theorem enterP_any {d : Nat} {D : Dr} (H : Holds I w (doorA d D :: L)) (hD : DrOk I D) (name : ByteArray) (hn : name.size ≤ 140737488355328) (answer : Int) :
    Rets Try.prog F_secret_Door_enter #[ptr d, .string name, .int .i64 answer] w fun u w' => Entered I w' L d (enterS D name answer) u := by
  rcases door_open H with ⟨hnil, HB⟩ | ⟨b, pre, post, cap, h1, h2, HB⟩
  · clear H
    have H := HB
    have hp := place_none (name := name) hnil
    have e1 : enterS D name answer = (D, none) := by unfold enterS; rw [hp]; rfl
    refine ok_secret_Door_enter.rets rfl ?_
    repeat' (first
      | (show VcL _ _ _ _ _ _ _ _; first
      | refine VcL.pures tabOk rfl ?_
      | refine VcL.nil ?_
      | (show VcL _ _ _ _ (⟨_, .call ⟨.value (.func F_secret_Door_find), _, _⟩, _, _, _, _⟩ :: _) _ _ _; (refine VcL.callF ok_secret_Door_find rfl rfl rfl rfl (Rets.mono (findNil_any H Holds.toW name) ?_); rintro _ w ⟨rfl, H⟩))
      | (refine VcL.guard rfl rfl rfl rfl (fun h => ?_) (fun h => ?_) <;> first | (cases h; done) | skip))
      | (show Vc _ _ _ _ _ _; first
      | refine Vc.seq ?_
      | refine Vc.region ?_
      | refine Vc.condT rfl ?_
      | refine Vc.ret ?_)
      | (show KSeq _ _ _ _ _ _ _; first
      | refine KSeq.normal ?_
      | refine KSeq.ret ?_)
      | (show KEnd _ _ _ _ _ _; refine KEnd.mk (Or.inr rfl) ⟨_, (ResL.tmp rfl ResL.nil), ?_⟩))
    rw [e1]
    exact ⟨.inl ⟨rfl, rfl, door_nil hnil H⟩⟩
  · clear H
    have H := HB
    have hsucc : ∀ k, k < D.vis.length → IntKind.i64.wrap (((atD D.vis k).tries : Int) + 1) = (((atD D.vis k).tries + 1 : Nat) : Int) := fun k hk => wrap_succ _ (Nat.lt_of_le_of_lt (hD.vis _ (atD_mem hk)).tries (by decide))
    have hsec : ∀ k, k < D.vis.length → 0 ≤ (atD D.vis k).user.sec ∧ (atD D.vis k).user.sec < 4294967296 := fun k hk => by
      obtain ⟨s, hs, hs2⟩ := (hD.vis _ (atD_mem hk)).sec
      omega
    have hnum : ∀ k, k < D.vis.length → 0 ≤ ((atD D.vis k).num : Int) ∧ ((atD D.vis k).num : Int) < 4294967296 := fun k hk => by
      have := (hD.vis _ (atD_mem hk)).num
      omega
    refine ok_secret_Door_enter.rets rfl ?_
    repeat' (first
      | rw [hsucc k hk]
      | (refine VcL.storeRow (f := 4) (vTook (atD D.vis k)) tabOk vsC_len (Holds.swap H) (atD_get hk) rfl rfl rfl rfl rfl rfl rfl rfl (fun w H => ?_); have H := Holds.swap H; have hrow := set_at (l := D.vis) (y := (vTook (atD D.vis k))) hk)
      | (refine VcL.storeRow (f := 6) (vFail (atD D.vis k)) tabOk vsC_len (Holds.swap H) (set_at hk) rfl rfl rfl rfl rfl rfl rfl rfl (fun w H => ?_); have H := Holds.swap H)
      | (refine VcL.storeRow (f := 6) (vDone (atD D.vis k)) tabOk vsC_len (Holds.swap H) (set_at hk) rfl rfl rfl rfl rfl rfl rfl rfl (fun w H => ?_); have H := Holds.swap H)
      | (show VcL _ _ _ _ _ _ _ _; first
      | refine VcL.pures tabOk rfl ?_
      | refine VcL.nil ?_
      | (show VcL _ _ _ _ (⟨_, .load _ _, _, _, _, _⟩ :: _) _ _ _; refine VcL.load1 tabOk rfl rfl rfl rfl rfl (by exact Holds.rowCell (Holds.f1 H) (fun _ => rfl) (by first | assumption | exact atD_get (by assumption)) rfl) ?_)
      | (show VcL _ _ _ _ (⟨_, .call ⟨.value (.func F_secret_Door_find), _, _⟩, _, _, _, _⟩ :: _) _ _ _; (refine VcL.callF ok_secret_Door_find rfl rfl rfl rfl (Rets.mono (find_any H Holds.toW (Holds.toRow vsC_len h1) name hn (fun v hv => (hD.vis v hv).user.name) hD.len) ?_); rintro _ w ⟨H, ⟨hi, rfl⟩ | ⟨k, hk, hi, rfl⟩⟩))
      | (refine VcL.guard rfl rfl rfl rfl (fun h => ?_) (fun h => ?_) <;> first | (cases h; done) | (with_reducible have hp := of_decide_eq_true h) | (with_reducible have hp := of_decide_eq_false h) | skip))
      | (show VcD _ _ _ _ _ _ _ _ _; first
      | refine VcD.pures tabOk rfl ?_
      | refine VcD.done ?_
      | (show VcD _ _ _ _ _ (.take _ _) _ _ _; refine VcD.load1 tabOk rfl rfl rfl rfl rfl rfl (by intro w_ hw_; exact Holds.rowCell (Holds.f1 hw_) (fun _ => rfl) (by assumption) rfl) (by exact rfl) ?_)
      | (show VcD _ _ _ _ _ (.only _ _) _ _ _; (refine VcD.callF (f := F_secret_cipher) rfl ok_secret_cipher rfl rfl rfl rfl (Rets.mono (cipherPI_any H (hnum k hk) (hsec k hk)) ?_); rintro _ w ⟨rfl, H⟩; refine ⟨(by exact H), ?_⟩)))
      | (show Vc _ _ _ _ _ _; first
      | refine Vc.seq ?_
      | refine Vc.region ?_
      | refine Vc.condT rfl ?_
      | refine Vc.ret ?_
      | refine Vc.skip ?_
      | refine Vc.drawnH (id := 5) H (.pure 0 (.pure 1 (.pure 2 (.pure 3 (.pure 5 (.pure 6 (.pure 7 (.pure 8 (.take 4 (.take 9 (.only 10 (.pure 11 .done)))))))))))) mixed (by kernel_rfl) (fun w H => ?_)
      | (refine Vc.cond rfl (fun h => ?_) (fun h => ?_) <;> first | (with_reducible have hp := ndec_t h) | (with_reducible have hp := ndec_f h) | skip))
      | (show KSeq _ _ _ _ _ _ _; first
      | refine KSeq.normal ?_
      | refine KSeq.ret ?_)
      | (show KEnd _ _ _ _ _ _; refine KEnd.mk (Or.inr rfl) ⟨_, (ResL.tmp rfl ResL.nil), ?_⟩))
    · have e1 : enterS D name answer = (D, none) := by unfold enterS placeD; rw [hi]; rfl
      rw [e1]
      exact ⟨.inl ⟨rfl, rfl, door_close rfl h1 h2 H⟩⟩
    · have e1 : enterS D name answer = (D, none) := by unfold enterS placeD; rw [hi]; simp only [Int.toNat_natCast]; rw [if_pos (by omega)]
      rw [e1]
      exact ⟨.inl ⟨rfl, rfl, door_close rfl h1 h2 H⟩⟩
    · have e1 : enterS D name answer = (D, none) := by unfold enterS placeD; rw [hi]; simp only [Int.toNat_natCast]; rw [if_pos (by right; right; simpa using h)]
      rw [e1]
      exact ⟨.inl ⟨rfl, rfl, door_close rfl h1 h2 H⟩⟩
    · have e1 : enterS D name answer = ({ D with vis := D.vis.set k (vFail (atD D.vis k)) }, none) := by unfold enterS placeD; rw [hi]; simp only [Int.toNat_natCast]; rw [if_neg (by simp_all; omega), if_pos (by simpa using h)]
      rw [e1]
      rw [List.set_set] at H
      exact ⟨.inl ⟨rfl, rfl, door_close List.length_set h1 h2 H⟩⟩
    · have e1 : enterS D name answer = ({ D with vis := D.vis.set k (vDone (atD D.vis k)) }, some k) := by unfold enterS placeD; rw [hi]; simp only [Int.toNat_natCast]; rw [if_neg (by simp_all; omega), if_neg (by simpa using h)]
      rw [e1]
      rw [List.set_set] at H
      exact ⟨.inr ⟨k, b, pre, post, cap, D.vis.length, rfl, List.length_set, hk, rfl, h1, h2, H⟩⟩
def idAt (r : Dr × Option Nat) : Int := match r.2 with
  | some k => (atD r.1.vis k).user.id
  | none => 0
def errAt (r : Dr × Option Nat) : Int := match r.2 with
  | some _ => 0
  | none => 240
theorem set_mem {α : Type} {l : List α} {k : Nat} {x y : α} (h : y ∈ l.set k x) : y ∈ l ∨ y = x := List.mem_or_eq_of_mem_set h
theorem enterS_ok {D : Dr} (hD : DrOk I D) (name : ByteArray) (answer : Int) : DrOk I (enterS D name answer).1 ∧ (enterS D name answer).1.asked = D.asked := by
  unfold enterS placeD
  dsimp only
  split
  · exact ⟨hD, rfl⟩
  · rename_i h
    rcases idxF_cases (hasN name) D.vis with ⟨hi, _⟩ | ⟨k, hk, hi, _⟩
    · rw [hi] at h; exact absurd (Or.inl (by omega)) h
    · rw [hi] at h ⊢
      simp only [Int.toNat_natCast] at h ⊢
      have hv := hD.vis _ (atD_mem hk)
      split
      · refine ⟨⟨hD.seed, by simpa using hD.len, fun v hv' => ?_⟩, rfl⟩
        rcases set_mem hv' with h1 | rfl
        · exact hD.vis v h1
        · exact ⟨hv.user, hv.sec, hv.num, by show (atD D.vis k).tries + 1 ≤ 5; omega, hv.few⟩
      · refine ⟨⟨hD.seed, by simpa using hD.len, fun v hv' => ?_⟩, rfl⟩
        rcases set_mem hv' with h1 | rfl
        · exact hD.vis v h1
        · exact ⟨hv.user, hv.sec, hv.num, by show 0 ≤ 5; omega, hv.few⟩
theorem askS_ok {D : Dr} (hD : DrOk I D) (name : ByteArray) : DrOk I (askS D name).1 ∧ (askS D name).1.asked ≤ D.asked + 1 := by
  unfold askS placeD
  dsimp only
  split
  · exact ⟨hD, Nat.le_succ _⟩
  · rename_i h
    rcases idxF_cases (hasN name) D.vis with ⟨hi, _⟩ | ⟨k, hk, hi, _⟩
    · rw [hi] at h; exact absurd (Or.inl (by omega)) h
    · rw [hi] at h ⊢
      simp only [Int.toNat_natCast] at h ⊢
      have hv := hD.vis _ (atD_mem hk)
      refine ⟨⟨hD.seed, by simpa using hD.len, fun v hv' => ?_⟩, by simp⟩
      rcases set_mem hv' with h1 | rfl
      · exact hD.vis v h1
      · exact ⟨hv.user, hv.sec, cph_lt (Nat.mod_lt _ (by decide)), hv.tries, hv.few⟩
theorem EnterP_any {d : Nat} {D : Dr} (H : Holds I w (doorA d D :: L)) (hD : DrOk I D) (name : ByteArray) (hn : name.size ≤ 140737488355328) (answer : Int) :
    Rets Try.prog F_secret_Door_Enter #[ptr d, .string name, .int .i64 answer] w fun u w' => u = .tuple #[.int .i64 (idAt (enterS D name answer)), .int .i64 (errAt (enterS D name answer))] ∧ Holds I w' (doorA d (enterS D name answer).1 :: L) := by
  refine ok_secret_Door_Enter.rets rfl ?_
  repeat' (first
    | (show VcL _ _ _ _ _ _ _ _; first
      | refine VcL.pures tabOk rfl ?_
      | refine VcL.nil ?_
      | (show VcL _ _ _ _ (⟨_, .load _ _, _, _, _, _⟩ :: _) _ _ _; refine VcL.load1 tabOk rfl rfl rfl rfl rfl (by exact Holds.rowCell0 (Holds.f1 H) (fun _ => rfl) (by exact atD_get (by assumption)) rfl) ?_)
      | (show VcL _ _ _ _ (⟨_, .call ⟨.value (.func F_secret_Door_none), _, _⟩, _, _, _, _⟩ :: _) _ _ _; (refine VcL.callF ok_secret_Door_none rfl rfl rfl rfl (Rets.mono (doorNone_any H) ?_); rintro _ w ⟨rfl, H⟩))
      | (show VcL _ _ _ _ (⟨_, .call ⟨.value (.func F_secret_Door_enter), _, _⟩, _, _, _, _⟩ :: _) _ _ _; (refine VcL.callF ok_secret_Door_enter rfl rfl rfl rfl (Rets.mono (enterP_any H hD name hn answer) ?_); rintro _ w ⟨⟨he, rfl, H⟩ | ⟨k, b, pre, post, cap, n, he, rfl, hk, rfl, h1, h2, H⟩⟩)))
    | (show Vc _ _ _ _ _ _; first
      | refine Vc.seq ?_
      | refine Vc.region ?_
      | refine Vc.condT rfl ?_
      | refine Vc.condF rfl ?_
      | refine Vc.ret ?_
      | refine Vc.skip ?_)
    | (show KSeq _ _ _ _ _ _ _; first
      | refine KSeq.normal ?_
      | refine KSeq.ret ?_)
    | (show KEnd _ _ _ _ _ _; refine KEnd.mk (Or.inr rfl) ⟨_, (ResL.tmp rfl (ResL.tmp rfl ResL.nil)), ?_⟩))
  · unfold idAt errAt; rw [he]; exact ⟨rfl, H⟩
  · have e1 : idAt (enterS D name answer) = (atD (enterS D name answer).1.vis k).user.id := by unfold idAt; rw [he]
    have e2 : errAt (enterS D name answer) = 0 := by unfold errAt; rw [he]
    rw [e1, e2]
    exact ⟨rfl, door_close rfl h1 h2 H⟩
def bothV (D : Dr) (name : ByteArray) (answer other : Int) : Value :=
  if is32 other then match (enterS D name answer).2 with
    | some k => .tuple #[.int .i64 (atD (enterS D name answer).1.vis k).user.id, .int .i64 (cphV other (turnK (atD (enterS D name answer).1.vis k).user.sec)), .int .i64 0]
    | none => .tuple #[.int .i64 0, .int .i64 0, .int .i64 240]
  else .tuple #[.int .i64 0, .int .i64 0, .int .i64 2]
def bothS (D : Dr) (name : ByteArray) (answer other : Int) : Dr := if is32 other then (enterS D name answer).1 else D
theorem turnK_eq {x : Int} (h : ∃ s : Nat, x = s ∧ s < 2 ^ 31) : IntKind.i64.wrap ((BitVec.ofInt IntKind.i64.bits x ^^^ BitVec.ofInt IntKind.i64.bits 1515870810).toNat : Int) = turnK x ∧ 0 ≤ turnK x ∧ turnK x < 4294967296 := by
  obtain ⟨s, rfl, hs⟩ := h
  obtain ⟨h1, h2⟩ := xor31 hs
  refine ⟨h1, ?_, ?_⟩ <;> unfold turnK <;> simp only [Int.toNat_natCast] <;> omega
theorem EnterBothP_any {d : Nat} {D : Dr} (H : Holds I w (doorA d D :: L)) (hD : DrOk I D) (name : ByteArray) (hn : name.size ≤ 140737488355328) (answer other : Int) :
    Rets Try.prog F_secret_Door_EnterBoth #[ptr d, .string name, .int .i64 answer, .int .i64 other] w fun u w' => u = bothV D name answer other ∧ Holds I w' (doorA d (bothS D name answer other) :: L) := by
  have hok := (enterS_ok hD name answer).1
  have hto : is32 other = true → 0 ≤ other ∧ other < 4294967296 := fun h => by unfold is32 at h; simp only [Bool.and_eq_true, decide_eq_true_eq] at h; omega
  have htk : ∀ k, k < (enterS D name answer).1.vis.length → _ := fun k hk => turnK_eq (hok.vis _ (atD_mem hk)).sec
  by_cases ho : is32 other = true
  ·
    refine ok_secret_Door_EnterBoth.rets rfl ?_
    repeat' (first
      | rw [(htk k hk).1]
      | (show VcL _ _ _ _ _ _ _ _; first
      | refine VcL.pures tabOk rfl ?_
      | refine VcL.nil ?_
      | (show VcL _ _ _ _ (⟨_, .call ⟨.value (.func F_secret_within), _, _⟩, _, _, _, _⟩ :: _) _ _ _; (refine VcL.callF ok_secret_within rfl rfl rfl rfl (Rets.mono (withinS_any H _ _ _) ?_); rintro _ w ⟨rfl, H⟩))
      | (show VcL _ _ _ _ (⟨_, .call ⟨.value (.func F_secret_Door_none), _, _⟩, _, _, _, _⟩ :: _) _ _ _; (refine VcL.callF ok_secret_Door_none rfl rfl rfl rfl (Rets.mono (doorNone_any H) ?_); rintro _ w ⟨rfl, H⟩))
      | (show VcL _ _ _ _ (⟨_, .call ⟨.value (.func F_secret_Door_enter), _, _⟩, _, _, _, _⟩ :: _) _ _ _; (refine VcL.callF ok_secret_Door_enter rfl rfl rfl rfl (Rets.mono (enterP_any H hD name hn answer) ?_); rintro _ w ⟨⟨he, rfl, H⟩ | ⟨k, b, pre, post, cap, n, he, rfl, hk, rfl, h1, h2, H⟩⟩)))
      | (show VcD _ _ _ _ _ _ _ _ _; first
      | refine VcD.pures tabOk rfl ?_
      | refine VcD.done ?_
      | (show VcD _ _ _ _ _ (.take _ _) _ _ _; refine VcD.load1 tabOk rfl rfl rfl rfl rfl rfl (by intro w_ hw_; first | exact Holds.rowCell (Holds.f1 hw_) (fun _ => rfl) (by exact atD_get (by assumption)) rfl | exact Holds.rowCell0 (Holds.f1 hw_) (fun _ => rfl) (by exact atD_get (by assumption)) rfl) (by exact rfl) ?_)
      | (show VcD _ _ _ _ _ (.only _ _) _ _ _; (refine VcD.callF (f := F_secret_cipher) rfl ok_secret_cipher rfl rfl rfl rfl (Rets.mono (cipherPI_any H (hto ho) (htk k hk).2) ?_); rintro _ w ⟨rfl, H⟩; refine ⟨(by exact H), ?_⟩)))
      | (show Vc _ _ _ _ _ _; first
      | refine Vc.seq ?_
      | refine Vc.region ?_
      | refine Vc.condT rfl ?_
      | refine Vc.condF rfl ?_
      | refine Vc.ret ?_
      | refine Vc.skip ?_
      | refine Vc.block ?_
      | refine Vc.drawnH (id := 8) H (.pure 0 (.pure 1 (.pure 2 (.pure 3 (.pure 5 (.pure 6 (.pure 7 (.pure 8 (.pure 9 (.take 4 (.take 10 (.pure 11 (.only 12 (.pure 13 (.pure 14 (.pure 15 .done)))))))))))))))) mixed (by kernel_rfl) (fun w H => ?_)
      | (refine Vc.cond rfl (fun h => ?_) (fun h => ?_) <;> skip))
      | (show KSeq _ _ _ _ _ _ _; first
      | refine KSeq.normal ?_
      | refine KSeq.ret ?_)
      | (show KBlock _ _ _ _ _; first
      | refine KBlock.normal ?_
      | refine KBlock.ret ?_)
      | (show KEnd _ _ _ _ _ _; refine KEnd.mk (Or.inr rfl) ⟨_, (ResL.tmp rfl (ResL.tmp rfl (ResL.tmp rfl ResL.nil))), ?_⟩))
    all_goals unfold bothV bothS
    all_goals rw [if_pos ho, if_pos ho]
    all_goals first
      | (rw [he]; exact ⟨rfl, H⟩)
      | (rw [he]; exact ⟨rfl, door_close rfl h1 h2 H⟩)
      | (exfalso; unfold is32 at ho; simp_all)
  ·
    refine ok_secret_Door_EnterBoth.rets rfl ?_
    repeat' (first
      | rw [(htk k hk).1]
      | (show VcL _ _ _ _ _ _ _ _; first
      | refine VcL.pures tabOk rfl ?_
      | refine VcL.nil ?_
      | (show VcL _ _ _ _ (⟨_, .call ⟨.value (.func F_secret_within), _, _⟩, _, _, _, _⟩ :: _) _ _ _; (refine VcL.callF ok_secret_within rfl rfl rfl rfl (Rets.mono (withinS_any H _ _ _) ?_); rintro _ w ⟨rfl, H⟩))
      | (show VcL _ _ _ _ (⟨_, .call ⟨.value (.func F_secret_Door_none), _, _⟩, _, _, _, _⟩ :: _) _ _ _; (refine VcL.callF ok_secret_Door_none rfl rfl rfl rfl (Rets.mono (doorNone_any H) ?_); rintro _ w ⟨rfl, H⟩))
      | (show VcL _ _ _ _ (⟨_, .call ⟨.value (.func F_secret_Door_enter), _, _⟩, _, _, _, _⟩ :: _) _ _ _; (refine VcL.callF ok_secret_Door_enter rfl rfl rfl rfl (Rets.mono (enterP_any H hD name hn answer) ?_); rintro _ w ⟨⟨he, rfl, H⟩ | ⟨k, b, pre, post, cap, n, he, rfl, hk, rfl, h1, h2, H⟩⟩)))
      | (show VcD _ _ _ _ _ _ _ _ _; first
      | refine VcD.pures tabOk rfl ?_
      | (show VcD _ _ _ _ _ (.take _ _) _ _ _; refine VcD.load1 tabOk rfl rfl rfl rfl rfl rfl (by intro w_ hw_; first | exact Holds.rowCell (Holds.f1 hw_) (fun _ => rfl) (by exact atD_get (by assumption)) rfl | exact Holds.rowCell0 (Holds.f1 hw_) (fun _ => rfl) (by exact atD_get (by assumption)) rfl) (by exact rfl) ?_))
      | (show Vc _ _ _ _ _ _; first
      | refine Vc.seq ?_
      | refine Vc.region ?_
      | refine Vc.condT rfl ?_
      | refine Vc.condF rfl ?_
      | refine Vc.ret ?_
      | refine Vc.skip ?_
      | refine Vc.block ?_
      | refine Vc.drawnH (id := 8) H (.pure 0 (.pure 1 (.pure 2 (.pure 3 (.pure 5 (.pure 6 (.pure 7 (.pure 8 (.pure 9 (.take 4 (.take 10 (.pure 11 (.only 12 (.pure 13 (.pure 14 (.pure 15 .done)))))))))))))))) mixed (by kernel_rfl) (fun w H => ?_)
      | (refine Vc.cond rfl (fun h => ?_) (fun h => ?_) <;> skip))
      | (show KSeq _ _ _ _ _ _ _; first
      | refine KSeq.normal ?_
      | refine KSeq.ret ?_)
      | (show KBlock _ _ _ _ _; first
      | refine KBlock.normal ?_
      | refine KBlock.ret ?_)
      | (show KEnd _ _ _ _ _ _; refine KEnd.mk (Or.inr rfl) ⟨_, (ResL.tmp rfl (ResL.tmp rfl (ResL.tmp rfl ResL.nil))), ?_⟩))
    all_goals first
      | (unfold bothV bothS; rw [if_neg ho, if_neg ho]; exact ⟨rfl, H⟩)
      | (exfalso; apply ho; unfold is32; simp_all)
abbrev vSec (v : Vs) (s : Int) : Vs := ⟨⟨v.user.id, v.user.name, s, v.user.grp⟩, v.given, v.num, v.tries⟩
def changeS (D : Dr) (name : ByteArray) (answer sec : Int) : Dr × Int :=
  if is31 sec then match (enterS D name answer).2 with
    | some k => ({ (enterS D name answer).1 with vis := (enterS D name answer).1.vis.set k (vSec (atD (enterS D name answer).1.vis k) sec) }, 0)
    | none => ((enterS D name answer).1, 240)
  else (D, 2)
theorem ChangeP_any {d : Nat} {D : Dr} (H : Holds I w (doorA d D :: L)) (hD : DrOk I D) (name : ByteArray) (hn : name.size ≤ 140737488355328) (answer sec : Int) :
    Rets Try.prog F_secret_Door_Change #[ptr d, .string name, .int .i64 answer, .int .i64 sec] w fun u w' => u = .int .i64 (changeS D name answer sec).2 ∧ Holds I w' (doorA d (changeS D name answer sec).1 :: L) := by
  by_cases ho : is31 sec = true
  ·
    refine ok_secret_Door_Change.rets rfl ?_
    repeat' (first
      | (refine VcL.storeRow (f := 2) (vSec (atD (enterS D name answer).1.vis k) sec) tabOk vsC_len (Holds.swap H) (atD_get hk) rfl rfl rfl rfl rfl rfl rfl rfl (fun w H => ?_); have H := Holds.swap H)
      | (show VcL _ _ _ _ _ _ _ _; first
      | refine VcL.pures tabOk rfl ?_
      | refine VcL.nil ?_
      | (show VcL _ _ _ _ (⟨_, .call ⟨.value (.func F_secret_within), _, _⟩, _, _, _, _⟩ :: _) _ _ _; (refine VcL.callF ok_secret_within rfl rfl rfl rfl (Rets.mono (withinS_any H _ _ _) ?_); rintro _ w ⟨rfl, H⟩))
      | (show VcL _ _ _ _ (⟨_, .call ⟨.value (.func F_secret_Door_none), _, _⟩, _, _, _, _⟩ :: _) _ _ _; (refine VcL.callF ok_secret_Door_none rfl rfl rfl rfl (Rets.mono (doorNone_any H) ?_); rintro _ w ⟨rfl, H⟩))
      | (show VcL _ _ _ _ (⟨_, .call ⟨.value (.func F_secret_Door_enter), _, _⟩, _, _, _, _⟩ :: _) _ _ _; (refine VcL.callF ok_secret_Door_enter rfl rfl rfl rfl (Rets.mono (enterP_any H hD name hn answer) ?_); rintro _ w ⟨⟨he, rfl, H⟩ | ⟨k, b, pre, post, cap, n, he, rfl, hk, rfl, h1, h2, H⟩⟩)))
      | (show Vc _ _ _ _ _ _; first
      | refine Vc.seq ?_
      | refine Vc.region ?_
      | refine Vc.condT rfl ?_
      | refine Vc.condF rfl ?_
      | refine Vc.ret ?_
      | refine Vc.skip ?_
      | refine Vc.block ?_
      | (refine Vc.cond rfl (fun h => ?_) (fun h => ?_) <;> skip))
      | (show KSeq _ _ _ _ _ _ _; first
      | refine KSeq.normal ?_
      | refine KSeq.ret ?_)
      | (show KBlock _ _ _ _ _; first
      | refine KBlock.normal ?_
      | refine KBlock.ret ?_)
      | (show KEnd _ _ _ _ _ _; refine KEnd.mk (Or.inr rfl) ⟨_, (ResL.tmp rfl ResL.nil), ?_⟩))
    all_goals unfold changeS
    all_goals rw [if_pos ho]
    all_goals first
      | (rw [he]; exact ⟨rfl, H⟩)
      | (rw [he]; exact ⟨rfl, door_close List.length_set h1 h2 H⟩)
      | (exfalso; unfold is31 at ho; simp_all)
  ·
    refine ok_secret_Door_Change.rets rfl ?_
    repeat' (first
      | (refine VcL.storeRow (f := 2) (vSec (atD (enterS D name answer).1.vis k) sec) tabOk vsC_len (Holds.swap H) (atD_get hk) rfl rfl rfl rfl rfl rfl rfl rfl (fun w H => ?_); have H := Holds.swap H)
      | (show VcL _ _ _ _ _ _ _ _; first
      | refine VcL.pures tabOk rfl ?_
      | refine VcL.nil ?_
      | (show VcL _ _ _ _ (⟨_, .call ⟨.value (.func F_secret_within), _, _⟩, _, _, _, _⟩ :: _) _ _ _; (refine VcL.callF ok_secret_within rfl rfl rfl rfl (Rets.mono (withinS_any H _ _ _) ?_); rintro _ w ⟨rfl, H⟩))
      | (show VcL _ _ _ _ (⟨_, .call ⟨.value (.func F_secret_Door_none), _, _⟩, _, _, _, _⟩ :: _) _ _ _; (refine VcL.callF ok_secret_Door_none rfl rfl rfl rfl (Rets.mono (doorNone_any H) ?_); rintro _ w ⟨rfl, H⟩))
      | (show VcL _ _ _ _ (⟨_, .call ⟨.value (.func F_secret_Door_enter), _, _⟩, _, _, _, _⟩ :: _) _ _ _; (refine VcL.callF ok_secret_Door_enter rfl rfl rfl rfl (Rets.mono (enterP_any H hD name hn answer) ?_); rintro _ w ⟨⟨he, rfl, H⟩ | ⟨k, b, pre, post, cap, n, he, rfl, hk, rfl, h1, h2, H⟩⟩)))
      | (show Vc _ _ _ _ _ _; first
      | refine Vc.seq ?_
      | refine Vc.region ?_
      | refine Vc.condT rfl ?_
      | refine Vc.condF rfl ?_
      | refine Vc.ret ?_
      | refine Vc.skip ?_
      | refine Vc.block ?_
      | (refine Vc.cond rfl (fun h => ?_) (fun h => ?_) <;> skip))
      | (show KSeq _ _ _ _ _ _ _; first
      | refine KSeq.normal ?_
      | refine KSeq.ret ?_)
      | (show KBlock _ _ _ _ _; first
      | refine KBlock.normal ?_
      | refine KBlock.ret ?_)
      | (show KEnd _ _ _ _ _ _; refine KEnd.mk (Or.inr rfl) ⟨_, (ResL.tmp rfl ResL.nil), ?_⟩))
    all_goals first
      | (unfold changeS; rw [if_neg ho]; exact ⟨rfl, H⟩)
      | (exfalso; apply ho; unfold is31; simp_all)
theorem enterS_some {D : Dr} {name : ByteArray} {answer : Int} {k : Nat} (h : (enterS D name answer).2 = some k) : k < (enterS D name answer).1.vis.length := by
  unfold enterS placeD at h ⊢
  dsimp only at h ⊢
  rcases idxF_cases (hasN name) D.vis with ⟨hi, _⟩ | ⟨j, hj, hi, _⟩
  · rw [hi] at h
    simp at h
  · rw [hi] at h ⊢
    simp only [Int.toNat_natCast] at h ⊢
    split at h
    · cases h
    · split at h
      · cases h
      · rename_i h1 h2
        rw [if_neg h1, if_neg h2]
        injection h with h
        subst h
        simpa using hj
theorem changeS_ok {D : Dr} (hD : DrOk I D) (name : ByteArray) (answer sec : Int) : DrOk I (changeS D name answer sec).1 ∧ (changeS D name answer sec).1.asked = D.asked := by
  have hok := enterS_ok hD name answer
  unfold changeS
  split
  · rename_i h
    split
    · rename_i k hk
      refine ⟨⟨hok.1.seed, by simpa using hok.1.len, fun v hv' => ?_⟩, hok.2⟩
      rcases set_mem hv' with h1 | rfl
      · exact hok.1.vis v h1
      · have hv := hok.1.vis _ (atD_mem (enterS_some hk))
        refine ⟨⟨hv.user.grp, hv.user.name, hv.user.len⟩, ?_, hv.num, hv.tries, hv.few⟩
        exact is31_nat h
    · exact hok
  · exact ⟨hD, rfl⟩
def triesS (D : Dr) (name : ByteArray) : Int := if placeD D name < 0 then 0 else ((atD D.vis (placeD D name).toNat).tries : Int)
theorem TriesP_any {d : Nat} {D : Dr} (H : Holds I w (doorA d D :: L)) (hD : DrOk I D) (name : ByteArray) (hn : name.size ≤ 140737488355328) :
    Rets Try.prog F_secret_Door_Tries #[ptr d, .string name] w fun u w' => u = .int .i64 (triesS D name) ∧ Holds I w' (doorA d D :: L) := by
  rcases door_open H with ⟨hnil, HB⟩ | ⟨b, pre, post, cap, h1, h2, HB⟩
  · clear H
    have H := HB
    have hp := place_none (name := name) hnil
    refine ok_secret_Door_Tries.rets rfl ?_
    repeat' (first
      | (show VcL _ _ _ _ _ _ _ _; first
      | refine VcL.pures tabOk rfl ?_
      | refine VcL.nil ?_
      | (show VcL _ _ _ _ (⟨_, .call ⟨.value (.func F_secret_Door_none), _, _⟩, _, _, _, _⟩ :: _) _ _ _; (refine VcL.callF ok_secret_Door_none rfl rfl rfl rfl (Rets.mono (noneD_any H Holds.toW) ?_); rintro _ w ⟨rfl, H⟩))
      | (show VcL _ _ _ _ (⟨_, .call ⟨.value (.func F_secret_Door_find), _, _⟩, _, _, _, _⟩ :: _) _ _ _; (refine VcL.callF ok_secret_Door_find rfl rfl rfl rfl (Rets.mono (findNil_any H Holds.toW name) ?_); rintro _ w ⟨rfl, H⟩)))
      | (show Vc _ _ _ _ _ _; first
      | refine Vc.seq ?_
      | refine Vc.region ?_
      | refine Vc.condF rfl ?_
      | refine Vc.ret ?_
      | refine Vc.skip ?_)
      | (show KSeq _ _ _ _ _ _ _; refine KSeq.normal ?_)
      | (show KEnd _ _ _ _ _ _; refine KEnd.mk (Or.inr rfl) ⟨_, (ResL.tmp rfl ResL.nil), ?_⟩))
    unfold triesS
    rw [hp]
    exact ⟨rfl, door_nil hnil H⟩
  · clear H
    have H := HB
    refine ok_secret_Door_Tries.rets rfl ?_
    repeat' (first
      | (show VcL _ _ _ _ _ _ _ _; first
      | refine VcL.pures tabOk rfl ?_
      | refine VcL.nil ?_
      | (show VcL _ _ _ _ (⟨_, .load _ _, _, _, _, _⟩ :: _) _ _ _; refine VcL.load1 tabOk rfl rfl rfl rfl rfl (by exact Holds.rowCell (Holds.f1 H) (fun _ => rfl) (by exact atD_get (by assumption)) rfl) ?_)
      | (show VcL _ _ _ _ (⟨_, .call ⟨.value (.func F_secret_Door_none), _, _⟩, _, _, _, _⟩ :: _) _ _ _; (refine VcL.callF ok_secret_Door_none rfl rfl rfl rfl (Rets.mono (noneD_any H Holds.toW) ?_); rintro _ w ⟨rfl, H⟩))
      | (show VcL _ _ _ _ (⟨_, .call ⟨.value (.func F_secret_Door_find), _, _⟩, _, _, _, _⟩ :: _) _ _ _; (refine VcL.callF ok_secret_Door_find rfl rfl rfl rfl (Rets.mono (find_any H Holds.toW (Holds.toRow vsC_len h1) name hn (fun v hv => (hD.vis v hv).user.name) hD.len) ?_); rintro _ w ⟨H, ⟨hi, rfl⟩ | ⟨k, hk, hi, rfl⟩⟩)))
      | (show Vc _ _ _ _ _ _; first
      | refine Vc.seq ?_
      | refine Vc.region ?_
      | refine Vc.condT rfl ?_
      | refine Vc.condF rfl ?_
      | refine Vc.ret ?_
      | refine Vc.skip ?_)
      | (show KSeq _ _ _ _ _ _ _; first
      | refine KSeq.normal ?_
      | refine KSeq.ret ?_)
      | (show KEnd _ _ _ _ _ _; refine KEnd.mk (Or.inr rfl) ⟨_, (ResL.tmp rfl ResL.nil), ?_⟩))
    all_goals (unfold triesS placeD; rw [hi])
    · exact ⟨rfl, door_close rfl h1 h2 H⟩
    · rw [if_neg (by omega)]
      exact ⟨rfl, door_close rfl h1 h2 H⟩
end Go.Proofs.Ytccbfajjboccoaa.V
