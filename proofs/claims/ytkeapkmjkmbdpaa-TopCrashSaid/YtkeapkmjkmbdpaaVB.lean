/- Bytes of the journal: numbers, sameness. -/
import Derived.Test.YtkeapkmjkmbdpaaVA
namespace Go.Proofs.Ytkeapkmjkmbdpaa.V
open Go Go.Proofs.YtkeapkmjkmbdpaaV
set_option linter.unusedVariables false
set_option linter.unusedSimpArgs false
set_option maxHeartbeats 1000000
set_option maxRecDepth 4000
attribute [local irreducible] IntKind.wrap
variable {I : Imm} {w : World} {L : List Asn}
def num (l : By) (at_ : Nat) : Nat := (atD l at_).toNat * 256 + (atD l (at_ + 1)).toNat
theorem num_lt (l : By) (k : Nat) : num l k < 65536 := by
  have h1 := (atD l k).toNat_lt
  have h2 := (atD l (k + 1)).toNat_lt
  unfold num
  omega
def two (n : Nat) : By := [UInt8.ofNat (n / 256), UInt8.ofNat (n % 256)]
theorem two_len (n : Nat) : (two n).length = 2 := rfl
theorem u8_of (n : Nat) (h : n < 256) : byteV (UInt8.ofNat n) = .int .u8 (n : Nat) := by
  unfold byteV
  rw [UInt8.toNat_ofNat']
  congr 2
  omega
theorem isWidth2_any (H : Holds I w L) : Rets Try.prog F_octet_isWidth #[.int .i64 2] w fun u w' => u = .bool true ∧ Holds I w' L := by
  refine ok_octet_isWidth.rets rfl ?_
  repeat' (first
    | (show VcL _ _ _ _ _ _ _ _; first
      | refine VcL.pures tabOk rfl ?_
      | refine VcL.nil ?_
      | (refine VcL.guard rfl rfl rfl rfl (fun h => ?_) (fun h => ?_) <;> first | (cases h; done) | (with_reducible have hp := of_decide_eq_true h) | (with_reducible have hp := of_decide_eq_false h)))
    | (show Vc _ _ _ _ _ _; first
      | refine Vc.seq ?_
      | refine Vc.region ?_
      | refine Vc.ret ?_)
    | (show KSeq _ _ _ _ _ _ _; refine KSeq.normal ?_)
    | (show KEnd _ _ _ _ _ _ _; refine KEnd.fin (Or.inr rfl) ⟨_, (ResL.tmp rfl ResL.nil), ?_⟩))
  exact ⟨rfl, H⟩
theorem Put2_any (H : Holds I w L) {n : Nat} (hn : n < 65536) : Rets Try.prog F_octet_Put #[.int .i64 2, .int .i64 (n : Nat)] w fun u w' => ∃ sv, u = .tuple #[sv, .int .i64 0] ∧ Holds I w' (own sv 5 1 2 (byL (two n)) :: L) := by
  have h16 : IntKind.i64.wrap (8 * 2) = ((16 : Nat) : Int) := wrap_i64 (by omega) (by omega)
  have h19 : IntKind.i64.wrap (1 * 2 ^ min 16 IntKind.i64.bits) = 65536 := by rw [show (1 : Int) * 2 ^ min 16 IntKind.i64.bits = 65536 from rfl]; exact wrap_i64 (by omega) (by omega)
  have h7 : IntKind.i64.wrap (2 - 1) = 1 := wrap_i64 (by omega) (by omega)
  refine ok_octet_Put.rets rfl ?_
  repeat' (first
    | rw [h19]
    | rw [h7]
    | (show VcL _ _ _ _ _ _ _ _; first
      | refine VcL.pures tabOk rfl ?_
      | refine VcL.nil ?_
      | (show VcL _ _ _ _ (⟨_, .binOp _ _ _ _ _, _, _, _, _⟩ :: _) _ _ _; refine VcL.shl rfl rfl (by assumption) rfl rfl rfl ?_)
      | (show VcL _ _ _ _ (⟨_, .call ⟨.value (.func F_octet_isWidth), _, _⟩, _, _, _, _⟩ :: _) _ _ _; (refine VcL.callF ok_octet_isWidth rfl rfl rfl rfl (Rets.mono (isWidth2_any H) ?_); rintro _ w ⟨rfl, H⟩))
      | (refine VcL.guard rfl rfl rfl rfl (fun h => ?_) (fun h => ?_) <;> first | (cases h; done) | (with_reducible have hp := of_decide_eq_false h) | skip))
    | (show Vc _ _ _ _ _ _; first
      | refine Vc.seq ?_
      | refine Vc.region ?_
      | refine Vc.skip ?_
      | refine Vc.block ?_
      | (refine Vc.cond rfl (fun h => ?_) (fun h => ?_) <;> first | (exfalso; simp only [decide_eq_true_eq, decide_eq_false_iff_not] at h; omega) | (with_reducible have hp := of_decide_eq_false h)))
    | (show KSeq _ _ _ _ _ _ _; refine KSeq.normal ?_))
  refine Vc.loopS [(1, _)] (fun s : Nat × Value => [(6, s.2), (7, .int .i64 (1 - (s.1 : Int)))]) (fun s w => s.1 ≤ 2 ∧ Holds I w (own s.2 5 1 s.1 (byL ((two n).take s.1)) :: L)) (fun s _ => 2 - s.1) (0, .slice none 0 0) ⟨rfl, rfl, trivial⟩ ⟨rfl, trivial⟩ ⟨by omega, H.own_nil⟩ ?_
  rintro ⟨k, ov⟩ w ⟨hk, H⟩
  dsimp only at hk H ⊢
  have hone : ∀ c : UInt8, ∀ u ∈ [byteV c], oneC u = true := fun c u hu => by simp only [List.mem_singleton] at hu; rw [hu]; rfl
  have hk3 : k = 0 ∨ k = 1 ∨ k = 2 := by omega
  rcases hk3 with rfl | rfl | rfl
  · have e1 : IntKind.i64.wrap (8 * (1 - ((0 : Nat) : Int))) = ((8 : Nat) : Int) := wrap_i64 (by omega) (by omega)
    have e2 : Value.int .u8 (IntKind.u8.wrap ((n : Int).fdiv (2 ^ min 8 IntKind.i64.bits))) = byteV (UInt8.ofNat (n / 256)) := by
      rw [u8_of _ (by omega), wrap_u8]
      congr 1
      rw [show (2 : Int) ^ min 8 IntKind.i64.bits = 256 from rfl, Int.fdiv_eq_ediv_of_nonneg _ (by omega)]
      omega
    repeat' (first
      | rw [e1]
      | rw [e2]
      | (refine VcL.append (m := 1) (ds := [byteV (UInt8.ofNat (n / 256))]) tabOk rfl rfl rfl rfl (Holds.swap H) (Holds.own_src H) (hone _) (by decide) rfl rfl rfl (fun ov2 w H => ?_))
      | (show VcL _ _ _ _ _ _ _ _; first
      | refine VcL.pures tabOk rfl ?_
      | refine VcL.nil ?_
      | (show VcL _ _ _ _ (⟨_, .binOp _ _ _ _ _, _, _, _, _⟩ :: _) _ _ _; refine VcL.shr rfl rfl (by rfl) rfl rfl rfl ?_)
      | refine VcL.buildSlice tabOk H rfl rfl rfl rfl rfl rfl (fun sv w H => ?_))
      | (show Vc _ _ _ _ _ _; first
      | refine Vc.seq ?_
      | refine Vc.region ?_
      | refine Vc.condT rfl ?_
      | refine Vc.skip ?_
      | refine Vc.block ?_)
      | (show KSeq _ _ _ _ _ _ _; refine KSeq.normal ?_)
      | (show KBlock _ _ _ _ _ _; refine KBlock.normal ?_))
    exact KLoop.again (1, ov2) ⟨rfl, (show some (Value.int .i64 (IntKind.i64.wrap (1 - ((0 : Nat) : Int) - 1))) = some (Value.int .i64 (1 - ((1 : Nat) : Int))) from by rw [wrap_i64 (by omega) (by omega)]; rfl), trivial⟩ ⟨rfl, trivial⟩ ⟨by omega, Holds.drop1 H⟩ (by show _ < _; omega)
  · have e1 : IntKind.i64.wrap (8 * (1 - ((1 : Nat) : Int))) = ((0 : Nat) : Int) := wrap_i64 (by omega) (by omega)
    have e2 : Value.int .u8 (IntKind.u8.wrap ((n : Int).fdiv (2 ^ min 0 IntKind.i64.bits))) = byteV (UInt8.ofNat (n % 256)) := by
      rw [u8_of _ (by omega), wrap_u8]
      congr 1
      rw [show (2 : Int) ^ min 0 IntKind.i64.bits = 1 from rfl, Int.fdiv_eq_ediv_of_nonneg _ (by omega)]
      omega
    repeat' (first
      | rw [e1]
      | rw [e2]
      | (refine VcL.append (m := 1) (ds := [byteV (UInt8.ofNat (n % 256))]) tabOk rfl rfl rfl rfl (Holds.swap H) (Holds.own_src H) (hone _) (by decide) rfl rfl rfl (fun ov2 w H => ?_))
      | (show VcL _ _ _ _ _ _ _ _; first
      | refine VcL.pures tabOk rfl ?_
      | refine VcL.nil ?_
      | (show VcL _ _ _ _ (⟨_, .binOp _ _ _ _ _, _, _, _, _⟩ :: _) _ _ _; refine VcL.shr rfl rfl (by rfl) rfl rfl rfl ?_)
      | refine VcL.buildSlice tabOk H rfl rfl rfl rfl rfl rfl (fun sv w H => ?_))
      | (show Vc _ _ _ _ _ _; first
      | refine Vc.seq ?_
      | refine Vc.region ?_
      | refine Vc.condT rfl ?_
      | refine Vc.skip ?_
      | refine Vc.block ?_)
      | (show KSeq _ _ _ _ _ _ _; refine KSeq.normal ?_)
      | (show KBlock _ _ _ _ _ _; refine KBlock.normal ?_))
    exact KLoop.again (2, ov2) ⟨rfl, (show some (Value.int .i64 (IntKind.i64.wrap (1 - ((1 : Nat) : Int) - 1))) = some (Value.int .i64 (1 - ((2 : Nat) : Int))) from by rw [wrap_i64 (by omega) (by omega)]; rfl), trivial⟩ ⟨rfl, trivial⟩ ⟨by omega, Holds.drop1 H⟩ (by show _ < _; omega)
  ·
    repeat' (first
      | (show VcL _ _ _ _ _ _ _ _; first
      | refine VcL.pures tabOk rfl ?_
      | refine VcL.nil ?_)
      | (show Vc _ _ _ _ _ _; first
      | refine Vc.seq ?_
      | refine Vc.region ?_
      | refine Vc.condF rfl ?_
      | refine Vc.ret ?_
      | refine Vc.exit ?_)
      | (show KSeq _ _ _ _ _ _ _; first
      | refine KSeq.normal ?_
      | refine KSeq.exit ?_)
      | (show KBlock _ _ _ _ _ _; refine KBlock.here ?_)
      | refine KLoop.exit ?_
      | (show KEnd _ _ _ _ _ _ _; refine KEnd.fin (Or.inr rfl) ⟨_, (ResL.tmp rfl (ResL.tmp rfl ResL.nil)), ?_⟩))
    exact ⟨_, rfl, H⟩
def getV (l : By) (at_ : Nat) : Nat → Nat
  | 0 => 0
  | 1 => (atD l at_).toNat
  | _ => num l at_
theorem getV_lt (l : By) (at_ : Nat) {k : Nat} (h : k < 2) : getV l at_ k < 256 := by
  have h1 := (atD l at_).toNat_lt
  have h2 : k = 0 ∨ k = 1 := by omega
  rcases h2 with rfl | rfl
  · exact Nat.zero_lt_succ _
  · exact h1
theorem getV_succ (l : By) (at_ : Nat) {k : Nat} (h : k < 2) : getV l at_ (k + 1) = getV l at_ k * 256 + (atD l (at_ + k)).toNat := by
  have h2 : k = 0 ∨ k = 1 := by omega
  rcases h2 with rfl | rfl
  · show (atD l at_).toNat = 0 * 256 + (atD l at_).toNat
    omega
  · rfl
theorem shl_or {v c : Nat} (hv : v < 256) (hc : c < 256) : IntKind.i64.wrap ((BitVec.ofInt IntKind.i64.bits (IntKind.i64.wrap ((v : Int) * 2 ^ min 8 IntKind.i64.bits)) ||| BitVec.ofInt IntKind.i64.bits (IntKind.i64.wrap (c : Int))).toNat : Int) = ((v * 256 + c : Nat) : Int) := by
  have e1 : IntKind.i64.wrap ((v : Int) * 2 ^ min 8 IntKind.i64.bits) = ((v * 256 : Nat) : Int) := by
    rw [show (2 : Int) ^ min 8 IntKind.i64.bits = 256 from rfl, wrap_i64 (by omega) (by omega)]
    omega
  have h63 : (65536 : Nat) < 2 ^ IntKind.i64.bits := by decide
  rw [e1, wi64 (n := c) (by omega), BitVec.toNat_or, bv_nat (by omega), bv_nat (by omega)]
  have e2 : v * 256 ||| c = v * 256 + c := by
    rw [show v * 256 = 2 ^ 8 * v by omega, ← Nat.two_pow_add_eq_or_of_lt (by omega)]
  rw [e2, wi64 (n := v * 256 + c) (by omega)]
theorem Get2_any (H : Holds I w L) {v : Value} {l : By} (hv : SlR I L v 1 l.length (byL l)) {at_ : Nat} (ha : at_ + 2 ≤ l.length) (hl : l.length ≤ 140737488355328) :
    Rets Try.prog F_octet_Get #[v, .int .i64 (at_ : Nat), .int .i64 2] w fun u w' => u = .tuple #[.int .i64 (num l at_ : Nat), .int .i64 (at_ + 2 : Nat), .int .i64 0] ∧ Holds I w' L := by
  obtain ⟨A, cap, rfl, hcap⟩ := hv.form
  obtain ⟨b1, o1, rfl, hr1⟩ := hv.at (by omega)
  have e1 : IntKind.i64.wrap ((at_ : Int) + 2) = ((at_ + 2 : Nat) : Int) := wrap_i64 (by omega) (by omega)
  have e2 : IntKind.i64.wrap ((l.length : Int) - at_) = ((l.length - at_ : Nat) : Int) := by rw [wrap_i64 (by omega) (by omega)]; omega
  refine ok_octet_Get.rets rfl ?_
  repeat' (first
    | rw [e1]
    | rw [e2]
    | (show VcL _ _ _ _ _ _ _ _; first
      | refine VcL.pures tabOk rfl ?_
      | refine VcL.nil ?_
      | (show VcL _ _ _ _ (⟨_, .slice _ _ _ _ none, _, _, _, _⟩ :: _) _ _ _; refine VcL.sliceN tabOk rfl rfl rfl rfl rfl rfl rfl (by omega) (by omega) (fun p_ hp_ => ?_))
      | (show VcL _ _ _ _ (⟨_, .call ⟨.value (.func F_octet_isWidth), _, _⟩, _, _, _, _⟩ :: _) _ _ _; (refine VcL.callF ok_octet_isWidth rfl rfl rfl rfl (Rets.mono (isWidth2_any H) ?_); rintro _ w ⟨rfl, H⟩))
      | (refine VcL.guard rfl rfl rfl rfl (fun h => ?_) (fun h => ?_) <;> first | (cases h; done) | (with_reducible have hp := of_decide_eq_false h) | skip))
    | (show Vc _ _ _ _ _ _; first
      | refine Vc.seq ?_
      | refine Vc.region ?_
      | refine Vc.skip ?_
      | refine Vc.block ?_
      | (refine Vc.cond rfl (fun h => ?_) (fun h => ?_) <;> first | (exfalso; simp only [decide_eq_true_eq, decide_eq_false_iff_not] at h; omega) | (with_reducible have hp := of_decide_eq_false h)))
    | (show KSeq _ _ _ _ _ _ _; refine KSeq.normal ?_)
    | (show KBlock _ _ _ _ _ _; refine KBlock.normal ?_))
  refine Vc.loopS [(1, _), (2, _), (37, _), (38, _)] (fun k : Nat => [(6, .int .i64 (getV l at_ k : Nat)), (39, .int .i64 k)]) (fun k w => Holds I w L ∧ k ≤ 2) (fun k _ => 2 - k) 0 ⟨rfl, rfl, trivial⟩ ⟨rfl, rfl, rfl, rfl, trivial⟩ ⟨H, by omega⟩ ?_
  rintro k w ⟨H, hk⟩
  by_cases hlt : k < 2
  · have hx := (byL_flat l ▸ hr1).elem byC_len (atD_get (show at_ + k < l.length by omega))
    have hb := (atD l (at_ + k)).toNat_lt
    have hp2 : p_ + k * 1 = o1 + (at_ + k) * 1 := by rw [hp_ (by omega)]; omega
    rw [← hp2] at hx
    repeat' (first
      | (show VcL _ _ _ _ _ _ _ _; first
      | refine VcL.pures tabOk rfl ?_
      | refine VcL.nil ?_
      | (show VcL _ _ _ _ (⟨_, .load _ _, _, _, _, _⟩ :: _) _ _ _; refine VcL.load1 tabOk rfl rfl rfl rfl rfl (by exact RdW.get0 (by assumption) rfl H) ?_)
      | (show VcL _ _ _ _ (⟨_, .indexAddr _ _ _, _, _, _, _⟩ :: _) _ _ _; refine VcL.indexAddr tabOk rfl rfl rfl rfl rfl rfl (by omega) (by omega) ?_))
      | (show Vc _ _ _ _ _ _; first
      | refine Vc.seq ?_
      | refine Vc.region ?_
      | refine Vc.skip ?_
      | refine Vc.block ?_
      | (refine Vc.cond rfl (fun h => ?_) (fun h => ?_) <;> first | (exfalso; simp only [decide_eq_true_eq, decide_eq_false_iff_not] at h; omega) | (with_reducible have hp := of_decide_eq_true h)))
      | (show KSeq _ _ _ _ _ _ _; refine KSeq.normal ?_)
      | (show KBlock _ _ _ _ _ _; refine KBlock.normal ?_))
    refine KLoop.again (k + 1) ⟨?_, got_succ rfl (by omega), trivial⟩ ⟨rfl, rfl, rfl, rfl, trivial⟩ ⟨H, by omega⟩ (by omega)
    show some (Value.int .i64 _) = _
    rw [shl_or (getV_lt l at_ hlt) hb, getV_succ l at_ hlt]
  · have e : k = 2 := by omega
    subst e
    repeat' (first
      | rw [e1]
      | (show VcL _ _ _ _ _ _ _ _; first
      | refine VcL.pures tabOk rfl ?_
      | refine VcL.nil ?_)
      | (show Vc _ _ _ _ _ _; first
      | refine Vc.seq ?_
      | refine Vc.region ?_
      | refine Vc.ret ?_
      | refine Vc.exit ?_
      | (refine Vc.cond rfl (fun h => ?_) (fun h => ?_) <;> first | (exfalso; simp only [decide_eq_true_eq, decide_eq_false_iff_not] at h; omega) | (with_reducible have hp := of_decide_eq_false h)))
      | (show KSeq _ _ _ _ _ _ _; first
      | refine KSeq.normal ?_
      | refine KSeq.exit ?_)
      | (show KBlock _ _ _ _ _ _; refine KBlock.here ?_)
      | refine KLoop.exit ?_
      | (show KEnd _ _ _ _ _ _ _; refine KEnd.fin (Or.inr rfl) ⟨_, (ResL.tmp rfl (ResL.tmp rfl (ResL.tmp rfl ResL.nil))), ?_⟩))
    exact ⟨rfl, H⟩
theorem Equal_any (H : Holds I w L) {v u : Value} {l m : By} (hv : SlR I L v 1 l.length (byL l)) (hu : SlR I L u 1 m.length (byL m)) (hl : l.length ≤ 140737488355328) :
    Rets Try.prog F_slices_Equal_byte_byte #[v, u] w fun r w' => r = .bool (decide (l = m)) ∧ Holds I w' L := by
  obtain ⟨A, cap, rfl, hcap⟩ := hv.form
  obtain ⟨B, cap2, rfl, hcap2⟩ := hu.form
  refine ok_slices_Equal_byte_byte.rets rfl ?_
  repeat' (first
    | (show VcL _ _ _ _ _ _ _ _; first
      | refine VcL.pures tabOk rfl ?_
      | refine VcL.nil ?_)
    | (show Vc _ _ _ _ _ _; first
      | refine Vc.seq ?_
      | refine Vc.region ?_
      | refine Vc.ret ?_
      | refine Vc.skip ?_
      | refine Vc.block ?_
      | (refine Vc.cond rfl (fun h => ?_) (fun h => ?_) <;> first | (with_reducible have hp := ndec_t h) | (with_reducible have hp := ndec_f h)))
    | (show KSeq _ _ _ _ _ _ _; first
      | refine KSeq.normal ?_
      | refine KSeq.ret ?_)
    | (show KEnd _ _ _ _ _ _ _; refine KEnd.fin (Or.inr rfl) ⟨_, (ResL.tmp rfl ResL.nil), ?_⟩))
  · exact ⟨by rw [decide_eq_false (fun e => by subst e; exact hp rfl)]; rfl, H⟩
  have hlen : l.length = m.length := by omega
  refine Vc.loopS [(0, _), (1, _), (12, _)] (fun k : Nat => [(13, .int .i64 k)]) (fun k w => Holds I w L ∧ k ≤ l.length ∧ ∀ j, j < k → atD l j = atD m j) (fun k _ => l.length - k) 0 ⟨rfl, trivial⟩ ⟨rfl, rfl, rfl, trivial⟩ ⟨H, Nat.zero_le _, fun j hj => absurd hj (by omega)⟩ ?_
  rintro k w ⟨H, hk, hall⟩
  by_cases hlt : k < l.length
  · obtain ⟨b1, o1, rfl, hr1⟩ := hv.at (by omega)
    obtain ⟨b2, o2, rfl, hr2⟩ := hu.at (by omega)
    have hr1 := (byL_flat l ▸ hr1).elem byC_len (atD_get hlt)
    have hr2 := (byL_flat m ▸ hr2).elem byC_len (atD_get (show k < m.length by omega))
    repeat' (first
      | (show VcL _ _ _ _ _ _ _ _; first
      | refine VcL.pures tabOk rfl ?_
      | refine VcL.nil ?_)
      | (show VcD _ _ _ _ _ _ _ _ _; first
      | refine VcD.pures tabOk rfl ?_
      | refine VcD.done ?_
      | (show VcD _ _ _ _ _ (.pure _ _) _ _ _; refine VcD.indexAddr tabOk rfl rfl rfl rfl rfl rfl rfl (by omega) (by omega) ?_)
      | (show VcD _ _ _ _ _ (.take _ _) _ _ _; refine VcD.load1 tabOk rfl rfl rfl rfl rfl rfl (by intro w_ hw_; exact RdW.get0 (by assumption) rfl hw_) (by exact rfl) ?_))
      | (show Vc _ _ _ _ _ _; first
      | refine Vc.seq ?_
      | refine Vc.region ?_
      | refine Vc.ret ?_
      | refine Vc.skip ?_
      | refine Vc.block ?_
      | refine Vc.drawnH (id := 6) H (.pure 0 (.pure 1 (.pure 4 (.pure 5 (.pure 2 (.take 3 (.pure 6 (.take 7 (.pure 8 .done))))))))) mixed (by kernel_rfl) (fun w H => ?_)
      | (refine Vc.cond rfl (fun h => ?_) (fun h => ?_) <;> first | (exfalso; simp only [decide_eq_true_eq, decide_eq_false_iff_not] at h; omega) | (with_reducible have hp := of_decide_eq_true h) | (with_reducible have hp := ndec_t h) | (with_reducible have hp := ndec_f h)))
      | (show KSeq _ _ _ _ _ _ _; first
      | refine KSeq.normal ?_
      | refine KSeq.ret ?_)
      | (show KBlock _ _ _ _ _ _; first
      | refine KBlock.normal ?_
      | refine KBlock.ret ?_)
      | refine KLoop.ret ?_
      | (show KEnd _ _ _ _ _ _ _; refine KEnd.fin (Or.inr rfl) ⟨_, (ResL.tmp rfl ResL.nil), ?_⟩))
    · exact ⟨by rw [decide_eq_false (fun e => hp (by rw [e]))]; rfl, H⟩
    · refine KLoop.again (k + 1) ⟨got_succ rfl (by omega), trivial⟩ ⟨rfl, rfl, rfl, trivial⟩ ⟨H, hlt, fun j hj => ?_⟩ (by omega)
      rcases Nat.lt_or_ge j k with h1 | h1
      · exact hall j h1
      · obtain rfl : j = k := by omega
        exact UInt8.toNat_inj.1 (by omega)
  ·
    obtain rfl : k = l.length := by omega
    have e : l = m := by
      apply List.ext_getElem? 
      intro i
      rcases Nat.lt_or_ge i l.length with h | h
      · rw [atD_get h, atD_get (by omega), hall i h]
      · rw [List.getElem?_eq_none h, List.getElem?_eq_none (by omega)]
    repeat' (first
      | (show VcL _ _ _ _ _ _ _ _; first
      | refine VcL.pures tabOk rfl ?_
      | refine VcL.nil ?_)
      | (show Vc _ _ _ _ _ _; first
      | refine Vc.seq ?_
      | refine Vc.region ?_
      | refine Vc.ret ?_
      | refine Vc.exit ?_
      | (refine Vc.cond rfl (fun h => ?_) (fun h => ?_) <;> first | (exfalso; simp only [decide_eq_true_eq, decide_eq_false_iff_not] at h; omega) | (with_reducible have hp := of_decide_eq_false h)))
      | (show KSeq _ _ _ _ _ _ _; first
      | refine KSeq.normal ?_
      | refine KSeq.exit ?_)
      | (show KBlock _ _ _ _ _ _; refine KBlock.here ?_)
      | refine KLoop.exit ?_
      | (show KEnd _ _ _ _ _ _ _; refine KEnd.fin (Or.inr rfl) ⟨_, (ResL.tmp rfl ResL.nil), ?_⟩))
    exact ⟨by rw [decide_eq_true e]; rfl, H⟩
end Go.Proofs.Ytkeapkmjkmbdpaa.V
