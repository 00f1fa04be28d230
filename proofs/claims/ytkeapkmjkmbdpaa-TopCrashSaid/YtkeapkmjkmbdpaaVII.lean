/- Puts. -/
import Derived.Test.YtkeapkmjkmbdpaaVHH
namespace Go.Proofs.Ytkeapkmjkmbdpaa.V
open Go Go.Proofs.YtkeapkmjkmbdpaaV
set_option linter.unusedVariables false
set_option linter.unusedSimpArgs false
set_option maxHeartbeats 1000000
set_option maxRecDepth 4000
attribute [local irreducible] IntKind.wrap
variable {I : Imm} {w : World} {L : List Asn}
/-- A put. -/
structure Pu where mk ::
  what : Int
  num : Int
  blocks : SlD Int
  byte : Int
  done : SlD Bool
instance : Inhabited Pu := ⟨⟨0, 0, (none, 0, []), 0, (none, 0, [])⟩⟩
def puC (p : Pu) : List Value := [.int .i64 p.what, .int .i64 p.num, SlD.v p.blocks, .int .u8 p.byte, SlD.v p.done]
theorem puC_len (p : Pu) : (puC p).length = 5 := rfl
structure PuOk (I : Imm) (p : Pu) : Prop where
  num : in64 p.num
  byte : 0 ≤ p.byte ∧ p.byte < 256
  blocks : SlI I (SlD.v p.blocks) 1 p.blocks.2.2.length (p.blocks.2.2.flatMap inC)
  bLen : p.blocks.2.2.length ≤ 140737488355328
  done : SlI I (SlD.v p.done) 1 p.done.2.2.length (p.done.2.2.flatMap boC)
  dLen : p.done.2.2.length ≤ 140737488355328
theorem PuOk.mono {I J : Imm} {p : Pu} (h : PuOk I p) (hl : Imm.Le I J) : PuOk J p := ⟨h.num, h.byte, h.blocks.mono hl, h.bLen, h.done.mono hl, h.dLen⟩
def bigP (p : Pu) : Bool := decide (60 < p.blocks.2.2.length) || decide (300 < p.done.2.2.length)
def longP (l : List Pu) : Bool := (l.any bigP) || decide (40 < l.length)
theorem LongPuts_any (H : Holds I w L) {v : Value} {l : List Pu} (hv : SlR I L v 5 l.length (l.flatMap puC)) (hl : l.length ≤ 140737488355328) :
    Rets Try.prog F_tithinglaw16_LongPuts #[v] w fun u w' => u = .bool (longP l) ∧ Holds I w' L := by
  obtain ⟨A, cap, rfl, hcap⟩ := hv.form
  refine ok_tithinglaw16_LongPuts.rets rfl ?_
  repeat' (first
    | (show VcL _ _ _ _ _ _ _ _; first
      | refine VcL.pures tabOk rfl ?_
      | refine VcL.nil ?_)
    | (show Vc _ _ _ _ _ _; first
      | refine Vc.seq ?_
      | refine Vc.region ?_
      | refine Vc.block ?_)
    | (show KSeq _ _ _ _ _ _ _; refine KSeq.normal ?_))
  refine Vc.loopS [(0, _)] (fun k : Nat => [(3, .int .i64 k)]) (fun k w => Holds I w L ∧ k ≤ l.length ∧ ((l.take k).any bigP) = false) (fun k _ => l.length - k) 0 ⟨rfl, trivial⟩ ⟨rfl, trivial⟩ ⟨H, Nat.zero_le _, rfl⟩ ?_
  rintro k w ⟨H, hk, hall⟩
  by_cases hlt : k < l.length
  · obtain ⟨b1, o1, rfl, hr1⟩ := hv.at (by omega)
    have hr1 := hr1.elem puC_len (atD_get hlt)
    obtain ⟨a, hat⟩ : ∃ a, atD l k = a := ⟨_, rfl⟩
    have hmem := atD_mem hlt
    rw [hat] at hr1 hmem
    have hany := any_take (p := bigP) hlt
    rw [hall, hat, Bool.false_or] at hany
    obtain ⟨what, num, ⟨A2, cap2, blocks⟩, byte, ⟨A3, cap3, done⟩⟩ := a
    have hr1 : RdW I L b1 (o1 + k * 5) [.int .i64 what, .int .i64 num, .slice A2 blocks.length cap2, .int .u8 byte, .slice A3 done.length cap3] := hr1
    repeat' (first
      | (show VcL _ _ _ _ _ _ _ _; first
      | refine VcL.pures tabOk rfl ?_
      | refine VcL.nil ?_
      | (show VcL _ _ _ _ (⟨_, .load _ _, _, _, _, _⟩ :: _) _ _ _; refine VcL.load1 tabOk rfl rfl rfl rfl rfl (by exact RdW.get (by assumption) rfl H) ?_)
      | (show VcL _ _ _ _ (⟨_, .indexAddr _ _ _, _, _, _, _⟩ :: _) _ _ _; refine VcL.indexAddr tabOk rfl rfl rfl rfl rfl rfl (by omega) (by omega) ?_)
      | (refine VcL.guard rfl rfl rfl rfl (fun h => ?_) (fun h => ?_) <;> first | (with_reducible have hp := of_decide_eq_true h) | (with_reducible have hp := of_decide_eq_false h)))
      | (show Vc _ _ _ _ _ _; first
      | refine Vc.seq ?_
      | refine Vc.region ?_
      | refine Vc.condT rfl ?_
      | refine Vc.ret ?_
      | refine Vc.skip ?_
      | refine Vc.block ?_
      | (refine Vc.cond rfl (fun h => ?_) (fun h => ?_) <;> first | (exfalso; simp only [decide_eq_true_eq, decide_eq_false_iff_not, Bool.not_eq_true', Bool.not_eq_false'] at h; omega) | (with_reducible have hp := of_decide_eq_true h) | (with_reducible have hp := of_decide_eq_false h)))
      | (show KSeq _ _ _ _ _ _ _; first
      | refine KSeq.normal ?_
      | refine KSeq.ret ?_)
      | (show KBlock _ _ _ _ _ _; first
      | refine KBlock.normal ?_
      | refine KBlock.ret ?_)
      | refine KLoop.ret ?_
      | (show KEnd _ _ _ _ _ _ _; refine KEnd.fin (Or.inr rfl) ⟨_, (ResL.tmp rfl ResL.nil), ?_⟩))
    · refine ⟨?_, H⟩
      have : longP l = true := by
        unfold longP
        rw [Bool.or_eq_true, List.any_eq_true]
        refine .inl ⟨_, hmem, ?_⟩
        show (decide (60 < blocks.length) || decide (300 < done.length)) = true
        rw [Bool.or_eq_true]
        first | exact .inl (decide_eq_true (by omega)) | exact .inr (decide_eq_true (by omega))
      rw [this]
      rfl
    · refine ⟨?_, H⟩
      have : longP l = true := by
        unfold longP
        rw [Bool.or_eq_true, List.any_eq_true]
        refine .inl ⟨_, hmem, ?_⟩
        show (decide (60 < blocks.length) || decide (300 < done.length)) = true
        rw [Bool.or_eq_true]
        first | exact .inl (decide_eq_true (by omega)) | exact .inr (decide_eq_true (by omega))
      rw [this]
      rfl
    · refine KLoop.again (k + 1) ⟨got_succ rfl (by omega), trivial⟩ ⟨rfl, trivial⟩ ⟨H, hlt, ?_⟩ (by omega)
      rw [hany]
      show (decide (60 < blocks.length) || decide (300 < done.length)) = false
      rw [decide_eq_false (by omega), decide_eq_false (by omega)]
      rfl
  · obtain rfl : k = l.length := by omega
    rw [List.take_length] at hall
    repeat' (first
      | (show VcL _ _ _ _ _ _ _ _; first
      | refine VcL.pures tabOk rfl ?_
      | refine VcL.nil ?_)
      | (show Vc _ _ _ _ _ _; first
      | refine Vc.seq ?_
      | refine Vc.region ?_
      | refine Vc.ret ?_
      | refine Vc.exit ?_
      | (refine Vc.cond rfl (fun h => ?_) (fun h => ?_) <;> first | (exfalso; simp only [decide_eq_true_eq, decide_eq_false_iff_not, Bool.not_eq_true', Bool.not_eq_false'] at h; omega) | (with_reducible have hp := of_decide_eq_false h)))
      | (show KSeq _ _ _ _ _ _ _; first
      | refine KSeq.normal ?_
      | refine KSeq.exit ?_)
      | (show KBlock _ _ _ _ _ _; refine KBlock.here ?_)
      | refine KLoop.exit ?_
      | (show KEnd _ _ _ _ _ _ _; refine KEnd.fin (Or.inr rfl) ⟨_, (ResL.tmp rfl ResL.nil), ?_⟩))
    refine ⟨?_, H⟩
    unfold longP
    rw [hall, Bool.false_or]
    show Value.bool (decide ((40 : Int) < l.length)) = _
    congr 1
    exact decide_eq_decide.2 (by omega)
def putB (c : UInt8) (i : Nat) : By := (fullB c).set 1 (UInt8.ofNat (i % 256))
def putL (c : UInt8) (bs : List Int) : Ws := (List.range bs.length).map fun i => (atD bs i, putB c i)
def puB (p : Pu) : UInt8 := UInt8.ofNat p.byte.toNat
def putW (p : Pu) : Ws := putL (puB p) p.blocks.2.2
theorem putB_len (c : UInt8) (i : Nat) : (putB c i).length = 256 := by unfold putB; simp [fullB]
theorem putL_len (c : UInt8) (bs : List Int) : (putL c bs).length = bs.length := by unfold putL; simp
theorem putL_at {c : UInt8} {bs : List Int} {i : Nat} (hi : i < bs.length) : atD (putL c bs) i = (atD bs i, putB c i) := atD_of (by unfold putL; rw [List.getElem?_map, List.getElem?_range hi]; rfl)
end Go.Proofs.Ytkeapkmjkmbdpaa.V
