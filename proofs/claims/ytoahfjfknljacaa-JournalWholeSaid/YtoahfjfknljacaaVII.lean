/- Puts. -/
import Derived.Test.YtoahfjfknljacaaVHH
namespace Go.Proofs.Ytoahfjfknljacaa.V
open Go Go.Proofs.YtoahfjfknljacaaV
set_option linter.unusedVariables false
set_option linter.unusedSimpArgs false
set_option maxHeartbeats 1000000
set_option maxRecDepth 4000
attribute [local irreducible] IntKind.wrap
variable {I : Imm} {w : World} {L : List Asn}
/-- A put. -/
structure Pu where mk ::
  what : Int
  num : Int
  blocks : SlD Int
  byte : Int
  done : SlD Bool
instance : Inhabited Pu := ⟨⟨0, 0, (none, 0, []), 0, (none, 0, [])⟩⟩
def puC (p : Pu) : List Value := [.int .i64 p.what, .int .i64 p.num, SlD.v p.blocks, .int .u8 p.byte, SlD.v p.done]
theorem puC_len (p : Pu) : (puC p).length = 5 := rfl
structure PuOk (I : Imm) (p : Pu) : Prop where
  num : in64 p.num
  byte : 0 ≤ p.byte ∧ p.byte < 256
  blocks : SlI I (SlD.v p.blocks) 1 p.blocks.2.2.length (p.blocks.2.2.flatMap inC)
  bLen : p.blocks.2.2.length ≤ 140737488355328
  done : SlI I (SlD.v p.done) 1 p.done.2.2.length (p.done.2.2.flatMap boC)
  dLen : p.done.2.2.length ≤ 140737488355328
theorem PuOk.mono {I J : Imm} {p : Pu} (h : PuOk I p) (hl : Imm.Le I J) : PuOk J p := ⟨h.num, h.byte, h.blocks.mono hl, h.bLen, h.done.mono hl, h.dLen⟩
def bigP (p : Pu) : Bool := decide (60 < p.blocks.2.2.length) || decide (300 < p.done.2.2.length)
def longP (l : List Pu) : Bool := (l.any bigP) || decide (40 < l.length)
theorem LongPuts_any (H : Holds I w L) {v : Value} {l : List Pu} (hv : SlR I L v 5 l.length (l.flatMap puC)) (hl : l.length ≤ 140737488355328) :
    Rets Try.prog F_tithinglaw16_LongPuts #[v] w fun u w' => u = .bool (longP l) ∧ Holds I w' L := by
  obtain ⟨A, cap, rfl, hcap⟩ := hv.form
  refine ok_tithinglaw16_LongPuts.rets rfl ?_
  repeat' (first
    | (show VcL _ _ _ _ _ _ _ _; first
      | refine VcL.pures tabOk rfl ?_
      | refine VcL.nil ?_)
    | (show Vc _ _ _ _ _ _; first
      | refine Vc.seq ?_
      | refine Vc.region ?_
      | refine Vc.block ?_)
    | (show KSeq _ _ _ _ _ _ _; refine KSeq.normal ?_))
  refine Vc.loopS [(0, _)] (fun k : Nat => [(3, .int .i64 k)]) (fun k w => Holds I w L ∧ k ≤ l.length ∧ ((l.take k).any bigP) = false) (fun k _ => l.length - k) 0 ⟨rfl, trivial⟩ ⟨rfl, trivial⟩ ⟨H, Nat.zero_le _, rfl⟩ ?_
  rintro k w ⟨H, hk, hall⟩
  by_cases hlt : k < l.length
  · obtain ⟨b1, o1, rfl, hr1⟩ := hv.at (by omega)
    have hr1 := hr1.elem puC_len (atD_get hlt)
    obtain ⟨a, hat⟩ : ∃ a, atD l k = a := ⟨_, rfl⟩
    have hmem := atD_mem hlt
    rw [hat] at hr1 hmem
    have hany := any_take (p := bigP) hlt
    rw [hall, hat, Bool.false_or] at hany
    obtain ⟨what, num, ⟨A2, cap2, blocks⟩, byte, ⟨A3, cap3, done⟩⟩ := a
    have hr1 : RdW I L b1 (o1 + k * 5) [.int .i64 what, .int .i64 num, .slice A2 blocks.length cap2, .int .u8 byte, .slice A3 done.length cap3] := hr1
    repeat' (first
      | (show VcL _ _ _ _ _ _ _ _; first
      | refine VcL.pures tabOk rfl ?_
      | refine VcL.nil ?_
      | (show VcL _ _ _ _ (⟨_, .load _ _, _, _, _, _⟩ :: _) _ _ _; refine VcL.load1 tabOk rfl rfl rfl rfl rfl (by exact RdW.get (by assumption) rfl H) ?_)
      | (show VcL _ _ _ _ (⟨_, .indexAddr _ _ _, _, _, _, _⟩ :: _) _ _ _; refine VcL.indexAddr tabOk rfl rfl rfl rfl rfl rfl (by omega) (by omega) ?_)
      | (refine VcL.guard rfl rfl rfl rfl (fun h => ?_) (fun h => ?_) <;> first | (with_reducible have hp := of_decide_eq_true h) | (with_reducible have hp := of_decide_eq_false h)))
      | (show Vc _ _ _ _ _ _; first
      | refine Vc.seq ?_
      | refine Vc.region ?_
      | refine Vc.condT rfl ?_
      | refine Vc.ret ?_
      | refine Vc.skip ?_
      | refine Vc.block ?_
      | (refine Vc.cond rfl (fun h => ?_) (fun h => ?_) <;> first | (exfalso; simp only [decide_eq_true_eq, decide_eq_false_iff_not, Bool.not_eq_true', Bool.not_eq_false'] at h; omega) | (with_reducible have hp := of_decide_eq_true h) | (with_reducible have hp := of_decide_eq_false h)))
      | (show KSeq _ _ _ _ _ _ _; first
      | refine KSeq.normal ?_
      | refine KSeq.ret ?_)
      | (show KBlock _ _ _ _ _ _; first
      | refine KBlock.normal ?_
      | refine KBlock.ret ?_)
      | refine KLoop.ret ?_
      | (show KEnd _ _ _ _ _ _ _; refine KEnd.fin (Or.inr rfl) ⟨_, (ResL.tmp rfl ResL.nil), ?_⟩))
    · refine ⟨?_, H⟩
      have : longP l = true := by
        unfold longP
        rw [Bool.or_eq_true, List.any_eq_true]
        refine .inl ⟨_, hmem, ?_⟩
        show (decide (60 < blocks.length) || decide (300 < done.length)) = true
        rw [Bool.or_eq_true]
        first | exact .inl (decide_eq_true (by omega)) | exact .inr (decide_eq_true (by omega))
      rw [this]
      rfl
    · refine ⟨?_, H⟩
      have : longP l = true := by
        unfold longP
        rw [Bool.or_eq_true, List.any_eq_true]
        refine .inl ⟨_, hmem, ?_⟩
        show (decide (60 < blocks.length) || decide (300 < done.length)) = true
        rw [Bool.or_eq_true]
        first | exact .inl (decide_eq_true (by omega)) | exact .inr (decide_eq_true (by omega))
      rw [this]
      rfl
    · refine KLoop.again (k + 1) ⟨got_succ rfl (by omega), trivial⟩ ⟨rfl, trivial⟩ ⟨H, hlt, ?_⟩ (by omega)
      rw [hany]
      show (decide (60 < blocks.length) || decide (300 < done.length)) = false
      rw [decide_eq_false (by omega), decide_eq_false (by omega)]
      rfl
  · obtain rfl : k = l.length := by omega
    rw [List.take_length] at hall
    repeat' (first
      | (show VcL _ _ _ _ _ _ _ _; first
      | refine VcL.pures tabOk rfl ?_
      | refine VcL.nil ?_)
      | (show Vc _ _ _ _ _ _; first
      | refine Vc.seq ?_
      | refine Vc.region ?_
      | refine Vc.ret ?_
      | refine Vc.exit ?_
      | (refine Vc.cond rfl (fun h => ?_) (fun h => ?_) <;> first | (exfalso; simp only [decide_eq_true_eq, decide_eq_false_iff_not, Bool.not_eq_true', Bool.not_eq_false'] at h; omega) | (with_reducible have hp := of_decide_eq_false h)))
      | (show KSeq _ _ _ _ _ _ _; first
      | refine KSeq.normal ?_
      | refine KSeq.exit ?_)
      | (show KBlock _ _ _ _ _ _; refine KBlock.here ?_)
      | refine KLoop.exit ?_
      | (show KEnd _ _ _ _ _ _ _; refine KEnd.fin (Or.inr rfl) ⟨_, (ResL.tmp rfl ResL.nil), ?_⟩))
    refine ⟨?_, H⟩
    unfold longP
    rw [hall, Bool.false_or]
    show Value.bool (decide ((40 : Int) < l.length)) = _
    congr 1
    exact decide_eq_decide.2 (by omega)
def putB (c : UInt8) (i : Nat) : By := (fullB c).set 1 (UInt8.ofNat (i % 256))
def putL (c : UInt8) (bs : List Int) : Ws := (List.range bs.length).map fun i => (atD bs i, putB c i)
def puB (p : Pu) : UInt8 := UInt8.ofNat p.byte.toNat
def putW (p : Pu) : Ws := putL (puB p) p.blocks.2.2
theorem putB_len (c : UInt8) (i : Nat) : (putB c i).length = 256 := by unfold putB; simp [fullB]
theorem putL_len (c : UInt8) (bs : List Int) : (putL c bs).length = bs.length := by unfold putL; simp
theorem putL_at {c : UInt8} {bs : List Int} {i : Nat} (hi : i < bs.length) : atD (putL c bs) i = (atD bs i, putB c i) := atD_of (by unfold putL; rw [List.getElem?_map, List.getElem?_range hi]; rfl)
theorem writes_any (H : Holds I w L) {p : Pu} (hp1 : PuOk I p) (hs : p.blocks.2.2.length ≤ 60) :
    Rets Try.prog F_tithinglaw16_writes #[.agg (puC p).toArray] w fun u w' => ∃ wl : Wl, wsOf wl = putW p ∧ Holds I w' (own u 86 2 wl.length (wl.flatMap wrC) :: bysA (wl.map (·.2)) :: L) := by
  have hbl := hp1.blocks
  have hby := hp1.byte
  obtain ⟨c, hc⟩ : ∃ c, puB p = c := ⟨_, rfl⟩
  have hput : putW p = putL c p.blocks.2.2 := by rw [← hc]; rfl
  have hB : Value.int .u8 p.byte = byteV c := by
    rw [← hc, puB, u8_of _ (by omega)]
    congr 1
    omega
  rw [hput]
  clear hput hp1 hby hc
  obtain ⟨what, num, ⟨A2, cap2, bs⟩, byte, ⟨A3, cap3, done⟩⟩ := p
  dsimp only at hbl hs hB ⊢
  have hbl : SlI I (.slice A2 bs.length cap2) 1 bs.length (bs.flatMap inC) := hbl
  show Rets Try.prog F_tithinglaw16_writes #[.agg #[.int .i64 what, .int .i64 num, .slice A2 bs.length cap2, .int .u8 byte, .slice A3 done.length cap3]] w _
  rw [hB]
  refine ok_tithinglaw16_writes.rets rfl ?_
  repeat' (first
    | (show VcL _ _ _ _ _ _ _ _; first
      | refine VcL.pures tabOk rfl ?_
      | refine VcL.nil ?_
      | refine VcL.box H rfl rfl rfl rfl rfl (fun b w H => ?_))
    | (show Vc _ _ _ _ _ _; first
      | refine Vc.seq ?_
      | refine Vc.region ?_
      | refine Vc.block ?_)
    | (show KSeq _ _ _ _ _ _ _; refine KSeq.normal ?_))
  refine Vc.loopS [(1, _)] (fun s : Nat × Value => [(3, s.2), (4, .int .i64 s.1)]) (fun s w => s.1 ≤ bs.length ∧ ∃ wl : Wl, wl.length = s.1 ∧ wsOf wl = (putL c bs).take s.1 ∧ Holds I w (own s.2 86 2 s.1 (wl.flatMap wrC) :: bysA (wl.map (·.2)) :: blk b 55 [.int .i64 what, .int .i64 num, .slice A2 bs.length cap2, byteV c, .slice A3 done.length cap3] :: L)) (fun s _ => bs.length - s.1) (0, .slice none 0 0) ⟨rfl, rfl, trivial⟩ ⟨rfl, trivial⟩ ⟨Nat.zero_le _, [], rfl, rfl, (bys_nil.2 H).own_nil⟩ ?_
  rintro ⟨k, ov⟩ w ⟨hk, wl, hwl, hwe, H⟩
  dsimp only at hk hwl hwe H ⊢
  by_cases hlt : k < bs.length
  · obtain ⟨b1, o1, rfl, hr1⟩ := hbl.toR.at (L := L) (by omega)
    have hr1 := hr1.elem inC_len (atD_get hlt)
    obtain ⟨n, hn⟩ : ∃ n, atD bs k = n := ⟨_, rfl⟩
    rw [hn] at hr1
    have hr1 : RdW I (blk b 55 [.int .i64 what, .int .i64 num, .slice (some ⟨b1, o1, none⟩) bs.length cap2, byteV c, .slice A3 done.length cap3] :: L) b1 (o1 + k * 1) [.int .i64 n] := hr1.up
    have hkv : Value.int .u8 (IntKind.u8.wrap (k : Nat)) = byteV (UInt8.ofNat (k % 256)) := by
      rw [u8_of _ (by omega), wrap_u8]
      congr 1
    have hz : (fullB c)[1]? = some (atD (fullB c) 1) := atD_get (by rw [fullB_len]; omega)
    obtain ⟨x, hx⟩ : ∃ x, UInt8.ofNat (k % 256) = x := ⟨_, rfl⟩
    obtain ⟨pb, hpb⟩ : ∃ pb, putB c k = pb := ⟨_, rfl⟩
    have hset : (fullB c).set 1 x = pb := by rw [← hx]; exact hpb
    have hpl : pb.length = 256 := by rw [← hpb]; exact putB_len _ _
    rw [hx] at hkv
    have htk : (putL c bs).take (k + 1) = (putL c bs).take k ++ [(n, pb)] := by
      rw [take_atD (by rw [putL_len]; exact hlt), putL_at hlt, hn, hpb]
    repeat' (first
      | rw [hkv]
      | (refine VcL.storeOwn0 (k := 1) x tabOk byC_len H hz rfl rfl (by exact rfl) (by exact rfl) (by exact rfl) (by exact rfl) rfl rfl (fun w H => ?_); rw [hset, byL_flat] at H)
      | (refine VcL.append (m := 1) (ds := wrC (n, (.slice (some ⟨bf, of, none⟩) 256 cf, pb))) tabOk rfl rfl rfl rfl (Holds.f2 H) (Holds.own_src H) (wrC_one _ rfl) (by show (_ + 1) * 32 ≤ _; omega) rfl rfl rfl (fun ov2 w H => ?_))
      | (show VcL _ _ _ _ _ _ _ _; first
      | refine VcL.pures tabOk rfl ?_
      | refine VcL.nil ?_
      | (show VcL _ _ _ _ (⟨_, .load _ _, _, _, _, _⟩ :: _) _ _ _; refine VcL.load1 tabOk rfl rfl rfl rfl rfl (by first | exact Holds.cell (Holds.f2 H) rfl | exact Holds.cell (Holds.f3 H) rfl | exact RdW.get0 (by assumption) rfl (Holds.drop (Holds.drop (Holds.drop H)))) ?_)
      | (show VcL _ _ _ _ (⟨_, .indexAddr _ _ _, _, _, _, _⟩ :: _) _ _ _; refine VcL.indexAddr tabOk rfl rfl rfl rfl rfl rfl (by omega) (by omega) ?_)
      | refine VcL.buildSlice tabOk H rfl rfl rfl rfl rfl rfl (fun sv w H => ?_)
      | (show VcL _ _ _ _ (⟨_, .call ⟨.value (.func F_tithinglaw16_Full), _, _⟩, _, _, _, _⟩ :: _) _ _ _; (refine VcL.callF ok_tithinglaw16_Full rfl rfl rfl rfl (Rets.mono (Full_any H c) ?_); rintro _ w H; rw [← byL_flat] at H; obtain ⟨bf, of, cf, rfl, hcf⟩ := Holds.own_some (by omega) H)))
      | (show Vc _ _ _ _ _ _; first
      | refine Vc.seq ?_
      | refine Vc.region ?_
      | refine Vc.skip ?_
      | refine Vc.block ?_
      | (refine Vc.cond rfl (fun h => ?_) (fun h => ?_) <;> first | (exfalso; simp only [decide_eq_true_eq, decide_eq_false_iff_not, Bool.not_eq_true', Bool.not_eq_false'] at h; omega) | (with_reducible have hp := of_decide_eq_true h)))
      | (show KSeq _ _ _ _ _ _ _; refine KSeq.normal ?_)
      | (show KBlock _ _ _ _ _ _; refine KBlock.normal ?_))
    refine KLoop.again (k + 1, ov2) ⟨rfl, got_succ rfl (by omega), trivial⟩ ⟨rfl, trivial⟩ ⟨hlt, wl ++ [(n, (.slice (some ⟨bf, of, none⟩) 256 cf, pb))], ?_, ?_, ?_⟩ (by show _ < _; omega)
    · rw [List.length_append, hwl]; rfl
    · rw [htk, ← hwe]; unfold wsOf; rw [List.map_append]; rfl
    · rw [flat_snoc, List.map_append]
      exact Holds.swap (bys_snoc (y := (.slice (some ⟨bf, of, none⟩) 256 cf, pb)) (by
        show Holds I w (own _ _ 1 pb.length _ :: _)
        rw [hpl]
        exact Holds.re [1, 1] (Holds.drop1 H) rfl))
  · obtain rfl : k = bs.length := by omega
    repeat' (first
      | (show VcL _ _ _ _ _ _ _ _; first
      | refine VcL.pures tabOk rfl ?_
      | refine VcL.nil ?_
      | (show VcL _ _ _ _ (⟨_, .load _ _, _, _, _, _⟩ :: _) _ _ _; refine VcL.load1 tabOk rfl rfl rfl rfl rfl (by exact Holds.cell (Holds.f2 H) rfl) ?_))
      | (show Vc _ _ _ _ _ _; first
      | refine Vc.seq ?_
      | refine Vc.region ?_
      | refine Vc.ret ?_
      | refine Vc.exit ?_
      | (refine Vc.cond rfl (fun h => ?_) (fun h => ?_) <;> first | (exfalso; simp only [decide_eq_true_eq, decide_eq_false_iff_not, Bool.not_eq_true', Bool.not_eq_false'] at h; omega) | (with_reducible have hp := of_decide_eq_false h)))
      | (show KSeq _ _ _ _ _ _ _; first
      | refine KSeq.normal ?_
      | refine KSeq.exit ?_)
      | (show KBlock _ _ _ _ _ _; refine KBlock.here ?_)
      | refine KLoop.exit ?_
      | (show KEnd _ _ _ _ _ _ _; refine KEnd.fin (Or.inr rfl) ⟨_, (ResL.tmp rfl ResL.nil), ?_⟩))
    refine ⟨wl, by rw [hwe, ← putL_len c bs, List.take_length], ?_⟩
    rw [hwl]
    exact Holds.drop2 H
theorem reads_any {d r s t ho : Nat} {dead : Bool} {D : Dk} (H : Holds I w (dskA d D :: blk s 82 (stV d (ho : Nat) dead) :: rdkA I r D :: blk t 97 (stV r (ho : Nat) dead) :: L)) (hw : D.writes + 10 < 2 ^ 40) (hh : ho ≤ D.blocks.length) :
    Rets Try.prog F_tithinglaw16_reads #[ptr s, ptr t] w fun u w' => u = .bool true ∧ Holds I w' (dskA d D :: blk s 82 (stV d (ho : Nat) dead) :: rdkA I r D :: blk t 97 (stV r (ho : Nat) dead) :: L) := by
  have hok := dsk_ok H
  have hfew := hok.few
  refine ok_tithinglaw16_reads.rets rfl ?_
  repeat' (first
    | (show VcL _ _ _ _ _ _ _ _; first
      | refine VcL.pures tabOk rfl ?_
      | refine VcL.nil ?_)
    | (show Vc _ _ _ _ _ _; first
      | refine Vc.seq ?_
      | refine Vc.region ?_
      | refine Vc.block ?_)
    | (show KSeq _ _ _ _ _ _ _; refine KSeq.normal ?_))
  refine Vc.loopS [(0, _), (1, _)] (fun k : Nat => [(5, .int .i64 ((k : Int) - 1))]) (fun k w => k ≤ ho + 2 ∧ Holds I w (dskA d D :: blk s 82 (stV d (ho : Nat) dead) :: rdkA I r D :: blk t 97 (stV r (ho : Nat) dead) :: L)) (fun k _ => ho + 2 - k) 0 ⟨rfl, trivial⟩ ⟨rfl, rfl, trivial⟩ ⟨Nat.zero_le _, H⟩ ?_
  clear H
  rintro k w ⟨hk, H⟩
  by_cases hlt : k < ho + 2
  · obtain ⟨rd, hrd⟩ : ∃ rd, srdS D ho dead ((k : Int) - 1) = rd := ⟨_, rfl⟩
    have hnx : IntKind.i64.wrap ((k : Int) - 1 + 1) = ((k + 1 : Nat) : Int) - 1 := by rw [wrap_i64 (by omega) (by omega)]; omega
    repeat' (first
      | (refine VcL.ofBytes (m := rd.1.length) (bs := rd.1) tabOk rfl rfl rfl rfl rfl rfl rfl (by first | exact Holds.own_src H | exact Holds.own_src (Holds.f3 H)) ⟨_, _, rfl⟩ rfl rfl rfl ?_)
      | rw [str_rule]
      | (show VcL _ _ _ _ _ _ _ _; first
      | refine VcL.pures tabOk rfl ?_
      | refine VcL.nil ?_
      | (show VcL _ _ _ _ (⟨_, .load _ _, _, _, _, _⟩ :: _) _ _ _; refine VcL.load1 tabOk rfl rfl rfl rfl rfl (by exact Holds.cell (Holds.f3 H) rfl) ?_)
      | (show VcL _ _ _ _ (⟨_, .call ⟨.value (.func F_journal_Store_Read), _, _⟩, _, _, _, _⟩ :: _) _ _ _; (refine VcL.callF ok_journal_Store_Read rfl rfl rfl rfl (Rets.mono (SRead_any (D := D) (ho := ho) (dead := dead) H Holds.toW (by omega) hh ((k : Int) - 1)) ?_); rintro _ w ⟨uv, rfl, H⟩; rw [hrd] at H ⊢; obtain ⟨_, A7, c7, rfl⟩ := Holds.own_len H))
      | (show VcL _ _ _ _ (⟨_, .call ⟨.value (.func F_tithingref16_Store_Read), _, _⟩, _, _, _, _⟩ :: _) _ _ _; (refine VcL.callF ok_tithingref16_Store_Read rfl rfl rfl rfl (Rets.mono (SReadR_any (D := D) (ho := ho) (dead := dead) (Holds.re [3, 3] H rfl) Holds.toW (by omega) hh ((k : Int) - 1)) ?_); rintro _ w ⟨uv, rfl, H⟩; rw [hrd] at H ⊢; obtain ⟨_, A8, c8, rfl⟩ := Holds.own_len H))
      | (refine VcL.guard rfl rfl rfl rfl (fun h => ?_) (fun h => ?_) <;> first | (cases h; done) | skip))
      | (show Vc _ _ _ _ _ _; first
      | refine Vc.seq ?_
      | refine Vc.region ?_
      | refine Vc.ret ?_
      | refine Vc.skip ?_
      | refine Vc.block ?_
      | (refine Vc.cond rfl (fun h => ?_) (fun h => ?_) <;> first | (exfalso; simp only [decide_eq_true_eq, decide_eq_false_iff_not, Bool.not_eq_true', Bool.not_eq_false'] at h; omega) | (with_reducible have hp := of_decide_eq_true h) | (with_reducible have hp := ndec_t h) | (with_reducible have hp := ndec_f h)))
      | (show KSeq _ _ _ _ _ _ _; first
      | refine KSeq.normal ?_
      | refine KSeq.ret ?_)
      | (show KBlock _ _ _ _ _ _; first
      | refine KBlock.normal ?_
      | refine KBlock.ret ?_)
      | refine KLoop.ret ?_
      | (show KEnd _ _ _ _ _ _ _; refine KEnd.fin (Or.inr rfl) ⟨_, (ResL.tmp rfl ResL.nil), ?_⟩))
    · exact absurd rfl hp
    · refine KLoop.again (k + 1) ⟨congrArg (fun x => some (Value.int .i64 x)) hnx, trivial⟩ ⟨rfl, rfl, trivial⟩ ⟨hlt, Holds.drop4 (Holds.drop4 (Holds.re [4, 4, 1, 1] H rfl))⟩ (by omega)
  · obtain rfl : k = ho + 2 := by omega
    have e1 : decide ((ho : Int) = ho) = true := decide_eq_true rfl
    repeat' (first
      | rw [e1]
      | (show VcL _ _ _ _ _ _ _ _; first
      | refine VcL.pures tabOk rfl ?_
      | refine VcL.nil ?_
      | (show VcL _ _ _ _ (⟨_, .load _ _, _, _, _, _⟩ :: _) _ _ _; refine VcL.load1 tabOk rfl rfl rfl rfl rfl (by exact Holds.cell (Holds.f3 H) rfl) ?_))
      | (show VcD _ _ _ _ _ _ _ _ _; first
      | refine VcD.pures tabOk rfl ?_
      | refine VcD.done ?_
      | (show VcD _ _ _ _ _ (.pure _ _) _ _ _; (refine VcD.guardP rfl rfl rfl rfl rfl (fun h => ?_) (fun h => ?_) <;> first | (cases h; done) | skip))
      | (show VcD _ _ _ _ _ (.take _ _) _ _ _; refine VcD.load1 tabOk rfl rfl rfl rfl rfl rfl (by intro w_ hw_; exact hw_ _ _ rfl) (by exact rfl) ?_)
      | (show VcD _ _ _ _ _ (.only _ _) _ _ _; first
      | (refine VcD.callF (f := F_journal_Store_Home) rfl ok_journal_Store_Home rfl rfl rfl rfl (Rets.mono (HomeP_any (d := d) (h := (ho : Nat)) (dead := dead) (Holds.f1 H) Holds.toW) ?_); rintro _ w ⟨rfl, H⟩; refine ⟨(by exact Holds.rdWhole (Holds.f3 H)), ?_⟩)
      | (refine VcD.callF (f := F_journal_Store_Disk) rfl ok_journal_Store_Disk rfl rfl rfl rfl (Rets.mono (DiskP_any (d := d) (h := (ho : Nat)) (dead := dead) H Holds.toW) ?_); rintro _ w ⟨rfl, H⟩; refine ⟨(by exact Holds.rdWhole (Holds.f3 H)), ?_⟩)))
      | (show Vc _ _ _ _ _ _; first
      | refine Vc.seq ?_
      | refine Vc.region ?_
      | refine Vc.ret ?_
      | refine Vc.exit ?_
      | (refine Vc.drawn (id := 8) (.pure 0 (.pure 2 (.pure 3 (.pure 4 (.take 5 (.only 1 (.pure 6 (.pure 7 (.pure 8 (.only 9 (.pure 10 (.pure 11 (.pure 12 .done))))))))))))) (.one (fun w => Rd w t 0 (stV r (ho : Nat) dead))) mixed (by kernel_rfl) (by exact Holds.rdWhole (Holds.f3 (Holds.drew H _))) ?_; have H := H.drew (w.drawn + 1))
      | (refine Vc.cond rfl (fun h => ?_) (fun h => ?_) <;> first | (exfalso; simp only [decide_eq_true_eq, decide_eq_false_iff_not, Bool.not_eq_true', Bool.not_eq_false'] at h; omega) | (with_reducible have hp := of_decide_eq_false h)))
      | (show KSeq _ _ _ _ _ _ _; first
      | refine KSeq.normal ?_
      | refine KSeq.exit ?_)
      | (show KBlock _ _ _ _ _ _; refine KBlock.here ?_)
      | refine KLoop.exit ?_
      | (show KEnd _ _ _ _ _ _ _; refine KEnd.fin (Or.inr rfl) ⟨_, (ResL.tmp rfl ResL.nil), ?_⟩))
    exact ⟨by simp [resVal], H.swap⟩
end Go.Proofs.Ytoahfjfknljacaa.V
