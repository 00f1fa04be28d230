/- Deeds to both disks. -/
import Derived.Test.YtoahfjfknljacaaVCC
import Derived.Test.YtoahfjfknljacaaVcOpen
namespace Go.Proofs.Ytoahfjfknljacaa.V
open Go Go.Proofs.YtoahfjfknljacaaV
set_option linter.unusedVariables false
set_option linter.unusedSimpArgs false
set_option maxHeartbeats 1000000
set_option maxRecDepth 4000
attribute [local irreducible] IntKind.wrap
variable {I : Imm} {w : World} {L : List Asn}
/-- A deed. -/
structure Ac where mk ::
  what : Int
  block : Int
  num : Int
  byte : Int
  done : SlD Bool
  short : Bool
instance : Inhabited Ac := ⟨⟨0, 0, 0, 0, (none, 0, []), false⟩⟩
def acC (a : Ac) : List Value := [.int .i64 a.what, .int .i64 a.block, .int .i64 a.num, .int .u8 a.byte, SlD.v a.done, .bool a.short]
theorem acC_len (a : Ac) : (acC a).length = 6 := rfl
abbrev in64 (x : Int) : Prop := -9223372036854775808 ≤ x ∧ x ≤ 9223372036854775807
structure AcOk (I : Imm) (a : Ac) : Prop where
  block : in64 a.block
  num : in64 a.num
  byte : 0 ≤ a.byte ∧ a.byte < 256
  done : SlI I (SlD.v a.done) 1 a.done.2.2.length (a.done.2.2.flatMap boC)
  len : a.done.2.2.length ≤ 140737488355328
def acB (a : Ac) : UInt8 := UInt8.ofNat a.byte.toNat
def acN (a : Ac) : UInt8 := UInt8.ofNat (a.num % 256).toNat
def dataS (a : Ac) : By := if a.short then ((fullB (acB a)).set 1 (acN a)).drop 1 else (fullB (acB a)).set 0 (acN a)
def doS (D : Dk) (a : Ac) : Dk :=
  if a.what = 0 then (wrS D a.block (dataS a)).1 else if a.what = 1 then (flS D).1 else if a.what = 2 then (crS D a.done.2.2 a.num).1 else if a.what = 3 then stS D a.num else D
theorem crS_writes (D : Dk) (done : List Bool) (t : Int) : (crS D done t).1.writes = D.writes := by unfold crS; split <;> rfl
theorem doS_writes (D : Dk) (a : Ac) : (doS D a).writes ≤ D.writes + 1 := by
  unfold doS
  split
  · exact wrS_writes _ _ _
  · split
    · rw [flS_writes]; exact Nat.le_succ _
    · split
      · rw [crS_writes]; exact Nat.le_succ _
      · split <;> exact Nat.le_succ _
theorem over_at {pre rest : List Value} {l : By} {k : Nat} (hk : k < l.length) (x : UInt8) : over (pre ++ byL l ++ rest) (pre.length + k) [byteV x] = pre ++ byL (l.set k x) ++ rest := by
  unfold over byL
  rw [List.append_assoc pre (l.map byteV) rest, List.append_assoc (List.take _ _)]
  rw [List.take_length_add_append, List.take_append_of_le_length (by simp; omega)]
  rw [show pre.length + k + [byteV x].length = pre.length + (k + 1) from rfl, List.drop_length_add_append, List.drop_append_of_le_length (by simp; omega)]
  rw [List.map_set, List.set_eq_take_append_cons_drop, if_pos (by simpa using hk)]
  simp
theorem blk_sl {b e n cap : Nat} {pre cs rest : List Value} (hc : n ≤ cap) (hl : cs.length = n) : SlR I (blk b e (pre ++ cs ++ rest) :: L) (.slice (some ⟨b, pre.length, none⟩) n cap) 1 n cs :=
  ⟨_, cap, rfl, by omega, hc, (fun e => by cases e), fun a ha _ => ⟨b, pre.length, by injection ha with ha; exact ha.symm, ⟨fun w H => H.rd rfl⟩⟩⟩
theorem acB_v {a : Ac} (h : 0 ≤ a.byte ∧ a.byte < 256) : Value.int .u8 a.byte = byteV (acB a) := by
  unfold acB
  rw [u8_of _ (by omega)]
  congr 1
  omega
theorem acN_v (a : Ac) : Value.int .u8 (IntKind.u8.wrap a.num) = byteV (acN a) := by
  unfold acN
  rw [u8_of _ (by omega), wrap_u8]
  congr 1
  omega
theorem ReadP_any {d : Nat} {D : Dk} (H : Holds I w (dskA d D :: L)) (hw : D.writes < 2 ^ 40) (k : Int) :
    Rets Try.prog F_journal_Disk_Read #[ptr d, .int .i64 k] w fun u w' => ∃ uv, u = .tuple #[uv, .int .i64 (rdS D k).2] ∧ Holds I w' (own uv 5 1 (rdS D k).1.length (byL (rdS D k).1) :: dskA d D :: L) := by
  by_cases hk : 0 ≤ k ∧ k < D.blocks.length
  · have e : rdS D k = (rdB D k.toNat, 0) := if_pos hk
    rw [e]
    obtain ⟨n, rfl⟩ := Int.eq_ofNat_of_zero_le hk.1
    have hl := rdB_len (dsk_ok H) (show n < D.blocks.length by omega)
    exact (ReadP_good H hw (by omega)).mono fun u w' ⟨uv, h1, h2⟩ => ⟨uv, h1, by rw [← hl] at h2; exact h2⟩
  · have e : rdS D k = ([], 2) := if_neg hk
    rw [e]
    exact (ReadP_bad H hk).mono fun u w' ⟨h1, h2⟩ => ⟨_, h1, h2.own_nil⟩
theorem ReadR_any {d : Nat} {D : Dk} (H : Holds I w (rdkA I d D :: L)) (hw : D.writes < 2 ^ 40) (k : Int) :
    Rets Try.prog F_tithingref16_Disk_Read #[ptr d, .int .i64 k] w fun u w' => ∃ uv, u = .tuple #[uv, .int .i64 (rdS D k).2] ∧ Holds I w' (own uv 5 1 (rdS D k).1.length (byL (rdS D k).1) :: rdkA I d D :: L) := by
  by_cases hk : 0 ≤ k ∧ k < D.blocks.length
  · have e : rdS D k = (rdB D k.toNat, 0) := if_pos hk
    rw [e]
    obtain ⟨n, rfl⟩ := Int.eq_ofNat_of_zero_le hk.1
    have hl := rdB_len (rdk_ok H) (show n < D.blocks.length by omega)
    exact (ReadR_good H hw (by omega)).mono fun u w' ⟨uv, h1, h2⟩ => ⟨uv, h1, by rw [← hl] at h2; exact h2⟩
  · have e : rdS D k = ([], 2) := if_neg hk
    rw [e]
    exact (ReadR_bad H hk).mono fun u w' ⟨h1, h2⟩ => ⟨_, h1, h2.own_nil⟩
theorem CrashP_any {d : Nat} {D : Dk} (H : Holds I w (dskA d D :: L)) (hw : D.writes < 2 ^ 40) {v : Value} {done : List Bool} (hv : SlR I L v 1 done.length (done.flatMap boC)) (torn : Int) :
    Rets Try.prog F_journal_Disk_Crash #[ptr d, v, .int .i64 torn] w fun u w' => u = .int .i64 (crS D done torn).2 ∧ Holds I w' (dskA d (crS D done torn).1 :: L) := by
  by_cases ht : 0 ≤ torn ∧ torn < 256
  · obtain ⟨n, rfl⟩ := Int.eq_ofNat_of_zero_le ht.1
    have e : crS D done (n : Int) = (⟨crG done n 0 true D.blocks D.wait, [], D.writes, -1⟩, 0) := if_pos ht
    rw [e]
    exact CrashP_good H hw hv (by omega)
  · have e : crS D done torn = (D, 2) := if_neg ht
    rw [e]
    obtain ⟨A, c, rfl, _⟩ := hv.form
    exact CrashP_bad H ht
theorem CrashR_any {d : Nat} {D : Dk} (H : Holds I w (rdkA I d D :: L)) (hw : D.writes < 2 ^ 40) {v : Value} {done : List Bool} (hv : SlR I L v 1 done.length (done.flatMap boC)) (torn : Int) :
    Rets Try.prog F_tithingref16_Disk_Crash #[ptr d, v, .int .i64 torn] w fun u w' => ∃ J, Imm.Le I J ∧ u = .int .i64 (crS D done torn).2 ∧ Holds J w' (rdkA J d (crS D done torn).1 :: L) := by
  by_cases ht : 0 ≤ torn ∧ torn < 256
  · obtain ⟨n, rfl⟩ := Int.eq_ofNat_of_zero_le ht.1
    have e : crS D done (n : Int) = (⟨crG done n 0 true D.blocks D.wait, [], D.writes, -1⟩, 0) := if_pos ht
    rw [e]
    exact CrashR_good H hw hv (by omega)
  · have e : crS D done torn = (D, 2) := if_neg ht
    rw [e]
    obtain ⟨A, c, rfl, _⟩ := hv.form
    exact (CrashR_bad H ht).mono fun u w' ⟨h1, h2⟩ => ⟨I, Imm.Le.rfl' I, h1, h2⟩
/-- Two slices are the same text. -/
theorem str_rule (a : By) : ((⟨a.toArray⟩ : ByteArray).toList == (⟨a.toArray⟩ : ByteArray).toList) = true := by rw [str_eq]; exact decide_eq_true rfl
theorem do_any {d r : Nat} {D : Dk} {a : Ac} (H : Holds I w (dskA d D :: rdkA I r D :: L)) (hw : D.writes + 10 < 2 ^ 40) (ha : AcOk I a) :
    Rets Try.prog F_tithinglaw16_do #[ptr d, ptr r, .agg (acC a).toArray] w fun u w' => ∃ J, Imm.Le I J ∧ u = .bool true ∧ Holds J w' (dskA d (doS D a) :: rdkA J r (doS D a) :: L) := by
  have hB := acB_v ha.byte
  have hN := acN_v a
  have hdone := ha.done
  have hnum := ha.num
  have hblock := ha.block
  have hdo : doS D a = if a.what = 0 then (wrS D a.block (dataS a)).1 else if a.what = 1 then (flS D).1 else if a.what = 2 then (crS D a.done.2.2 a.num).1 else if a.what = 3 then stS D a.num else D := rfl
  obtain ⟨data, hdata⟩ : ∃ data, dataS a = data := ⟨_, rfl⟩
  have hdd : data = if a.short then ((fullB (acB a)).set 1 (acN a)).drop 1 else (fullB (acB a)).set 0 (acN a) := hdata.symm
  rw [hdata] at hdo
  obtain ⟨c, hc⟩ : ∃ c, acB a = c := ⟨_, rfl⟩
  obtain ⟨x, hx⟩ : ∃ x, acN a = x := ⟨_, rfl⟩
  rw [hc, hx] at hdd
  rw [hc] at hB
  rw [hx] at hN
  obtain ⟨what, block, num, byte, ⟨A, cap, done⟩, short⟩ := a
  dsimp only at hB hN hdone hdo hdd hnum hblock
  have hdv : SlI I (.slice A done.length cap) 1 done.length (done.flatMap boC) := hdone
  show Rets Try.prog F_tithinglaw16_do #[ptr d, ptr r, .agg #[.int .i64 what, .int .i64 block, .int .i64 num, .int .u8 byte, .slice A done.length cap, .bool short]] w _
  rw [hdo, hB]
  clear hdo hdata ha hB hdone
  by_cases h0 : what = 0
  · subst h0
    rw [if_pos rfl]
    cases short with
    | true =>
      have hdata : data = ((fullB c).set 1 x).drop 1 := hdd
      have hlen : data.length = 255 := by rw [hdata]; simp [fullB]
      have hsl : ∀ {K : Imm} {M : List Asn} {bf cf : Nat} {pre rest : List Value}, 256 ≤ cf → SlR K (blk bf 5 (pre ++ byL ((fullB c).set 1 x) ++ rest) :: M) (.slice (some ⟨bf, pre.length + 1, none⟩) (256 - 1) (cf - 1)) 1 data.length (byL data) := fun {K M bf cf pre rest} h => by
        have h1 := (blk_sl (I := K) (L := M) (b := bf) (e := 5) (pre := pre) (rest := rest) (cs := byL ((fullB c).set 1 x)) h (by simp [fullB])).drop (k := 1) (p := pre.length + 1) (by omega) (fun _ => rfl)
        have e9 : byL (((fullB c).set 1 x).drop 1) = (byL ((fullB c).set 1 x)).drop (1 * 1) := List.map_drop ..
        rw [hlen, hdata, e9]
        exact h1
      refine ok_tithinglaw16_do.rets rfl ?_
      repeat' (first
        | rw [hN]
        | (refine VcL.sliceFrom (l := 1) tabOk rfl rfl rfl rfl rfl rfl (by omega) (by omega) (fun p_ hp_ => ?_); obtain rfl : p_ = pre.length + 1 := hp_ (by omega))
        | (refine VcL.storeAt tabOk rfl H rfl (by exact rfl) (by exact rfl) (by exact rfl) (by rw [List.length_append, List.length_append, hb2]; show pre.length + 1 + 0 * 1 + 1 ≤ _; omega) rfl (fun w H => ?_); have H := Holds.as H (over_at (l := fullB c) (k := 1) (by rw [fullB_len]; omega) x))
        | (show VcL _ _ _ _ _ _ _ _; first
      | refine VcL.pures tabOk rfl ?_
      | refine VcL.nil ?_
      | (show VcL _ _ _ _ (⟨_, .load _ _, _, _, _, _⟩ :: _) _ _ _; refine VcL.load1 tabOk rfl rfl rfl rfl rfl (by first | exact Holds.cell H rfl | exact Holds.cell (Holds.f1 H) rfl) ?_)
      | (show VcL _ _ _ _ (⟨_, .indexAddr _ _ _, _, _, _, _⟩ :: _) _ _ _; refine VcL.indexAddr tabOk rfl rfl rfl rfl rfl rfl (by omega) (by omega) ?_)
      | refine VcL.box H rfl rfl rfl rfl rfl (fun b w H => ?_)
      | (show VcL _ _ _ _ (⟨_, .call ⟨.value (.func F_tithinglaw16_Full), _, _⟩, _, _, _, _⟩ :: _) _ _ _; (refine VcL.callF ok_tithinglaw16_Full rfl rfl rfl rfl (Rets.mono (Full_any H c) ?_); rintro _ w H; obtain ⟨bf, of, cf, rfl, hcf⟩ := Holds.own_some (by omega) H; obtain ⟨pre, rest, rfl, hb1, hb2, hb3, H⟩ := Holds.own_blk rfl H)))
        | (show VcD _ _ _ _ _ _ _ _ _; first
      | refine VcD.pures tabOk rfl ?_
      | refine VcD.done ?_
      | (show VcD _ _ _ _ _ (.take _ _) _ _ _; refine VcD.load1 tabOk rfl rfl rfl rfl rfl rfl (by intro w_ hw_; exact hw_ _ _ rfl) (by exact rfl) ?_)
      | (show VcD _ _ _ _ _ (.only _ _) _ _ _; first
      | (refine VcD.callF (f := F_journal_Disk_Write) rfl ok_journal_Disk_Write rfl rfl rfl rfl (Rets.mono (WriteP_any (D := D) (l := data) (k := block) (Holds.f2 H) (by omega) (hsl hcf) (by omega)) ?_); rintro _ w ⟨rfl, H⟩; refine ⟨(by exact Holds.rdWhole (Holds.f2 H)), ?_⟩)
      | (refine VcD.callF (f := F_tithingref16_Disk_Write) rfl ok_tithingref16_Disk_Write rfl rfl rfl rfl (Rets.mono (WriteR_any (D := D) (l := data) (k := block) (Holds.f3 H) (by omega) (SlR.up (hsl hcf)) (by omega)) ?_); rintro _ w ⟨J, hJ, rfl, H⟩; refine ⟨(by exact Holds.rdWhole (Holds.f3 H)), ?_⟩)))
        | (show Vc _ _ _ _ _ _; first
      | refine Vc.seq ?_
      | refine Vc.region ?_
      | refine Vc.condT rfl ?_
      | refine Vc.ret ?_
      | refine Vc.block ?_
      | (refine Vc.drawn (id := 7) (.pure 0 (.pure 1 (.pure 3 (.pure 5 (.pure 6 (.pure 8 (.take 2 (.take 7 (.only 4 (.only 9 (.pure 10 (.pure 11 .done)))))))))))) (.one (fun w => Rd w b 0 [.int .i64 0, .int .i64 block, .int .i64 num, byteV c, .slice A done.length cap, .bool true])) mixed (by kernel_rfl) (by exact Holds.rdWhole (Holds.f1 (Holds.drew H _))) ?_; have H := H.drew (w.drawn + 1)))
        | (show KSeq _ _ _ _ _ _ _; first
      | refine KSeq.normal ?_
      | refine KSeq.ret ?_)
        | (show KBlock _ _ _ _ _ _; refine KBlock.ret ?_)
        | (show KEnd _ _ _ _ _ _ _; refine KEnd.fin (Or.inr rfl) ⟨_, (ResL.tmp rfl ResL.nil), ?_⟩))
      refine ⟨J, hJ, by simp [resVal], ?_⟩
      exact Holds.drop2 (Holds.drop2 (Holds.re [1, 0] H rfl))
    | false =>
      have hdata : data = (fullB c).set 0 x := hdd
      have hlen : data.length = 256 := by rw [hdata]; simp [fullB]
      have hsl : ∀ {K : Imm} {M : List Asn} {bf cf : Nat} {pre rest : List Value}, 256 ≤ cf → SlR K (blk bf 5 (pre ++ byL ((fullB c).set 0 x) ++ rest) :: M) (.slice (some ⟨bf, pre.length, none⟩) 256 cf) 1 data.length (byL data) := fun h => by
        rw [hlen, hdata]
        exact blk_sl h (by simp [fullB])
      refine ok_tithinglaw16_do.rets rfl ?_
      repeat' (first
        | rw [hN]
        | (refine VcL.storeAt tabOk rfl H rfl (by exact rfl) (by exact rfl) (by exact rfl) (by rw [List.length_append, List.length_append, hb2]; show pre.length + 0 * 1 + 1 ≤ _; omega) rfl (fun w H => ?_); have H := Holds.as H (over_at (l := fullB c) (k := 0) (by rw [fullB_len]; omega) x))
        | (show VcL _ _ _ _ _ _ _ _; first
      | refine VcL.pures tabOk rfl ?_
      | refine VcL.nil ?_
      | (show VcL _ _ _ _ (⟨_, .load _ _, _, _, _, _⟩ :: _) _ _ _; refine VcL.load1 tabOk rfl rfl rfl rfl rfl (by first | exact Holds.cell H rfl | exact Holds.cell (Holds.f1 H) rfl) ?_)
      | (show VcL _ _ _ _ (⟨_, .indexAddr _ _ _, _, _, _, _⟩ :: _) _ _ _; refine VcL.indexAddr tabOk rfl rfl rfl rfl rfl rfl (by omega) (by omega) ?_)
      | refine VcL.box H rfl rfl rfl rfl rfl (fun b w H => ?_)
      | (show VcL _ _ _ _ (⟨_, .call ⟨.value (.func F_tithinglaw16_Full), _, _⟩, _, _, _, _⟩ :: _) _ _ _; (refine VcL.callF ok_tithinglaw16_Full rfl rfl rfl rfl (Rets.mono (Full_any H c) ?_); rintro _ w H; obtain ⟨bf, of, cf, rfl, hcf⟩ := Holds.own_some (by omega) H; obtain ⟨pre, rest, rfl, hb1, hb2, hb3, H⟩ := Holds.own_blk rfl H)))
        | (show VcD _ _ _ _ _ _ _ _ _; first
      | refine VcD.pures tabOk rfl ?_
      | refine VcD.done ?_
      | (show VcD _ _ _ _ _ (.take _ _) _ _ _; refine VcD.load1 tabOk rfl rfl rfl rfl rfl rfl (by intro w_ hw_; exact hw_ _ _ rfl) (by exact rfl) ?_)
      | (show VcD _ _ _ _ _ (.only _ _) _ _ _; first
      | (refine VcD.callF (f := F_journal_Disk_Write) rfl ok_journal_Disk_Write rfl rfl rfl rfl (Rets.mono (WriteP_any (D := D) (l := data) (k := block) (Holds.f2 H) (by omega) (hsl hcf) (by omega)) ?_); rintro _ w ⟨rfl, H⟩; refine ⟨(by exact Holds.rdWhole (Holds.f2 H)), ?_⟩)
      | (refine VcD.callF (f := F_tithingref16_Disk_Write) rfl ok_tithingref16_Disk_Write rfl rfl rfl rfl (Rets.mono (WriteR_any (D := D) (l := data) (k := block) (Holds.f3 H) (by omega) (SlR.up (hsl hcf)) (by omega)) ?_); rintro _ w ⟨J, hJ, rfl, H⟩; refine ⟨(by exact Holds.rdWhole (Holds.f3 H)), ?_⟩)))
        | (show Vc _ _ _ _ _ _; first
      | refine Vc.seq ?_
      | refine Vc.region ?_
      | refine Vc.condT rfl ?_
      | refine Vc.condF rfl ?_
      | refine Vc.ret ?_
      | refine Vc.skip ?_
      | refine Vc.block ?_
      | (refine Vc.drawn (id := 7) (.pure 0 (.pure 1 (.pure 3 (.pure 5 (.pure 6 (.pure 8 (.take 2 (.take 7 (.only 4 (.only 9 (.pure 10 (.pure 11 .done)))))))))))) (.one (fun w => Rd w b 0 [.int .i64 0, .int .i64 block, .int .i64 num, byteV c, .slice A done.length cap, .bool false])) mixed (by kernel_rfl) (by exact Holds.rdWhole (Holds.f1 (Holds.drew H _))) ?_; have H := H.drew (w.drawn + 1)))
        | (show KSeq _ _ _ _ _ _ _; first
      | refine KSeq.normal ?_
      | refine KSeq.ret ?_)
        | (show KBlock _ _ _ _ _ _; refine KBlock.ret ?_)
        | (show KEnd _ _ _ _ _ _ _; refine KEnd.fin (Or.inr rfl) ⟨_, (ResL.tmp rfl ResL.nil), ?_⟩))
      refine ⟨J, hJ, by simp [resVal], ?_⟩
      exact Holds.drop2 (Holds.drop2 (Holds.re [1, 0] H rfl))
  · rw [if_neg h0]
    obtain ⟨rd, hrd⟩ : ∃ rd, rdS D block = rd := ⟨_, rfl⟩
    refine ok_tithinglaw16_do.rets rfl ?_
    repeat' (first
      | rw [str_rule]
      | (refine VcL.ofBytes (m := rd.1.length) (bs := rd.1) tabOk rfl rfl rfl rfl rfl rfl rfl (by first | exact Holds.own_src H | exact Holds.own_src (Holds.f2 H)) ⟨_, _, rfl⟩ rfl rfl rfl ?_)
      | (show VcL _ _ _ _ _ _ _ _; first
      | refine VcL.pures tabOk rfl ?_
      | refine VcL.nil ?_
      | (show VcL _ _ _ _ (⟨_, .load _ _, _, _, _, _⟩ :: _) _ _ _; refine VcL.load1 tabOk rfl rfl rfl rfl rfl (by first | exact Holds.cell H rfl | exact Holds.cell (Holds.f1 H) rfl | exact Holds.cell (Holds.f2 H) rfl) ?_)
      | refine VcL.box H rfl rfl rfl rfl rfl (fun b w H => ?_)
      | (show VcL _ _ _ _ (⟨_, .call ⟨.value (.func F_journal_Disk_Flush), _, _⟩, _, _, _, _⟩ :: _) _ _ _; (refine VcL.callF ok_journal_Disk_Flush rfl rfl rfl rfl (Rets.mono (FlushP_any (D := D) (Holds.f1 H) (by omega)) ?_); rintro _ w ⟨rfl, H⟩))
      | (show VcL _ _ _ _ (⟨_, .call ⟨.value (.func F_tithingref16_Disk_Flush), _, _⟩, _, _, _, _⟩ :: _) _ _ _; (refine VcL.callF ok_tithingref16_Disk_Flush rfl rfl rfl rfl (Rets.mono (FlushR_any (D := D) (Holds.f2 H) (by omega)) ?_); rintro _ w ⟨rfl, H⟩))
      | (show VcL _ _ _ _ (⟨_, .call ⟨.value (.func F_journal_Disk_Stop), _, _⟩, _, _, _, _⟩ :: _) _ _ _; (refine VcL.callF ok_journal_Disk_Stop rfl rfl rfl rfl (Rets.mono (Stop_any (D := D) (Holds.f2 H) hnum.2) ?_); rintro _ w ⟨rfl, H⟩))
      | (show VcL _ _ _ _ (⟨_, .call ⟨.value (.func F_tithingref16_Disk_Stop), _, _⟩, _, _, _, _⟩ :: _) _ _ _; (refine VcL.callF ok_tithingref16_Disk_Stop rfl rfl rfl rfl (Rets.mono (StopR_any (D := D) (Holds.f2 H) hnum.2) ?_); rintro _ w H))
      | (show VcL _ _ _ _ (⟨_, .call ⟨.value (.func F_journal_Disk_Read), _, _⟩, _, _, _, _⟩ :: _) _ _ _; (refine VcL.callF ok_journal_Disk_Read rfl rfl rfl rfl (Rets.mono (ReadP_any (D := D) (Holds.f1 H) (by omega) block) ?_); rintro _ w ⟨uv, rfl, H⟩; rw [hrd] at H ⊢; obtain ⟨_, A7, c7, rfl⟩ := Holds.own_len H))
      | (show VcL _ _ _ _ (⟨_, .call ⟨.value (.func F_tithingref16_Disk_Read), _, _⟩, _, _, _, _⟩ :: _) _ _ _; (refine VcL.callF ok_tithingref16_Disk_Read rfl rfl rfl rfl (Rets.mono (ReadR_any (D := D) (Holds.f3 H) (by omega) block) ?_); rintro _ w ⟨uv, rfl, H⟩; rw [hrd] at H ⊢; obtain ⟨_, A8, c8, rfl⟩ := Holds.own_len H))
      | (refine VcL.guard rfl rfl rfl rfl (fun h => ?_) (fun h => ?_) <;> first | (cases h; done) | skip))
      | (show VcD _ _ _ _ _ _ _ _ _; first
      | refine VcD.pures tabOk rfl ?_
      | refine VcD.done ?_
      | (show VcD _ _ _ _ _ (.take _ _) _ _ _; refine VcD.load1 tabOk rfl rfl rfl rfl rfl rfl (by intro w_ hw_; exact hw_ _ _ rfl) (by exact rfl) ?_)
      | (show VcD _ _ _ _ _ (.only _ _) _ _ _; first
      | (refine VcD.callF (f := F_journal_Disk_Crash) rfl ok_journal_Disk_Crash rfl rfl rfl rfl (Rets.mono (CrashP_any (D := D) (Holds.f1 H) (by omega) hdv.toR num) ?_); rintro _ w ⟨rfl, H⟩; refine ⟨(by exact Holds.rdWhole (Holds.f1 H)), ?_⟩)
      | (refine VcD.callF (f := F_tithingref16_Disk_Crash) rfl ok_tithingref16_Disk_Crash rfl rfl rfl rfl (Rets.mono (CrashR_any (D := D) (Holds.f2 H) (by omega) hdv.toR num) ?_); rintro _ w ⟨J, hJ, rfl, H⟩; refine ⟨(by exact Holds.rdWhole (Holds.f2 H)), ?_⟩)))
      | (show Vc _ _ _ _ _ _; first
      | refine Vc.seq ?_
      | refine Vc.region ?_
      | refine Vc.ret ?_
      | refine Vc.skip ?_
      | refine Vc.block ?_
      | (refine Vc.drawn (id := 11) (.pure 0 (.pure 1 (.pure 3 (.pure 6 (.pure 7 (.pure 9 (.take 2 (.take 4 (.take 8 (.take 10 (.only 5 (.only 11 (.pure 12 (.pure 13 .done)))))))))))))) (.one (fun w => Rd w b 0 [.int .i64 what, .int .i64 block, .int .i64 num, byteV c, .slice A done.length cap, .bool short])) mixed (by kernel_rfl) (by exact Holds.rdWhole (Holds.drew H _)) ?_; have H := H.drew (w.drawn + 1))
      | (refine Vc.cond rfl (fun h => ?_) (fun h => ?_) <;> first | (exfalso; simp only [decide_eq_true_eq, decide_eq_false_iff_not, Bool.not_eq_true', Bool.not_eq_false'] at h; omega) | (with_reducible have hp := of_decide_eq_true h) | (with_reducible have hp := of_decide_eq_false h)))
      | (show KSeq _ _ _ _ _ _ _; first
      | refine KSeq.normal ?_
      | refine KSeq.ret ?_)
      | (show KBlock _ _ _ _ _ _; first
      | refine KBlock.normal ?_
      | refine KBlock.ret ?_)
      | (show KEnd _ _ _ _ _ _ _; refine KEnd.fin (Or.inr rfl) ⟨_, (ResL.tmp rfl ResL.nil), ?_⟩))
    · refine ⟨I, Imm.Le.rfl' I, by simp [resVal], ?_⟩
      rw [if_pos hp]
      exact H.swap.drop2
    · refine ⟨J, hJ, by simp [resVal], ?_⟩
      rw [if_neg (by omega), if_pos hp]
      exact H.swap.drop2
    · refine ⟨I, Imm.Le.rfl' I, by simp [resVal], ?_⟩
      rw [if_neg (by omega), if_neg (by omega), if_pos hp]
      exact H.drop2
    · refine ⟨I, Imm.Le.rfl' I, by simp [resVal], ?_⟩
      rw [if_neg (by omega), if_neg (by omega), if_neg (by omega)]
      exact Holds.drop2 (Holds.drop2 (Holds.drop1 (Holds.re [3, 0] H rfl)))
end Go.Proofs.Ytoahfjfknljacaa.V
