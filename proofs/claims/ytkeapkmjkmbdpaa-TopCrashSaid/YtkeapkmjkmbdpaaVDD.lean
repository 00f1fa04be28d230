/- Deeds to both disks. -/
import Derived.Test.YtkeapkmjkmbdpaaVCC
import Derived.Test.YtkeapkmjkmbdpaaVcOpen
namespace Go.Proofs.Ytkeapkmjkmbdpaa.V
open Go Go.Proofs.YtkeapkmjkmbdpaaV
set_option linter.unusedVariables false
set_option linter.unusedSimpArgs false
set_option maxHeartbeats 1000000
set_option maxRecDepth 4000
attribute [local irreducible] IntKind.wrap
variable {I : Imm} {w : World} {L : List Asn}
/-- A deed. -/
structure Ac where mk ::
  what : Int
  block : Int
  num : Int
  byte : Int
  done : SlD Bool
  short : Bool
instance : Inhabited Ac := ⟨⟨0, 0, 0, 0, (none, 0, []), false⟩⟩
def acC (a : Ac) : List Value := [.int .i64 a.what, .int .i64 a.block, .int .i64 a.num, .int .u8 a.byte, SlD.v a.done, .bool a.short]
theorem acC_len (a : Ac) : (acC a).length = 6 := rfl
abbrev in64 (x : Int) : Prop := -9223372036854775808 ≤ x ∧ x ≤ 9223372036854775807
structure AcOk (I : Imm) (a : Ac) : Prop where
  block : in64 a.block
  num : in64 a.num
  byte : 0 ≤ a.byte ∧ a.byte < 256
  done : SlI I (SlD.v a.done) 1 a.done.2.2.length (a.done.2.2.flatMap boC)
  len : a.done.2.2.length ≤ 140737488355328
def acB (a : Ac) : UInt8 := UInt8.ofNat a.byte.toNat
def acN (a : Ac) : UInt8 := UInt8.ofNat (a.num % 256).toNat
def dataS (a : Ac) : By := if a.short then ((fullB (acB a)).set 1 (acN a)).drop 1 else (fullB (acB a)).set 0 (acN a)
def doS (D : Dk) (a : Ac) : Dk :=
  if a.what = 0 then (wrS D a.block (dataS a)).1 else if a.what = 1 then (flS D).1 else if a.what = 2 then (crS D a.done.2.2 a.num).1 else if a.what = 3 then stS D a.num else D
theorem crS_writes (D : Dk) (done : List Bool) (t : Int) : (crS D done t).1.writes = D.writes := by unfold crS; split <;> rfl
theorem doS_writes (D : Dk) (a : Ac) : (doS D a).writes ≤ D.writes + 1 := by
  unfold doS
  split
  · exact wrS_writes _ _ _
  · split
    · rw [flS_writes]; exact Nat.le_succ _
    · split
      · rw [crS_writes]; exact Nat.le_succ _
      · split <;> exact Nat.le_succ _
theorem over_at {pre rest : List Value} {l : By} {k : Nat} (hk : k < l.length) (x : UInt8) : over (pre ++ byL l ++ rest) (pre.length + k) [byteV x] = pre ++ byL (l.set k x) ++ rest := by
  unfold over byL
  rw [List.append_assoc pre (l.map byteV) rest, List.append_assoc (List.take _ _)]
  rw [List.take_length_add_append, List.take_append_of_le_length (by simp; omega)]
  rw [show pre.length + k + [byteV x].length = pre.length + (k + 1) from rfl, List.drop_length_add_append, List.drop_append_of_le_length (by simp; omega)]
  rw [List.map_set, List.set_eq_take_append_cons_drop, if_pos (by simpa using hk)]
  simp
theorem blk_sl {b e n cap : Nat} {pre cs rest : List Value} (hc : n ≤ cap) (hl : cs.length = n) : SlR I (blk b e (pre ++ cs ++ rest) :: L) (.slice (some ⟨b, pre.length, none⟩) n cap) 1 n cs :=
  ⟨_, cap, rfl, by omega, hc, (fun e => by cases e), fun a ha _ => ⟨b, pre.length, by injection ha with ha; exact ha.symm, ⟨fun w H => H.rd rfl⟩⟩⟩
theorem acB_v {a : Ac} (h : 0 ≤ a.byte ∧ a.byte < 256) : Value.int .u8 a.byte = byteV (acB a) := by
  unfold acB
  rw [u8_of _ (by omega)]
  congr 1
  omega
theorem acN_v (a : Ac) : Value.int .u8 (IntKind.u8.wrap a.num) = byteV (acN a) := by
  unfold acN
  rw [u8_of _ (by omega), wrap_u8]
  congr 1
  omega
theorem ReadP_any {d : Nat} {D : Dk} (H : Holds I w (dskA d D :: L)) (hw : D.writes < 2 ^ 40) (k : Int) :
    Rets Try.prog F_journal_Disk_Read #[ptr d, .int .i64 k] w fun u w' => ∃ uv, u = .tuple #[uv, .int .i64 (rdS D k).2] ∧ Holds I w' (own uv 5 1 (rdS D k).1.length (byL (rdS D k).1) :: dskA d D :: L) := by
  by_cases hk : 0 ≤ k ∧ k < D.blocks.length
  · have e : rdS D k = (rdB D k.toNat, 0) := if_pos hk
    rw [e]
    obtain ⟨n, rfl⟩ := Int.eq_ofNat_of_zero_le hk.1
    have hl := rdB_len (dsk_ok H) (show n < D.blocks.length by omega)
    exact (ReadP_good H hw (by omega)).mono fun u w' ⟨uv, h1, h2⟩ => ⟨uv, h1, by rw [← hl] at h2; exact h2⟩
  · have e : rdS D k = ([], 2) := if_neg hk
    rw [e]
    exact (ReadP_bad H hk).mono fun u w' ⟨h1, h2⟩ => ⟨_, h1, h2.own_nil⟩
theorem CrashP_any {d : Nat} {D : Dk} (H : Holds I w (dskA d D :: L)) (hw : D.writes < 2 ^ 40) {v : Value} {done : List Bool} (hv : SlR I L v 1 done.length (done.flatMap boC)) (torn : Int) :
    Rets Try.prog F_journal_Disk_Crash #[ptr d, v, .int .i64 torn] w fun u w' => u = .int .i64 (crS D done torn).2 ∧ Holds I w' (dskA d (crS D done torn).1 :: L) := by
  by_cases ht : 0 ≤ torn ∧ torn < 256
  · obtain ⟨n, rfl⟩ := Int.eq_ofNat_of_zero_le ht.1
    have e : crS D done (n : Int) = (⟨crG done n 0 true D.blocks D.wait, [], D.writes, -1⟩, 0) := if_pos ht
    rw [e]
    exact CrashP_good H hw hv (by omega)
  · have e : crS D done torn = (D, 2) := if_neg ht
    rw [e]
    obtain ⟨A, c, rfl, _⟩ := hv.form
    exact CrashP_bad H ht
/-- Two slices are the same text. -/
theorem str_rule (a : By) : ((⟨a.toArray⟩ : ByteArray).toList == (⟨a.toArray⟩ : ByteArray).toList) = true := by rw [str_eq]; exact decide_eq_true rfl
end Go.Proofs.Ytkeapkmjkmbdpaa.V
