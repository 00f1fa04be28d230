/- What the types of this translation are, and which functions there are. -/
import Derived.Test.YtkeapkmjkmbdpaaChecked
import Derived.Test.YtkeapkmjkmbdpaaVcRound
namespace Go.Proofs.Ytkeapkmjkmbdpaa.V
open Go Go.Proofs.YtkeapkmjkmbdpaaV
def td31 : TypeDesc := .struct #[⟨"Do", 3, 0, false, "", "", 0⟩, ⟨"N", 3, 1, false, "", "", 8⟩, ⟨"Blocks", 29, 2, false, "", "", 16⟩, ⟨"Byte", 5, 3, false, "", "", 40⟩, ⟨"Done", 23, 4, false, "", "", 48⟩]
def td43 : TypeDesc := .struct #[⟨"Block", 3, 0, false, "", "", 0⟩, ⟨"Data", 40, 1, false, "", "", 8⟩]
def td53 : TypeDesc := .struct #[⟨"blocks", 49, 0, false, "", "tithing/journal", 0⟩, ⟨"wait", 44, 1, false, "", "tithing/journal", 24⟩, ⟨"writes", 3, 2, false, "", "tithing/journal", 48⟩, ⟨"stop", 3, 3, false, "", "tithing/journal", 56⟩]
def td55 : TypeDesc := .struct #[⟨"disk", 32, 0, false, "", "tithing/journal", 0⟩, ⟨"home", 3, 1, false, "", "tithing/journal", 8⟩, ⟨"dead", 4, 2, false, "", "tithing/journal", 16⟩]
def codeOf (f : Func) : Code := f.body.getD .skip
def tab : Tab := [(3, ⟨.int .i64, 1, 8, .int .i64 0⟩), (4, ⟨.bool, 1, 1, .bool false⟩), (5, ⟨.int .u8, 1, 1, .int .u8 0⟩), (9, ⟨.string, 1, 16, .string ⟨#[]⟩⟩), (22, ⟨.slice 31, 1, 24, .slice none 0 0⟩), (23, ⟨.slice 4, 1, 24, .slice none 0 0⟩), (29, ⟨.slice 3, 1, 24, .slice none 0 0⟩), (31, ⟨td31, 5, 72, .agg #[.int .i64 0, .int .i64 0, .slice none 0 0, .int .u8 0, .slice none 0 0]⟩), (32, ⟨.pointer 53, 1, 8, .pointer none⟩), (33, ⟨.int .i64, 1, 8, .int .i64 0⟩), (36, ⟨.pointer 55, 1, 8, .pointer none⟩), (40, ⟨.slice 5, 1, 24, .slice none 0 0⟩), (43, ⟨td43, 2, 32, .agg #[.int .i64 0, .slice none 0 0]⟩), (44, ⟨.slice 43, 1, 24, .slice none 0 0⟩), (49, ⟨.slice 40, 1, 24, .slice none 0 0⟩), (53, ⟨td53, 4, 64, .agg #[.slice none 0 0, .slice none 0 0, .int .i64 0, .int .i64 0]⟩), (55, ⟨td55, 3, 24, .agg #[.pointer none, .int .i64 0, .bool false]⟩), (57, ⟨.map 3 4, 1, 8, .map none⟩), (75, ⟨.int .u16, 1, 2, .int .u16 0⟩)]
set_option maxRecDepth 100000 in
theorem tabOk : TabOk Try.prog tab := (TabOk.cons Try.underlying3 (by kernel_rfl) (TabOk.cons Try.underlying4 (by kernel_rfl) (TabOk.cons Try.underlying5 (by kernel_rfl) (TabOk.cons Try.underlying9 (by kernel_rfl) (TabOk.cons Try.underlying22 (by kernel_rfl) (TabOk.cons Try.underlying23 (by kernel_rfl) (TabOk.cons Try.underlying29 (by kernel_rfl) (TabOk.cons Try.underlying31 (by kernel_rfl) (TabOk.cons Try.underlying32 (by kernel_rfl) (TabOk.cons Try.underlying33 (by kernel_rfl) (TabOk.cons Try.underlying36 (by kernel_rfl) (TabOk.cons Try.underlying40 (by kernel_rfl) (TabOk.cons Try.underlying43 (by kernel_rfl) (TabOk.cons Try.underlying44 (by kernel_rfl) (TabOk.cons Try.underlying49 (by kernel_rfl) (TabOk.cons Try.underlying53 (by kernel_rfl) (TabOk.cons Try.underlying55 (by kernel_rfl) (TabOk.cons Try.underlying57 (by kernel_rfl) (TabOk.cons Try.underlying75 (by kernel_rfl) TabOk.nil)))))))))))))))))))
theorem mixed : Try.prog.follows .mixedOrders = true := by kernel_rfl
/-- tithingtop.TopCrash -/
abbrev F_tithingtop_TopCrash : Nat := 3
theorem ok_tithingtop_TopCrash : FnOk Try.prog 3 49 [.tmp 8] (codeOf Try.f3) := ⟨Try.call3, Try.f3, Try.func3, rfl, rfl, rfl⟩
/-- tithinglaw16.LongPuts -/
abbrev F_tithinglaw16_LongPuts : Nat := 4
theorem ok_tithinglaw16_LongPuts : FnOk Try.prog 4 29 [.tmp 2] (codeOf Try.f4) := ⟨Try.call4, Try.f4, Try.func4, rfl, rfl, rfl⟩
/-- tithinglaw16.Awake -/
abbrev F_tithinglaw16_Awake : Nat := 5
theorem ok_tithinglaw16_Awake : FnOk Try.prog 5 50 [.tmp 0] (codeOf Try.f5) := ⟨Try.call5, Try.f5, Try.func5, rfl, rfl, rfl⟩
/-- tithingtop.stopped -/
abbrev F_tithingtop_stopped : Nat := 6
theorem ok_tithingtop_stopped : FnOk Try.prog 6 154 [.tmp 10, .tmp 11] (codeOf Try.f6) := ⟨Try.call6, Try.f6, Try.func6, rfl, rfl, rfl⟩
/-- journal.NewDisk -/
abbrev F_journal_NewDisk : Nat := 7
theorem ok_journal_NewDisk : FnOk Try.prog 7 28 [.tmp 2, .tmp 3] (codeOf Try.f7) := ⟨Try.call7, Try.f7, Try.func7, rfl, rfl, rfl⟩
/-- journal.Open -/
abbrev F_journal_Open : Nat := 8
theorem ok_journal_Open : FnOk Try.prog 8 36 [.tmp 4, .tmp 5] (codeOf Try.f8) := ⟨Try.call8, Try.f8, Try.func8, rfl, rfl, rfl⟩
/-- (*journal.Store).Commit -/
abbrev F_journal_Store_Commit : Nat := 9
theorem ok_journal_Store_Commit : FnOk Try.prog 9 67 [.tmp 4] (codeOf Try.f9) := ⟨Try.call9, Try.f9, Try.func9, rfl, rfl, rfl⟩
/-- tithinglaw16.Full -/
abbrev F_tithinglaw16_Full : Nat := 10
theorem ok_tithinglaw16_Full : FnOk Try.prog 10 17 [.tmp 2] (codeOf Try.f10) := ⟨Try.call10, Try.f10, Try.func10, rfl, rfl, rfl⟩
/-- (*journal.Store).Read -/
abbrev F_journal_Store_Read : Nat := 11
theorem ok_journal_Store_Read : FnOk Try.prog 11 33 [.tmp 4, .tmp 5] (codeOf Try.f11) := ⟨Try.call11, Try.f11, Try.func11, rfl, rfl, rfl⟩
/-- (*journal.Disk).Writes -/
abbrev F_journal_Disk_Writes : Nat := 12
theorem ok_journal_Disk_Writes : FnOk Try.prog 12 9 [.tmp 2] (codeOf Try.f12) := ⟨Try.call12, Try.f12, Try.func12, rfl, rfl, rfl⟩
/-- (*journal.Disk).Waiting -/
abbrev F_journal_Disk_Waiting : Nat := 13
theorem ok_journal_Disk_Waiting : FnOk Try.prog 13 10 [.tmp 2] (codeOf Try.f13) := ⟨Try.call13, Try.f13, Try.func13, rfl, rfl, rfl⟩
/-- (*journal.Disk).Stop -/
abbrev F_journal_Disk_Stop : Nat := 14
theorem ok_journal_Disk_Stop : FnOk Try.prog 14 12 [.tmp 4] (codeOf Try.f14) := ⟨Try.call14, Try.f14, Try.func14, rfl, rfl, rfl⟩
/-- (*journal.Disk).Crash -/
abbrev F_journal_Disk_Crash : Nat := 15
theorem ok_journal_Disk_Crash : FnOk Try.prog 15 63 [.tmp 6] (codeOf Try.f15) := ⟨Try.call15, Try.f15, Try.func15, rfl, rfl, rfl⟩
/-- tithingtop.filled -/
abbrev F_tithingtop_filled : Nat := 16
theorem ok_tithingtop_filled : FnOk Try.prog 16 33 [.tmp 4] (codeOf Try.f16) := ⟨Try.call16, Try.f16, Try.func16, rfl, rfl, rfl⟩
/-- (*journal.Disk).none -/
abbrev F_journal_Disk_none : Nat := 17
theorem ok_journal_Disk_none : FnOk Try.prog 17 13 [.tmp 2] (codeOf Try.f17) := ⟨Try.call17, Try.f17, Try.func17, rfl, rfl, rfl⟩
/-- (*journal.Disk).Blocks -/
abbrev F_journal_Disk_Blocks : Nat := 18
theorem ok_journal_Disk_Blocks : FnOk Try.prog 18 10 [.tmp 2] (codeOf Try.f18) := ⟨Try.call18, Try.f18, Try.func18, rfl, rfl, rfl⟩
/-- (*journal.Store).recover -/
abbrev F_journal_Store_recover : Nat := 19
theorem ok_journal_Store_recover : FnOk Try.prog 19 122 [.tmp 2] (codeOf Try.f19) := ⟨Try.call19, Try.f19, Try.func19, rfl, rfl, rfl⟩
/-- (*journal.Store).none -/
abbrev F_journal_Store_none : Nat := 20
theorem ok_journal_Store_none : FnOk Try.prog 20 12 [.tmp 2] (codeOf Try.f20) := ⟨Try.call20, Try.f20, Try.func20, rfl, rfl, rfl⟩
/-- (*journal.Store).commit -/
abbrev F_journal_Store_commit : Nat := 21
theorem ok_journal_Store_commit : FnOk Try.prog 21 130 [.tmp 4] (codeOf Try.f21) := ⟨Try.call21, Try.f21, Try.func21, rfl, rfl, rfl⟩
/-- (*journal.Disk).Read -/
abbrev F_journal_Disk_Read : Nat := 22
theorem ok_journal_Disk_Read : FnOk Try.prog 22 45 [.cell 4 40, .cell 5 33] (codeOf Try.f22) := ⟨Try.call22, Try.f22, Try.func22, rfl, rfl, rfl⟩
/-- journal.targets -/
abbrev F_journal_targets : Nat := 23
theorem ok_journal_targets : FnOk Try.prog 23 72 [.tmp 4, .tmp 5, .tmp 6] (codeOf Try.f23) := ⟨Try.call23, Try.f23, Try.func23, rfl, rfl, rfl⟩
/-- octet.Get -/
abbrev F_octet_Get : Nat := 24
theorem ok_octet_Get : FnOk Try.prog 24 53 [.tmp 6, .tmp 7, .tmp 8] (codeOf Try.f24) := ⟨Try.call24, Try.f24, Try.func24, rfl, rfl, rfl⟩
/-- octet.Sum -/
abbrev F_octet_Sum : Nat := 25
theorem ok_octet_Sum : FnOk Try.prog 25 26 [.tmp 2] (codeOf Try.f25) := ⟨Try.call25, Try.f25, Try.func25, rfl, rfl, rfl⟩
/-- (*journal.Disk).Write -/
abbrev F_journal_Disk_Write : Nat := 26
theorem ok_journal_Disk_Write : FnOk Try.prog 26 65 [.tmp 6] (codeOf Try.f26) := ⟨Try.call26, Try.f26, Try.func26, rfl, rfl, rfl⟩
/-- (*journal.Disk).Flush -/
abbrev F_journal_Disk_Flush : Nat := 27
theorem ok_journal_Disk_Flush : FnOk Try.prog 27 36 [.tmp 2] (codeOf Try.f27) := ⟨Try.call27, Try.f27, Try.func27, rfl, rfl, rfl⟩
/-- slices.Equal[[]byte,byte] -/
abbrev F_slices_Equal_byte_byte : Nat := 28
theorem ok_slices_Equal_byte_byte : FnOk Try.prog 28 26 [.tmp 4] (codeOf Try.f28) := ⟨Try.call28, Try.f28, Try.func28, rfl, rfl, rfl⟩
/-- journal.zeros -/
abbrev F_journal_zeros : Nat := 29
theorem ok_journal_zeros : FnOk Try.prog 29 2 [.tmp 0] (codeOf Try.f29) := ⟨Try.call29, Try.f29, Try.func29, rfl, rfl, rfl⟩
/-- (*journal.Store).head -/
abbrev F_journal_Store_head : Nat := 30
theorem ok_journal_Store_head : FnOk Try.prog 30 24 [.tmp 4] (codeOf Try.f30) := ⟨Try.call30, Try.f30, Try.func30, rfl, rfl, rfl⟩
/-- octet.Put -/
abbrev F_octet_Put : Nat := 31
theorem ok_octet_Put : FnOk Try.prog 31 37 [.tmp 4, .tmp 5] (codeOf Try.f31) := ⟨Try.call31, Try.f31, Try.func31, rfl, rfl, rfl⟩
/-- slices.Backward[[]api.Write,api.Write] -/
abbrev F_slices_Backward_api_Write_api_Write : Nat := 32
theorem ok_slices_Backward_api_Write_api_Write : FnOk Try.prog 32 4 [.tmp 2] (codeOf Try.f32) := ⟨Try.call32, Try.f32, Try.func32, rfl, rfl, rfl⟩
/-- slices.Clone[[]byte,byte] -/
abbrev F_slices_Clone_byte_byte : Nat := 33
theorem ok_slices_Clone_byte_byte : FnOk Try.prog 33 8 [.tmp 2] (codeOf Try.f33) := ⟨Try.call33, Try.f33, Try.func33, rfl, rfl, rfl⟩
/-- slices.Contains[[]int,int] -/
abbrev F_slices_Contains_int_int : Nat := 34
theorem ok_slices_Contains_int_int : FnOk Try.prog 34 9 [.tmp 4] (codeOf Try.f34) := ⟨Try.call34, Try.f34, Try.func34, rfl, rfl, rfl⟩
/-- octet.isWidth -/
abbrev F_octet_isWidth : Nat := 35
theorem ok_octet_isWidth : FnOk Try.prog 35 13 [.tmp 2] (codeOf Try.f35) := ⟨Try.call35, Try.f35, Try.func35, rfl, rfl, rfl⟩
/-- slices.Backward[[]api.Write,api.Write]$1 -/
abbrev F_slices_Backward_api_Write_api_Write_1 : Nat := 36
theorem ok_slices_Backward_api_Write_api_Write_1 : FnOk Try.prog 36 19 [] (codeOf Try.f36) := ⟨Try.call36, Try.f36, Try.func36, rfl, rfl, rfl⟩
/-- slices.Index[[]int,int] -/
abbrev F_slices_Index_int_int : Nat := 37
theorem ok_slices_Index_int_int : FnOk Try.prog 37 19 [.tmp 4] (codeOf Try.f37) := ⟨Try.call37, Try.f37, Try.func37, rfl, rfl, rfl⟩
end Go.Proofs.Ytkeapkmjkmbdpaa.V
