/- What the types of this translation are, and which functions there are. -/
import Derived.Test.YtoahfjfknljacaaChecked
import Derived.Test.YtoahfjfknljacaaVcRound
namespace Go.Proofs.Ytoahfjfknljacaa.V
open Go Go.Proofs.YtoahfjfknljacaaV
def td48 : TypeDesc := .struct #[⟨"Do", 3, 0, false, "", "", 0⟩, ⟨"Block", 3, 1, false, "", "", 8⟩, ⟨"N", 3, 2, false, "", "", 16⟩, ⟨"Byte", 5, 3, false, "", "", 24⟩, ⟨"Done", 46, 4, false, "", "", 32⟩, ⟨"Short", 4, 5, false, "", "", 56⟩]
def td55 : TypeDesc := .struct #[⟨"Do", 3, 0, false, "", "", 0⟩, ⟨"N", 3, 1, false, "", "", 8⟩, ⟨"Blocks", 53, 2, false, "", "", 16⟩, ⟨"Byte", 5, 3, false, "", "", 40⟩, ⟨"Done", 46, 4, false, "", "", 48⟩]
def td76 : TypeDesc := .struct #[⟨"blocks", 74, 0, false, "", "tithing/journal", 0⟩, ⟨"wait", 57, 1, false, "", "tithing/journal", 24⟩, ⟨"writes", 3, 2, false, "", "tithing/journal", 48⟩, ⟨"stop", 3, 3, false, "", "tithing/journal", 56⟩]
def td82 : TypeDesc := .struct #[⟨"disk", 24, 0, false, "", "tithing/journal", 0⟩, ⟨"home", 3, 1, false, "", "tithing/journal", 8⟩, ⟨"dead", 4, 2, false, "", "tithing/journal", 16⟩]
def td86 : TypeDesc := .struct #[⟨"Block", 3, 0, false, "", "", 0⟩, ⟨"Data", 22, 1, false, "", "", 8⟩]
def td88 : TypeDesc := .struct #[⟨"Done", 74, 0, false, "", "", 0⟩, ⟨"Waits", 57, 1, false, "", "", 24⟩, ⟨"Left", 3, 2, false, "", "", 48⟩, ⟨"Writes", 3, 3, false, "", "", 56⟩]
def td97 : TypeDesc := .struct #[⟨"Disk", 28, 0, false, "", "", 0⟩, ⟨"Home", 3, 1, false, "", "", 8⟩, ⟨"Failed", 4, 2, false, "", "", 16⟩]
def codeOf (f : Func) : Code := f.body.getD .skip
def tab : Tab := [(3, ⟨.int .i64, 1, 8, .int .i64 0⟩), (4, ⟨.bool, 1, 1, .bool false⟩), (5, ⟨.int .u8, 1, 1, .int .u8 0⟩), (9, ⟨.string, 1, 16, .string ⟨#[]⟩⟩), (22, ⟨.slice 5, 1, 24, .slice none 0 0⟩), (24, ⟨.pointer 76, 1, 8, .pointer none⟩), (25, ⟨.int .i64, 1, 8, .int .i64 0⟩), (28, ⟨.pointer 88, 1, 8, .pointer none⟩), (33, ⟨.pointer 82, 1, 8, .pointer none⟩), (36, ⟨.pointer 97, 1, 8, .pointer none⟩), (43, ⟨.slice 48, 1, 24, .slice none 0 0⟩), (46, ⟨.slice 4, 1, 24, .slice none 0 0⟩), (48, ⟨td48, 6, 64, .agg #[.int .i64 0, .int .i64 0, .int .i64 0, .int .u8 0, .slice none 0 0, .bool false]⟩), (50, ⟨.slice 55, 1, 24, .slice none 0 0⟩), (52, ⟨.slice 9, 1, 24, .slice none 0 0⟩), (53, ⟨.slice 3, 1, 24, .slice none 0 0⟩), (55, ⟨td55, 5, 72, .agg #[.int .i64 0, .int .i64 0, .slice none 0 0, .int .u8 0, .slice none 0 0]⟩), (57, ⟨.slice 86, 1, 24, .slice none 0 0⟩), (74, ⟨.slice 22, 1, 24, .slice none 0 0⟩), (76, ⟨td76, 4, 64, .agg #[.slice none 0 0, .slice none 0 0, .int .i64 0, .int .i64 0]⟩), (77, ⟨.slice 24, 1, 24, .slice none 0 0⟩), (82, ⟨td82, 3, 24, .agg #[.pointer none, .int .i64 0, .bool false]⟩), (83, ⟨.slice 33, 1, 24, .slice none 0 0⟩), (86, ⟨td86, 2, 32, .agg #[.int .i64 0, .slice none 0 0]⟩), (88, ⟨td88, 4, 64, .agg #[.slice none 0 0, .slice none 0 0, .int .i64 0, .int .i64 0]⟩), (97, ⟨td97, 3, 24, .agg #[.pointer none, .int .i64 0, .bool false]⟩), (98, ⟨.map 3 4, 1, 8, .map none⟩), (116, ⟨.int .u16, 1, 2, .int .u16 0⟩)]
set_option maxRecDepth 100000 in
theorem tabOk : TabOk Try.prog tab := (TabOk.cons Try.underlying3 (by kernel_rfl) (TabOk.cons Try.underlying4 (by kernel_rfl) (TabOk.cons Try.underlying5 (by kernel_rfl) (TabOk.cons Try.underlying9 (by kernel_rfl) (TabOk.cons Try.underlying22 (by kernel_rfl) (TabOk.cons Try.underlying24 (by kernel_rfl) (TabOk.cons Try.underlying25 (by kernel_rfl) (TabOk.cons Try.underlying28 (by kernel_rfl) (TabOk.cons Try.underlying33 (by kernel_rfl) (TabOk.cons Try.underlying36 (by kernel_rfl) (TabOk.cons Try.underlying43 (by kernel_rfl) (TabOk.cons Try.underlying46 (by kernel_rfl) (TabOk.cons Try.underlying48 (by kernel_rfl) (TabOk.cons Try.underlying50 (by kernel_rfl) (TabOk.cons Try.underlying52 (by kernel_rfl) (TabOk.cons Try.underlying53 (by kernel_rfl) (TabOk.cons Try.underlying55 (by kernel_rfl) (TabOk.cons Try.underlying57 (by kernel_rfl) (TabOk.cons Try.underlying74 (by kernel_rfl) (TabOk.cons Try.underlying76 (by kernel_rfl) (TabOk.cons Try.underlying77 (by kernel_rfl) (TabOk.cons Try.underlying82 (by kernel_rfl) (TabOk.cons Try.underlying83 (by kernel_rfl) (TabOk.cons Try.underlying86 (by kernel_rfl) (TabOk.cons Try.underlying88 (by kernel_rfl) (TabOk.cons Try.underlying97 (by kernel_rfl) (TabOk.cons Try.underlying98 (by kernel_rfl) (TabOk.cons Try.underlying116 (by kernel_rfl) TabOk.nil))))))))))))))))))))))))))))
theorem mixed : Try.prog.follows .mixedOrders = true := by kernel_rfl
/-- tithinglaw16.JournalHeads -/
abbrev F_tithinglaw16_JournalHeads : Nat := 3
theorem ok_tithinglaw16_JournalHeads : FnOk Try.prog 3 80 [.tmp 6] (codeOf Try.f3) := ⟨Try.call3, Try.f3, Try.func3, rfl, rfl, rfl⟩
/-- tithinglaw16.JournalOpens -/
abbrev F_tithinglaw16_JournalOpens : Nat := 4
theorem ok_tithinglaw16_JournalOpens : FnOk Try.prog 4 70 [.tmp 6] (codeOf Try.f4) := ⟨Try.call4, Try.f4, Try.func4, rfl, rfl, rfl⟩
/-- tithinglaw16.JournalDisks -/
abbrev F_tithinglaw16_JournalDisks : Nat := 5
theorem ok_tithinglaw16_JournalDisks : FnOk Try.prog 5 60 [.tmp 4] (codeOf Try.f5) := ⟨Try.call5, Try.f5, Try.func5, rfl, rfl, rfl⟩
/-- tithinglaw16.JournalWhole -/
abbrev F_tithinglaw16_JournalWhole : Nat := 6
theorem ok_tithinglaw16_JournalWhole : FnOk Try.prog 6 129 [.tmp 4] (codeOf Try.f6) := ⟨Try.call6, Try.f6, Try.func6, rfl, rfl, rfl⟩
/-- tithinglaw16.JournalStores -/
abbrev F_tithinglaw16_JournalStores : Nat := 7
theorem ok_tithinglaw16_JournalStores : FnOk Try.prog 7 152 [.tmp 4] (codeOf Try.f7) := ⟨Try.call7, Try.f7, Try.func7, rfl, rfl, rfl⟩
/-- tithinglaw16.JournalCopies -/
abbrev F_tithinglaw16_JournalCopies : Nat := 8
theorem ok_tithinglaw16_JournalCopies : FnOk Try.prog 8 114 [.tmp 6] (codeOf Try.f8) := ⟨Try.call8, Try.f8, Try.func8, rfl, rfl, rfl⟩
/-- tithinglaw16.JournalNils -/
abbrev F_tithinglaw16_JournalNils : Nat := 9
theorem ok_tithinglaw16_JournalNils : FnOk Try.prog 9 149 [.tmp 4] (codeOf Try.f9) := ⟨Try.call9, Try.f9, Try.func9, rfl, rfl, rfl⟩
/-- tithinglaw16.Awake -/
abbrev F_tithinglaw16_Awake : Nat := 10
theorem ok_tithinglaw16_Awake : FnOk Try.prog 10 50 [.tmp 0] (codeOf Try.f10) := ⟨Try.call10, Try.f10, Try.func10, rfl, rfl, rfl⟩
/-- journal.NewDisk -/
abbrev F_journal_NewDisk : Nat := 11
theorem ok_journal_NewDisk : FnOk Try.prog 11 28 [.tmp 2, .tmp 3] (codeOf Try.f11) := ⟨Try.call11, Try.f11, Try.func11, rfl, rfl, rfl⟩
/-- tithingref16.NewDisk -/
abbrev F_tithingref16_NewDisk : Nat := 12
theorem ok_tithingref16_NewDisk : FnOk Try.prog 12 30 [.tmp 2, .tmp 3] (codeOf Try.f12) := ⟨Try.call12, Try.f12, Try.func12, rfl, rfl, rfl⟩
/-- (*journal.Disk).Write -/
abbrev F_journal_Disk_Write : Nat := 13
theorem ok_journal_Disk_Write : FnOk Try.prog 13 65 [.tmp 6] (codeOf Try.f13) := ⟨Try.call13, Try.f13, Try.func13, rfl, rfl, rfl⟩
/-- (*tithingref16.Disk).Write -/
abbrev F_tithingref16_Disk_Write : Nat := 14
theorem ok_tithingref16_Disk_Write : FnOk Try.prog 14 59 [.tmp 6] (codeOf Try.f14) := ⟨Try.call14, Try.f14, Try.func14, rfl, rfl, rfl⟩
/-- tithinglaw16.Full -/
abbrev F_tithinglaw16_Full : Nat := 15
theorem ok_tithinglaw16_Full : FnOk Try.prog 15 17 [.tmp 2] (codeOf Try.f15) := ⟨Try.call15, Try.f15, Try.func15, rfl, rfl, rfl⟩
/-- journal.Open -/
abbrev F_journal_Open : Nat := 16
theorem ok_journal_Open : FnOk Try.prog 16 36 [.tmp 4, .tmp 5] (codeOf Try.f16) := ⟨Try.call16, Try.f16, Try.func16, rfl, rfl, rfl⟩
/-- tithingref16.Open -/
abbrev F_tithingref16_Open : Nat := 17
theorem ok_tithingref16_Open : FnOk Try.prog 17 108 [.tmp 4, .tmp 5] (codeOf Try.f17) := ⟨Try.call17, Try.f17, Try.func17, rfl, rfl, rfl⟩
/-- tithinglaw16.same -/
abbrev F_tithinglaw16_same : Nat := 18
theorem ok_tithinglaw16_same : FnOk Try.prog 18 68 [.tmp 4] (codeOf Try.f18) := ⟨Try.call18, Try.f18, Try.func18, rfl, rfl, rfl⟩
/-- journal.IsHead -/
abbrev F_journal_IsHead : Nat := 19
theorem ok_journal_IsHead : FnOk Try.prog 19 16 [.tmp 4] (codeOf Try.f19) := ⟨Try.call19, Try.f19, Try.func19, rfl, rfl, rfl⟩
/-- tithingref16.IsHead -/
abbrev F_tithingref16_IsHead : Nat := 20
theorem ok_tithingref16_IsHead : FnOk Try.prog 20 16 [.tmp 4] (codeOf Try.f20) := ⟨Try.call20, Try.f20, Try.func20, rfl, rfl, rfl⟩
/-- tithinglaw16.long -/
abbrev F_tithinglaw16_long : Nat := 21
theorem ok_tithinglaw16_long : FnOk Try.prog 21 20 [.tmp 2] (codeOf Try.f21) := ⟨Try.call21, Try.f21, Try.func21, rfl, rfl, rfl⟩
/-- tithinglaw16.do -/
abbrev F_tithinglaw16_do : Nat := 22
theorem ok_tithinglaw16_do : FnOk Try.prog 22 96 [.tmp 6] (codeOf Try.f22) := ⟨Try.call22, Try.f22, Try.func22, rfl, rfl, rfl⟩
/-- tithinglaw16.LongPuts -/
abbrev F_tithinglaw16_LongPuts : Nat := 23
theorem ok_tithinglaw16_LongPuts : FnOk Try.prog 23 29 [.tmp 2] (codeOf Try.f23) := ⟨Try.call23, Try.f23, Try.func23, rfl, rfl, rfl⟩
/-- tithinglaw16.after -/
abbrev F_tithinglaw16_after : Nat := 24
theorem ok_tithinglaw16_after : FnOk Try.prog 24 47 [.tmp 4] (codeOf Try.f24) := ⟨Try.call24, Try.f24, Try.func24, rfl, rfl, rfl⟩
/-- tithinglaw16.writes -/
abbrev F_tithinglaw16_writes : Nat := 25
theorem ok_tithinglaw16_writes : FnOk Try.prog 25 31 [.tmp 2] (codeOf Try.f25) := ⟨Try.call25, Try.f25, Try.func25, rfl, rfl, rfl⟩
/-- (*journal.Store).Commit -/
abbrev F_journal_Store_Commit : Nat := 26
theorem ok_journal_Store_Commit : FnOk Try.prog 26 67 [.tmp 4] (codeOf Try.f26) := ⟨Try.call26, Try.f26, Try.func26, rfl, rfl, rfl⟩
/-- (*journal.Store).Disk -/
abbrev F_journal_Store_Disk : Nat := 27
theorem ok_journal_Store_Disk : FnOk Try.prog 27 9 [.tmp 2] (codeOf Try.f27) := ⟨Try.call27, Try.f27, Try.func27, rfl, rfl, rfl⟩
/-- (*journal.Disk).Waiting -/
abbrev F_journal_Disk_Waiting : Nat := 28
theorem ok_journal_Disk_Waiting : FnOk Try.prog 28 10 [.tmp 2] (codeOf Try.f28) := ⟨Try.call28, Try.f28, Try.func28, rfl, rfl, rfl⟩
/-- tithinglaw16.is -/
abbrev F_tithinglaw16_is : Nat := 29
theorem ok_tithinglaw16_is : FnOk Try.prog 29 33 [.tmp 4] (codeOf Try.f29) := ⟨Try.call29, Try.f29, Try.func29, rfl, rfl, rfl⟩
/-- tithinglaw16.samePages -/
abbrev F_tithinglaw16_samePages : Nat := 30
theorem ok_tithinglaw16_samePages : FnOk Try.prog 30 21 [.tmp 4] (codeOf Try.f30) := ⟨Try.call30, Try.f30, Try.func30, rfl, rfl, rfl⟩
/-- (*journal.Disk).Stop -/
abbrev F_journal_Disk_Stop : Nat := 31
theorem ok_journal_Disk_Stop : FnOk Try.prog 31 12 [.tmp 4] (codeOf Try.f31) := ⟨Try.call31, Try.f31, Try.func31, rfl, rfl, rfl⟩
/-- tithinglaw16.opened -/
abbrev F_tithinglaw16_opened : Nat := 32
theorem ok_tithinglaw16_opened : FnOk Try.prog 32 60 [.tmp 6] (codeOf Try.f32) := ⟨Try.call32, Try.f32, Try.func32, rfl, rfl, rfl⟩
/-- (*tithingref16.Store).Commit -/
abbrev F_tithingref16_Store_Commit : Nat := 33
theorem ok_tithingref16_Store_Commit : FnOk Try.prog 33 118 [.tmp 4] (codeOf Try.f33) := ⟨Try.call33, Try.f33, Try.func33, rfl, rfl, rfl⟩
/-- (*tithingref16.Disk).Stop -/
abbrev F_tithingref16_Disk_Stop : Nat := 34
theorem ok_tithingref16_Disk_Stop : FnOk Try.prog 34 9 [] (codeOf Try.f34) := ⟨Try.call34, Try.f34, Try.func34, rfl, rfl, rfl⟩
/-- (*journal.Disk).Crash -/
abbrev F_journal_Disk_Crash : Nat := 35
theorem ok_journal_Disk_Crash : FnOk Try.prog 35 63 [.tmp 6] (codeOf Try.f35) := ⟨Try.call35, Try.f35, Try.func35, rfl, rfl, rfl⟩
/-- (*tithingref16.Disk).Crash -/
abbrev F_tithingref16_Disk_Crash : Nat := 36
theorem ok_tithingref16_Disk_Crash : FnOk Try.prog 36 84 [.tmp 6] (codeOf Try.f36) := ⟨Try.call36, Try.f36, Try.func36, rfl, rfl, rfl⟩
/-- tithinglaw16.reads -/
abbrev F_tithinglaw16_reads : Nat := 37
theorem ok_tithinglaw16_reads : FnOk Try.prog 37 52 [.tmp 4] (codeOf Try.f37) := ⟨Try.call37, Try.f37, Try.func37, rfl, rfl, rfl⟩
/-- (*journal.Disk).Copy -/
abbrev F_journal_Disk_Copy : Nat := 38
theorem ok_journal_Disk_Copy : FnOk Try.prog 38 67 [.tmp 2] (codeOf Try.f38) := ⟨Try.call38, Try.f38, Try.func38, rfl, rfl, rfl⟩
/-- (*tithingref16.Disk).Copy -/
abbrev F_tithingref16_Disk_Copy : Nat := 39
theorem ok_tithingref16_Disk_Copy : FnOk Try.prog 39 25 [.tmp 2] (codeOf Try.f39) := ⟨Try.call39, Try.f39, Try.func39, rfl, rfl, rfl⟩
/-- journal.SameDisk -/
abbrev F_journal_SameDisk : Nat := 40
theorem ok_journal_SameDisk : FnOk Try.prog 40 61 [.tmp 4] (codeOf Try.f40) := ⟨Try.call40, Try.f40, Try.func40, rfl, rfl, rfl⟩
/-- tithingref16.SameDisk -/
abbrev F_tithingref16_SameDisk : Nat := 41
theorem ok_tithingref16_SameDisk : FnOk Try.prog 41 126 [.tmp 4] (codeOf Try.f41) := ⟨Try.call41, Try.f41, Try.func41, rfl, rfl, rfl⟩
/-- (*journal.Disk).Read -/
abbrev F_journal_Disk_Read : Nat := 42
theorem ok_journal_Disk_Read : FnOk Try.prog 42 45 [.cell 4 22, .cell 5 25] (codeOf Try.f42) := ⟨Try.call42, Try.f42, Try.func42, rfl, rfl, rfl⟩
/-- (*journal.Disk).Flush -/
abbrev F_journal_Disk_Flush : Nat := 43
theorem ok_journal_Disk_Flush : FnOk Try.prog 43 36 [.tmp 2] (codeOf Try.f43) := ⟨Try.call43, Try.f43, Try.func43, rfl, rfl, rfl⟩
/-- (*journal.Disk).Writes -/
abbrev F_journal_Disk_Writes : Nat := 44
theorem ok_journal_Disk_Writes : FnOk Try.prog 44 9 [.tmp 2] (codeOf Try.f44) := ⟨Try.call44, Try.f44, Try.func44, rfl, rfl, rfl⟩
/-- (*journal.Disk).Blocks -/
abbrev F_journal_Disk_Blocks : Nat := 45
theorem ok_journal_Disk_Blocks : FnOk Try.prog 45 10 [.tmp 2] (codeOf Try.f45) := ⟨Try.call45, Try.f45, Try.func45, rfl, rfl, rfl⟩
/-- (*journal.Store).Read -/
abbrev F_journal_Store_Read : Nat := 46
theorem ok_journal_Store_Read : FnOk Try.prog 46 33 [.tmp 4, .tmp 5] (codeOf Try.f46) := ⟨Try.call46, Try.f46, Try.func46, rfl, rfl, rfl⟩
/-- (*journal.Store).Home -/
abbrev F_journal_Store_Home : Nat := 47
theorem ok_journal_Store_Home : FnOk Try.prog 47 9 [.tmp 2] (codeOf Try.f47) := ⟨Try.call47, Try.f47, Try.func47, rfl, rfl, rfl⟩
/-- tithingref16.block -/
abbrev F_tithingref16_block : Nat := 48
theorem ok_tithingref16_block : FnOk Try.prog 48 9 [.tmp 2] (codeOf Try.f48) := ⟨Try.call48, Try.f48, Try.func48, rfl, rfl, rfl⟩
/-- (*journal.Disk).none -/
abbrev F_journal_Disk_none : Nat := 49
theorem ok_journal_Disk_none : FnOk Try.prog 49 13 [.tmp 2] (codeOf Try.f49) := ⟨Try.call49, Try.f49, Try.func49, rfl, rfl, rfl⟩
/-- slices.Clone[[]byte,byte] -/
abbrev F_slices_Clone_byte_byte : Nat := 50
theorem ok_slices_Clone_byte_byte : FnOk Try.prog 50 8 [.tmp 2] (codeOf Try.f50) := ⟨Try.call50, Try.f50, Try.func50, rfl, rfl, rfl⟩
/-- (*journal.Store).recover -/
abbrev F_journal_Store_recover : Nat := 51
theorem ok_journal_Store_recover : FnOk Try.prog 51 122 [.tmp 2] (codeOf Try.f51) := ⟨Try.call51, Try.f51, Try.func51, rfl, rfl, rfl⟩
/-- (*tithingref16.Disk).Read -/
abbrev F_tithingref16_Disk_Read : Nat := 52
theorem ok_tithingref16_Disk_Read : FnOk Try.prog 52 55 [.tmp 4, .tmp 5] (codeOf Try.f52) := ⟨Try.call52, Try.f52, Try.func52, rfl, rfl, rfl⟩
/-- tithingref16.Places -/
abbrev F_tithingref16_Places : Nat := 53
theorem ok_tithingref16_Places : FnOk Try.prog 53 70 [.tmp 4, .tmp 5, .tmp 6] (codeOf Try.f53) := ⟨Try.call53, Try.f53, Try.func53, rfl, rfl, rfl⟩
/-- tithingref01.Sum -/
abbrev F_tithingref01_Sum : Nat := 54
theorem ok_tithingref01_Sum : FnOk Try.prog 54 28 [.tmp 2] (codeOf Try.f54) := ⟨Try.call54, Try.f54, Try.func54, rfl, rfl, rfl⟩
/-- tithingref16.number -/
abbrev F_tithingref16_number : Nat := 55
theorem ok_tithingref16_number : FnOk Try.prog 55 18 [.tmp 4] (codeOf Try.f55) := ⟨Try.call55, Try.f55, Try.func55, rfl, rfl, rfl⟩
/-- (*tithingref16.Disk).writes -/
abbrev F_tithingref16_Disk_writes : Nat := 56
theorem ok_tithingref16_Disk_writes : FnOk Try.prog 56 28 [.tmp 4] (codeOf Try.f56) := ⟨Try.call56, Try.f56, Try.func56, rfl, rfl, rfl⟩
/-- tithingref16.zeros -/
abbrev F_tithingref16_zeros : Nat := 57
theorem ok_tithingref16_zeros : FnOk Try.prog 57 15 [.tmp 2] (codeOf Try.f57) := ⟨Try.call57, Try.f57, Try.func57, rfl, rfl, rfl⟩
/-- journal.targets -/
abbrev F_journal_targets : Nat := 58
theorem ok_journal_targets : FnOk Try.prog 58 72 [.tmp 4, .tmp 5, .tmp 6] (codeOf Try.f58) := ⟨Try.call58, Try.f58, Try.func58, rfl, rfl, rfl⟩
/-- (*tithingref16.Disk).Flush -/
abbrev F_tithingref16_Disk_Flush : Nat := 59
theorem ok_tithingref16_Disk_Flush : FnOk Try.prog 59 42 [.tmp 2] (codeOf Try.f59) := ⟨Try.call59, Try.f59, Try.func59, rfl, rfl, rfl⟩
/-- (*journal.Store).none -/
abbrev F_journal_Store_none : Nat := 60
theorem ok_journal_Store_none : FnOk Try.prog 60 12 [.tmp 2] (codeOf Try.f60) := ⟨Try.call60, Try.f60, Try.func60, rfl, rfl, rfl⟩
/-- (*journal.Store).commit -/
abbrev F_journal_Store_commit : Nat := 61
theorem ok_journal_Store_commit : FnOk Try.prog 61 130 [.tmp 4] (codeOf Try.f61) := ⟨Try.call61, Try.f61, Try.func61, rfl, rfl, rfl⟩
/-- (*tithingref16.Store).asked -/
abbrev F_tithingref16_Store_asked : Nat := 62
theorem ok_tithingref16_Store_asked : FnOk Try.prog 62 59 [.tmp 4] (codeOf Try.f62) := ⟨Try.call62, Try.f62, Try.func62, rfl, rfl, rfl⟩
/-- tithingref16.two -/
abbrev F_tithingref16_two : Nat := 63
theorem ok_tithingref16_two : FnOk Try.prog 63 10 [.tmp 2] (codeOf Try.f63) := ⟨Try.call63, Try.f63, Try.func63, rfl, rfl, rfl⟩
/-- (*tithingref16.Store).Read -/
abbrev F_tithingref16_Store_Read : Nat := 64
theorem ok_tithingref16_Store_Read : FnOk Try.prog 64 30 [.tmp 4, .tmp 5] (codeOf Try.f64) := ⟨Try.call64, Try.f64, Try.func64, rfl, rfl, rfl⟩
/-- journal.SameDisk$1 -/
abbrev F_journal_SameDisk_1 : Nat := 65
theorem ok_journal_SameDisk_1 : FnOk Try.prog 65 17 [.tmp 4] (codeOf Try.f65) := ⟨Try.call65, Try.f65, Try.func65, rfl, rfl, rfl⟩
/-- slices.Equal[[]byte,byte] -/
abbrev F_slices_Equal_byte_byte : Nat := 66
theorem ok_slices_Equal_byte_byte : FnOk Try.prog 66 26 [.tmp 4] (codeOf Try.f66) := ⟨Try.call66, Try.f66, Try.func66, rfl, rfl, rfl⟩
/-- slices.EqualFunc[[][]byte,[][]byte,[]byte,[]byte] -/
abbrev F_slices_EqualFunc_byte_byte_byte_byte : Nat := 67
theorem ok_slices_EqualFunc_byte_byte_byte_byte : FnOk Try.prog 67 32 [.tmp 6] (codeOf Try.f67) := ⟨Try.call67, Try.f67, Try.func67, rfl, rfl, rfl⟩
/-- slices.EqualFunc[[]api.Write,[]api.Write,api.Write,api.Write] -/
abbrev F_slices_EqualFunc_api_Write_api_Write_api_Write_api_Write : Nat := 68
theorem ok_slices_EqualFunc_api_Write_api_Write_api_Write_api_Write : FnOk Try.prog 68 32 [.tmp 6] (codeOf Try.f68) := ⟨Try.call68, Try.f68, Try.func68, rfl, rfl, rfl⟩
/-- slices.Backward[[]api.Write,api.Write] -/
abbrev F_slices_Backward_api_Write_api_Write : Nat := 69
theorem ok_slices_Backward_api_Write_api_Write : FnOk Try.prog 69 4 [.tmp 2] (codeOf Try.f69) := ⟨Try.call69, Try.f69, Try.func69, rfl, rfl, rfl⟩
/-- octet.Get -/
abbrev F_octet_Get : Nat := 70
theorem ok_octet_Get : FnOk Try.prog 70 53 [.tmp 6, .tmp 7, .tmp 8] (codeOf Try.f70) := ⟨Try.call70, Try.f70, Try.func70, rfl, rfl, rfl⟩
/-- octet.Sum -/
abbrev F_octet_Sum : Nat := 71
theorem ok_octet_Sum : FnOk Try.prog 71 26 [.tmp 2] (codeOf Try.f71) := ⟨Try.call71, Try.f71, Try.func71, rfl, rfl, rfl⟩
/-- journal.zeros -/
abbrev F_journal_zeros : Nat := 72
theorem ok_journal_zeros : FnOk Try.prog 72 2 [.tmp 0] (codeOf Try.f72) := ⟨Try.call72, Try.f72, Try.func72, rfl, rfl, rfl⟩
/-- (*journal.Store).head -/
abbrev F_journal_Store_head : Nat := 73
theorem ok_journal_Store_head : FnOk Try.prog 73 24 [.tmp 4] (codeOf Try.f73) := ⟨Try.call73, Try.f73, Try.func73, rfl, rfl, rfl⟩
/-- slices.Contains[[]int,int] -/
abbrev F_slices_Contains_int_int : Nat := 74
theorem ok_slices_Contains_int_int : FnOk Try.prog 74 9 [.tmp 4] (codeOf Try.f74) := ⟨Try.call74, Try.f74, Try.func74, rfl, rfl, rfl⟩
/-- octet.Put -/
abbrev F_octet_Put : Nat := 75
theorem ok_octet_Put : FnOk Try.prog 75 37 [.tmp 4, .tmp 5] (codeOf Try.f75) := ⟨Try.call75, Try.f75, Try.func75, rfl, rfl, rfl⟩
/-- slices.Backward[[]api.Write,api.Write]$1 -/
abbrev F_slices_Backward_api_Write_api_Write_1 : Nat := 76
theorem ok_slices_Backward_api_Write_api_Write_1 : FnOk Try.prog 76 19 [] (codeOf Try.f76) := ⟨Try.call76, Try.f76, Try.func76, rfl, rfl, rfl⟩
/-- octet.isWidth -/
abbrev F_octet_isWidth : Nat := 77
theorem ok_octet_isWidth : FnOk Try.prog 77 13 [.tmp 2] (codeOf Try.f77) := ⟨Try.call77, Try.f77, Try.func77, rfl, rfl, rfl⟩
/-- slices.Index[[]int,int] -/
abbrev F_slices_Index_int_int : Nat := 78
theorem ok_slices_Index_int_int : FnOk Try.prog 78 19 [.tmp 4] (codeOf Try.f78) := ⟨Try.call78, Try.f78, Try.func78, rfl, rfl, rfl⟩
end Go.Proofs.Ytoahfjfknljacaa.V
