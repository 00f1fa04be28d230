/- What the types of this translation are, and which functions there are. -/
import Derived.Test.YtbhlkgiaepechaaChecked
import Derived.Test.YtbhlkgiaepechaaVcGrow
namespace Go.Proofs.Ytbhlkgiaepechaa.V
open Go Go.Proofs.YtbhlkgiaepechaaV
def td24 : TypeDesc := .struct #[⟨"By", 3, 0, false, "", "", 0⟩, ⟨"From", 3, 1, false, "", "", 8⟩, ⟨"Many", 3, 2, false, "", "", 16⟩]
def td40 : TypeDesc := .struct #[⟨"Read", 4, 0, false, "", "", 0⟩, ⟨"Write", 4, 1, false, "", "", 1⟩, ⟨"DenyRead", 4, 2, false, "", "", 2⟩, ⟨"DenyWrite", 4, 3, false, "", "", 3⟩]
def codeOf (f : Func) : Code := f.body.getD .skip
def tab : Tab := [(3, ⟨.int .i64, 1, 8, .int .i64 0⟩), (4, ⟨.bool, 1, 1, .bool false⟩), (5, ⟨.int .u8, 1, 1, .int .u8 0⟩), (22, ⟨.slice 24, 1, 24, .slice none 0 0⟩), (24, ⟨td24, 3, 24, .agg #[.int .i64 0, .int .i64 0, .int .i64 0]⟩), (26, ⟨.int .i64, 1, 8, .int .i64 0⟩), (36, ⟨.int .u32, 1, 4, .int .u32 0⟩), (38, ⟨.slice 40, 1, 24, .slice none 0 0⟩), (40, ⟨td40, 4, 4, .agg #[.bool false, .bool false, .bool false, .bool false]⟩)]
set_option maxRecDepth 100000 in
theorem tabOk : TabOk Try.prog tab := (TabOk.cons Try.underlying3 (by kernel_rfl) (TabOk.cons Try.underlying4 (by kernel_rfl) (TabOk.cons Try.underlying5 (by kernel_rfl) (TabOk.cons Try.underlying22 (by kernel_rfl) (TabOk.cons Try.underlying24 (by kernel_rfl) (TabOk.cons Try.underlying26 (by kernel_rfl) (TabOk.cons Try.underlying36 (by kernel_rfl) (TabOk.cons Try.underlying38 (by kernel_rfl) (TabOk.cons Try.underlying40 (by kernel_rfl) TabOk.nil)))))))))
theorem mixed : Try.prog.follows .mixedOrders = true := by kernel_rfl
/-- tithinglaw20.LockTables -/
abbrev F_tithinglaw20_LockTables : Nat := 3
theorem ok_tithinglaw20_LockTables : FnOk Try.prog 3 45 [.tmp 6] (codeOf Try.f3) := ⟨Try.call3, Try.f3, Try.func3, rfl, rfl, rfl⟩
/-- tithinglaw20.LockEnds -/
abbrev F_tithinglaw20_LockEnds : Nat := 4
theorem ok_tithinglaw20_LockEnds : FnOk Try.prog 4 36 [.tmp 6] (codeOf Try.f4) := ⟨Try.call4, Try.f4, Try.func4, rfl, rfl, rfl⟩
/-- tithinglaw20.LockMay -/
abbrev F_tithinglaw20_LockMay : Nat := 5
theorem ok_tithinglaw20_LockMay : FnOk Try.prog 5 46 [.tmp 4] (codeOf Try.f5) := ⟨Try.call5, Try.f5, Try.func5, rfl, rfl, rfl⟩
/-- tithinglaw20.LockBytes -/
abbrev F_tithinglaw20_LockBytes : Nat := 6
theorem ok_tithinglaw20_LockBytes : FnOk Try.prog 6 94 [.tmp 6] (codeOf Try.f6) := ⟨Try.call6, Try.f6, Try.func6, rfl, rfl, rfl⟩
/-- tithinglaw20.LockModes -/
abbrev F_tithinglaw20_LockModes : Nat := 7
theorem ok_tithinglaw20_LockModes : FnOk Try.prog 7 80 [.tmp 4] (codeOf Try.f7) := ⟨Try.call7, Try.f7, Try.func7, rfl, rfl, rfl⟩
/-- tithinglaw20.LockLocks -/
abbrev F_tithinglaw20_LockLocks : Nat := 8
theorem ok_tithinglaw20_LockLocks : FnOk Try.prog 8 86 [.tmp 4] (codeOf Try.f8) := ⟨Try.call8, Try.f8, Try.func8, rfl, rfl, rfl⟩
/-- tithinglaw20.LockBack -/
abbrev F_tithinglaw20_LockBack : Nat := 9
theorem ok_tithinglaw20_LockBack : FnOk Try.prog 9 103 [.tmp 4] (codeOf Try.f9) := ⟨Try.call9, Try.f9, Try.func9, rfl, rfl, rfl⟩
/-- tithinglaw20.Awake -/
abbrev F_tithinglaw20_Awake : Nat := 10
theorem ok_tithinglaw20_Awake : FnOk Try.prog 10 30 [.tmp 0] (codeOf Try.f10) := ⟨Try.call10, Try.f10, Try.func10, rfl, rfl, rfl⟩
/-- lock.Meet -/
abbrev F_lock_Meet : Nat := 11
theorem ok_lock_Meet : FnOk Try.prog 11 17 [.tmp 4, .tmp 5] (codeOf Try.f11) := ⟨Try.call11, Try.f11, Try.func11, rfl, rfl, rfl⟩
/-- tithingref20.Meet -/
abbrev F_tithingref20_Meet : Nat := 12
theorem ok_tithingref20_Meet : FnOk Try.prog 12 17 [.tmp 4, .tmp 5] (codeOf Try.f12) := ⟨Try.call12, Try.f12, Try.func12, rfl, rfl, rfl⟩
/-- lock.Valid -/
abbrev F_lock_Valid : Nat := 13
theorem ok_lock_Valid : FnOk Try.prog 13 43 [.tmp 2] (codeOf Try.f13) := ⟨Try.call13, Try.f13, Try.func13, rfl, rfl, rfl⟩
/-- tithingref20.Valid -/
abbrev F_tithingref20_Valid : Nat := 14
theorem ok_tithingref20_Valid : FnOk Try.prog 14 52 [.tmp 2] (codeOf Try.f14) := ⟨Try.call14, Try.f14, Try.func14, rfl, rfl, rfl⟩
/-- lock.FromEnd -/
abbrev F_lock_FromEnd : Nat := 15
theorem ok_lock_FromEnd : FnOk Try.prog 15 37 [.cell 6 24, .tmp 7] (codeOf Try.f15) := ⟨Try.call15, Try.f15, Try.func15, rfl, rfl, rfl⟩
/-- tithingref20.FromEnd -/
abbrev F_tithingref20_FromEnd : Nat := 16
theorem ok_tithingref20_FromEnd : FnOk Try.prog 16 41 [.cell 6 24, .tmp 7] (codeOf Try.f16) := ⟨Try.call16, Try.f16, Try.func16, rfl, rfl, rfl⟩
/-- lock.May -/
abbrev F_lock_May : Nat := 17
theorem ok_lock_May : FnOk Try.prog 17 42 [.tmp 8, .tmp 9] (codeOf Try.f17) := ⟨Try.call17, Try.f17, Try.func17, rfl, rfl, rfl⟩
/-- tithingref20.May -/
abbrev F_tithingref20_May : Nat := 18
theorem ok_tithingref20_May : FnOk Try.prog 18 62 [.tmp 8, .tmp 9] (codeOf Try.f18) := ⟨Try.call18, Try.f18, Try.func18, rfl, rfl, rfl⟩
/-- lock.Beside -/
abbrev F_lock_Beside : Nat := 19
theorem ok_lock_Beside : FnOk Try.prog 19 18 [.tmp 4] (codeOf Try.f19) := ⟨Try.call19, Try.f19, Try.func19, rfl, rfl, rfl⟩
/-- tithingref20.Beside -/
abbrev F_tithingref20_Beside : Nat := 20
theorem ok_tithingref20_Beside : FnOk Try.prog 20 36 [.tmp 4] (codeOf Try.f20) := ⟨Try.call20, Try.f20, Try.func20, rfl, rfl, rfl⟩
/-- lock.First -/
abbrev F_lock_First : Nat := 21
theorem ok_lock_First : FnOk Try.prog 21 13 [.tmp 4, .tmp 5] (codeOf Try.f21) := ⟨Try.call21, Try.f21, Try.func21, rfl, rfl, rfl⟩
/-- tithingref20.First -/
abbrev F_tithingref20_First : Nat := 22
theorem ok_tithingref20_First : FnOk Try.prog 22 21 [.tmp 4, .tmp 5] (codeOf Try.f22) := ⟨Try.call22, Try.f22, Try.func22, rfl, rfl, rfl⟩
/-- lock.May2 -/
abbrev F_lock_May2 : Nat := 23
theorem ok_lock_May2 : FnOk Try.prog 23 9 [.tmp 4] (codeOf Try.f23) := ⟨Try.call23, Try.f23, Try.func23, rfl, rfl, rfl⟩
/-- tithingref20.May2 -/
abbrev F_tithingref20_May2 : Nat := 24
theorem ok_tithingref20_May2 : FnOk Try.prog 24 15 [.tmp 4] (codeOf Try.f24) := ⟨Try.call24, Try.f24, Try.func24, rfl, rfl, rfl⟩
/-- lock.Lock -/
abbrev F_lock_Lock : Nat := 25
theorem ok_lock_Lock : FnOk Try.prog 25 62 [.tmp 4, .tmp 5] (codeOf Try.f25) := ⟨Try.call25, Try.f25, Try.func25, rfl, rfl, rfl⟩
/-- tithingref20.Lock -/
abbrev F_tithingref20_Lock : Nat := 26
theorem ok_tithingref20_Lock : FnOk Try.prog 26 82 [.tmp 4, .tmp 5] (codeOf Try.f26) := ⟨Try.call26, Try.f26, Try.func26, rfl, rfl, rfl⟩
/-- lock.Unlock -/
abbrev F_lock_Unlock : Nat := 27
theorem ok_lock_Unlock : FnOk Try.prog 27 26 [.tmp 4, .tmp 5] (codeOf Try.f27) := ⟨Try.call27, Try.f27, Try.func27, rfl, rfl, rfl⟩
/-- tithingref20.Unlock -/
abbrev F_tithingref20_Unlock : Nat := 28
theorem ok_tithingref20_Unlock : FnOk Try.prog 28 41 [.tmp 4, .tmp 5] (codeOf Try.f28) := ⟨Try.call28, Try.f28, Try.func28, rfl, rfl, rfl⟩
/-- tithinglaw20.same -/
abbrev F_tithinglaw20_same : Nat := 29
theorem ok_tithinglaw20_same : FnOk Try.prog 29 26 [.tmp 4] (codeOf Try.f29) := ⟨Try.call29, Try.f29, Try.func29, rfl, rfl, rfl⟩
/-- lock.Drop -/
abbrev F_lock_Drop : Nat := 30
theorem ok_lock_Drop : FnOk Try.prog 30 17 [.tmp 4, .tmp 5] (codeOf Try.f30) := ⟨Try.call30, Try.f30, Try.func30, rfl, rfl, rfl⟩
/-- tithingref20.Drop -/
abbrev F_tithingref20_Drop : Nat := 31
theorem ok_tithingref20_Drop : FnOk Try.prog 31 36 [.tmp 4, .tmp 5] (codeOf Try.f31) := ⟨Try.call31, Try.f31, Try.func31, rfl, rfl, rfl⟩
/-- lock.isSpan -/
abbrev F_lock_isSpan : Nat := 32
theorem ok_lock_isSpan : FnOk Try.prog 32 21 [.tmp 2] (codeOf Try.f32) := ⟨Try.call32, Try.f32, Try.func32, rfl, rfl, rfl⟩
/-- lock.meet -/
abbrev F_lock_meet : Nat := 33
theorem ok_lock_meet : FnOk Try.prog 33 16 [.tmp 4] (codeOf Try.f33) := ⟨Try.call33, Try.f33, Try.func33, rfl, rfl, rfl⟩
/-- tithingref20.isSpan -/
abbrev F_tithingref20_isSpan : Nat := 34
theorem ok_tithingref20_isSpan : FnOk Try.prog 34 31 [.tmp 2] (codeOf Try.f34) := ⟨Try.call34, Try.f34, Try.func34, rfl, rfl, rfl⟩
/-- tithingref20.meet -/
abbrev F_tithingref20_meet : Nat := 35
theorem ok_tithingref20_meet : FnOk Try.prog 35 25 [.tmp 4] (codeOf Try.f35) := ⟨Try.call35, Try.f35, Try.func35, rfl, rfl, rfl⟩
/-- lock.within -/
abbrev F_lock_within : Nat := 36
theorem ok_lock_within : FnOk Try.prog 36 15 [.tmp 6] (codeOf Try.f36) := ⟨Try.call36, Try.f36, Try.func36, rfl, rfl, rfl⟩
/-- slices.ContainsFunc[[]api.Span,api.Span] -/
abbrev F_slices_ContainsFunc_api_Span_api_Span : Nat := 37
theorem ok_slices_ContainsFunc_api_Span_api_Span : FnOk Try.prog 37 9 [.tmp 4] (codeOf Try.f37) := ⟨Try.call37, Try.f37, Try.func37, rfl, rfl, rfl⟩
/-- lock.May$1 -/
abbrev F_lock_May_1 : Nat := 38
theorem ok_lock_May_1 : FnOk Try.prog 38 14 [.tmp 4] (codeOf Try.f38) := ⟨Try.call38, Try.f38, Try.func38, rfl, rfl, rfl⟩
/-- lock.Beside$1 -/
abbrev F_lock_Beside_1 : Nat := 39
theorem ok_lock_Beside_1 : FnOk Try.prog 39 19 [.tmp 4] (codeOf Try.f39) := ⟨Try.call39, Try.f39, Try.func39, rfl, rfl, rfl⟩
/-- slices.IndexFunc[[]api.Mode,api.Mode] -/
abbrev F_slices_IndexFunc_api_Mode_api_Mode : Nat := 40
theorem ok_slices_IndexFunc_api_Mode_api_Mode : FnOk Try.prog 40 19 [.tmp 4] (codeOf Try.f40) := ⟨Try.call40, Try.f40, Try.func40, rfl, rfl, rfl⟩
/-- lock.First$1 -/
abbrev F_lock_First_1 : Nat := 41
theorem ok_lock_First_1 : FnOk Try.prog 41 8 [.tmp 3] (codeOf Try.f41) := ⟨Try.call41, Try.f41, Try.func41, rfl, rfl, rfl⟩
/-- slices.ContainsFunc[[]api.Mode,api.Mode] -/
abbrev F_slices_ContainsFunc_api_Mode_api_Mode : Nat := 42
theorem ok_slices_ContainsFunc_api_Mode_api_Mode : FnOk Try.prog 42 9 [.tmp 4] (codeOf Try.f42) := ⟨Try.call42, Try.f42, Try.func42, rfl, rfl, rfl⟩
/-- lock.May2$1 -/
abbrev F_lock_May2_1 : Nat := 43
theorem ok_lock_May2_1 : FnOk Try.prog 43 8 [.tmp 3] (codeOf Try.f43) := ⟨Try.call43, Try.f43, Try.func43, rfl, rfl, rfl⟩
/-- slices.Insert[[]api.Span,api.Span] -/
abbrev F_slices_Insert_api_Span_api_Span : Nat := 44
theorem ok_slices_Insert_api_Span_api_Span : FnOk Try.prog 44 95 [.tmp 6] (codeOf Try.f44) := ⟨Try.call44, Try.f44, Try.func44, rfl, rfl, rfl⟩
/-- slices.Clone[[]api.Span,api.Span] -/
abbrev F_slices_Clone_api_Span_api_Span : Nat := 45
theorem ok_slices_Clone_api_Span_api_Span : FnOk Try.prog 45 8 [.tmp 2] (codeOf Try.f45) := ⟨Try.call45, Try.f45, Try.func45, rfl, rfl, rfl⟩
/-- slices.Index[[]api.Span,api.Span] -/
abbrev F_slices_Index_api_Span_api_Span : Nat := 46
theorem ok_slices_Index_api_Span_api_Span : FnOk Try.prog 46 19 [.tmp 4] (codeOf Try.f46) := ⟨Try.call46, Try.f46, Try.func46, rfl, rfl, rfl⟩
/-- slices.Delete[[]api.Span,api.Span] -/
abbrev F_slices_Delete_api_Span_api_Span : Nat := 47
theorem ok_slices_Delete_api_Span_api_Span : FnOk Try.prog 47 33 [.tmp 6] (codeOf Try.f47) := ⟨Try.call47, Try.f47, Try.func47, rfl, rfl, rfl⟩
/-- slices.DeleteFunc[[]api.Span,api.Span] -/
abbrev F_slices_DeleteFunc_api_Span_api_Span : Nat := 48
theorem ok_slices_DeleteFunc_api_Span_api_Span : FnOk Try.prog 48 42 [.tmp 4] (codeOf Try.f48) := ⟨Try.call48, Try.f48, Try.func48, rfl, rfl, rfl⟩
/-- lock.Drop$1 -/
abbrev F_lock_Drop_1 : Nat := 49
theorem ok_lock_Drop_1 : FnOk Try.prog 49 8 [.tmp 3] (codeOf Try.f49) := ⟨Try.call49, Try.f49, Try.func49, rfl, rfl, rfl⟩
/-- lock.behind -/
abbrev F_lock_behind : Nat := 50
theorem ok_lock_behind : FnOk Try.prog 50 11 [.tmp 2] (codeOf Try.f50) := ⟨Try.call50, Try.f50, Try.func50, rfl, rfl, rfl⟩
/-- slices.IndexFunc[[]api.Span,api.Span] -/
abbrev F_slices_IndexFunc_api_Span_api_Span : Nat := 51
theorem ok_slices_IndexFunc_api_Span_api_Span : FnOk Try.prog 51 19 [.tmp 4] (codeOf Try.f51) := ⟨Try.call51, Try.f51, Try.func51, rfl, rfl, rfl⟩
/-- slices.rotateRight[api.Span] -/
abbrev F_slices_rotateRight_api_Span : Nat := 53
theorem ok_slices_rotateRight_api_Span : FnOk Try.prog 53 10 [] (codeOf Try.f53) := ⟨Try.call53, Try.f53, Try.func53, rfl, rfl, rfl⟩
/-- slices.rotateLeft[api.Span] -/
abbrev F_slices_rotateLeft_api_Span : Nat := 54
theorem ok_slices_rotateLeft_api_Span : FnOk Try.prog 54 14 [] (codeOf Try.f54) := ⟨Try.call54, Try.f54, Try.func54, rfl, rfl, rfl⟩
/-- slices.Reverse[[]api.Span,api.Span] -/
abbrev F_slices_Reverse_api_Span_api_Span : Nat := 55
theorem ok_slices_Reverse_api_Span_api_Span : FnOk Try.prog 55 28 [] (codeOf Try.f55) := ⟨Try.call55, Try.f55, Try.func55, rfl, rfl, rfl⟩
end Go.Proofs.Ytbhlkgiaepechaa.V
