/- What the types of this translation are, and which functions there are. -/
import Derived.Test.YtkmbcjpedmlhfaaChecked
import Derived.Test.YtkmbcjpedmlhfaaVcRound
namespace Go.Proofs.Ytkmbcjpedmlhfaa.V
open Go Go.Proofs.YtkmbcjpedmlhfaaV
def td24 : TypeDesc := .struct #[⟨"Owner", 3, 0, false, "", "", 0⟩, ⟨"Group", 3, 1, false, "", "", 8⟩, ⟨"ForOwner", 3, 2, false, "", "", 16⟩, ⟨"ForGroup", 3, 3, false, "", "", 24⟩, ⟨"ForAll", 3, 4, false, "", "", 32⟩, ⟨"Blank", 4, 5, false, "", "", 40⟩]
def td37 : TypeDesc := .struct #[⟨"Id", 3, 0, false, "", "", 0⟩, ⟨"Name", 9, 1, false, "", "", 8⟩, ⟨"Secret", 3, 2, false, "", "", 24⟩, ⟨"Groups", 35, 3, false, "", "", 32⟩]
def td49 : TypeDesc := .struct #[⟨"User", 3, 0, false, "", "", 0⟩, ⟨"Do", 9, 1, false, "", "", 8⟩]
def codeOf (f : Func) : Code := f.body.getD .skip
def tab : Tab := [(3, ⟨.int .i64, 1, 8, .int .i64 0⟩), (4, ⟨.bool, 1, 1, .bool false⟩), (5, ⟨.int .u8, 1, 1, .int .u8 0⟩), (9, ⟨.string, 1, 16, .string ⟨#[]⟩⟩), (22, ⟨.slice 37, 1, 24, .slice none 0 0⟩), (24, ⟨td24, 6, 48, .agg #[.int .i64 0, .int .i64 0, .int .i64 0, .int .i64 0, .int .i64 0, .bool false]⟩), (27, ⟨.int .i64, 1, 8, .int .i64 0⟩), (31, ⟨.array 2 24, 12, 96, .agg #[.int .i64 0, .int .i64 0, .int .i64 0, .int .i64 0, .int .i64 0, .bool false, .int .i64 0, .int .i64 0, .int .i64 0, .int .i64 0, .int .i64 0, .bool false]⟩), (35, ⟨.slice 3, 1, 24, .slice none 0 0⟩), (37, ⟨td37, 4, 56, .agg #[.int .i64 0, .string ⟨#[]⟩, .int .i64 0, .slice none 0 0]⟩), (44, ⟨.slice 24, 1, 24, .slice none 0 0⟩), (49, ⟨td49, 2, 24, .agg #[.int .i64 0, .string ⟨#[]⟩]⟩), (77, ⟨.slice 5, 1, 24, .slice none 0 0⟩)]
set_option maxRecDepth 100000 in
theorem tabOk : TabOk Try.prog tab := (TabOk.cons Try.underlying3 (by kernel_rfl) (TabOk.cons Try.underlying4 (by kernel_rfl) (TabOk.cons Try.underlying5 (by kernel_rfl) (TabOk.cons Try.underlying9 (by kernel_rfl) (TabOk.cons Try.underlying22 (by kernel_rfl) (TabOk.cons Try.underlying24 (by kernel_rfl) (TabOk.cons Try.underlying27 (by kernel_rfl) (TabOk.cons Try.underlying31 (by kernel_rfl) (TabOk.cons Try.underlying35 (by kernel_rfl) (TabOk.cons Try.underlying37 (by kernel_rfl) (TabOk.cons Try.underlying44 (by kernel_rfl) (TabOk.cons Try.underlying49 (by kernel_rfl) (TabOk.cons Try.underlying77 (by kernel_rfl) TabOk.nil)))))))))))))
theorem mixed : Try.prog.follows .mixedOrders = true := by kernel_rfl
/-- tithinglaw21.RightsHas -/
abbrev F_tithinglaw21_RightsHas : Nat := 3
theorem ok_tithinglaw21_RightsHas : FnOk Try.prog 3 44 [.tmp 6] (codeOf Try.f3) := ⟨Try.call3, Try.f3, Try.func3, rfl, rfl, rfl⟩
/-- tithinglaw21.RightsChange -/
abbrev F_tithinglaw21_RightsChange : Nat := 4
theorem ok_tithinglaw21_RightsChange : FnOk Try.prog 4 46 [.tmp 6] (codeOf Try.f4) := ⟨Try.call4, Try.f4, Try.func4, rfl, rfl, rfl⟩
/-- tithinglaw21.RightsUsers -/
abbrev F_tithinglaw21_RightsUsers : Nat := 5
theorem ok_tithinglaw21_RightsUsers : FnOk Try.prog 5 52 [.tmp 6] (codeOf Try.f5) := ⟨Try.call5, Try.f5, Try.func5, rfl, rfl, rfl⟩
/-- tithinglaw21.RightsBlank -/
abbrev F_tithinglaw21_RightsBlank : Nat := 6
theorem ok_tithinglaw21_RightsBlank : FnOk Try.prog 6 94 [.tmp 6] (codeOf Try.f6) := ⟨Try.call6, Try.f6, Try.func6, rfl, rfl, rfl⟩
/-- tithinglaw21.RightsAt -/
abbrev F_tithinglaw21_RightsAt : Nat := 7
theorem ok_tithinglaw21_RightsAt : FnOk Try.prog 7 65 [.tmp 6] (codeOf Try.f7) := ⟨Try.call7, Try.f7, Try.func7, rfl, rfl, rfl⟩
/-- tithinglaw21.RightsMay -/
abbrev F_tithinglaw21_RightsMay : Nat := 8
theorem ok_tithinglaw21_RightsMay : FnOk Try.prog 8 78 [.tmp 6] (codeOf Try.f8) := ⟨Try.call8, Try.f8, Try.func8, rfl, rfl, rfl⟩
/-- tithinglaw21.RightsMore -/
abbrev F_tithinglaw21_RightsMore : Nat := 9
theorem ok_tithinglaw21_RightsMore : FnOk Try.prog 9 86 [.tmp 6] (codeOf Try.f9) := ⟨Try.call9, Try.f9, Try.func9, rfl, rfl, rfl⟩
/-- tithinglaw21.few -/
abbrev F_tithinglaw21_few : Nat := 10
theorem ok_tithinglaw21_few : FnOk Try.prog 10 27 [.tmp 4] (codeOf Try.f10) := ⟨Try.call10, Try.f10, Try.func10, rfl, rfl, rfl⟩
/-- tithinglaw21.First -/
abbrev F_tithinglaw21_First : Nat := 11
theorem ok_tithinglaw21_First : FnOk Try.prog 11 36 [.tmp 0] (codeOf Try.f11) := ⟨Try.call11, Try.f11, Try.func11, rfl, rfl, rfl⟩
/-- rights.Has -/
abbrev F_rights_Has : Nat := 12
theorem ok_rights_Has : FnOk Try.prog 12 21 [.tmp 6, .tmp 7] (codeOf Try.f12) := ⟨Try.call12, Try.f12, Try.func12, rfl, rfl, rfl⟩
/-- tithingref21.Has -/
abbrev F_tithingref21_Has : Nat := 13
theorem ok_tithingref21_Has : FnOk Try.prog 13 30 [.tmp 6, .tmp 7] (codeOf Try.f13) := ⟨Try.call13, Try.f13, Try.func13, rfl, rfl, rfl⟩
/-- rights.Change -/
abbrev F_rights_Change : Nat := 14
theorem ok_rights_Change : FnOk Try.prog 14 39 [.cell 8 24, .tmp 9] (codeOf Try.f14) := ⟨Try.call14, Try.f14, Try.func14, rfl, rfl, rfl⟩
/-- tithingref21.Change -/
abbrev F_tithingref21_Change : Nat := 15
theorem ok_tithingref21_Change : FnOk Try.prog 15 50 [.cell 8 24, .tmp 9] (codeOf Try.f15) := ⟨Try.call15, Try.f15, Try.func15, rfl, rfl, rfl⟩
/-- rights.Find -/
abbrev F_rights_Find : Nat := 16
theorem ok_rights_Find : FnOk Try.prog 16 27 [.cell 4 37, .tmp 5] (codeOf Try.f16) := ⟨Try.call16, Try.f16, Try.func16, rfl, rfl, rfl⟩
/-- tithingref21.Find -/
abbrev F_tithingref21_Find : Nat := 17
theorem ok_tithingref21_Find : FnOk Try.prog 17 29 [.cell 4 37, .tmp 5] (codeOf Try.f17) := ⟨Try.call17, Try.f17, Try.func17, rfl, rfl, rfl⟩
/-- rights.ValidUsers -/
abbrev F_rights_ValidUsers : Nat := 18
theorem ok_rights_ValidUsers : FnOk Try.prog 18 39 [.tmp 2] (codeOf Try.f18) := ⟨Try.call18, Try.f18, Try.func18, rfl, rfl, rfl⟩
/-- tithingref21.ValidUsers -/
abbrev F_tithingref21_ValidUsers : Nat := 19
theorem ok_tithingref21_ValidUsers : FnOk Try.prog 19 110 [.tmp 2] (codeOf Try.f19) := ⟨Try.call19, Try.f19, Try.func19, rfl, rfl, rfl⟩
/-- rights.Valid -/
abbrev F_rights_Valid : Nat := 20
theorem ok_rights_Valid : FnOk Try.prog 20 26 [.tmp 2] (codeOf Try.f20) := ⟨Try.call20, Try.f20, Try.func20, rfl, rfl, rfl⟩
/-- tithingref21.Valid -/
abbrev F_tithingref21_Valid : Nat := 21
theorem ok_tithingref21_Valid : FnOk Try.prog 21 26 [.tmp 2] (codeOf Try.f21) := ⟨Try.call21, Try.f21, Try.func21, rfl, rfl, rfl⟩
/-- tithinglaw21.same -/
abbrev F_tithinglaw21_same : Nat := 22
theorem ok_tithinglaw21_same : FnOk Try.prog 22 52 [.tmp 4] (codeOf Try.f22) := ⟨Try.call22, Try.f22, Try.func22, rfl, rfl, rfl⟩
/-- rights.At -/
abbrev F_rights_At : Nat := 23
theorem ok_rights_At : FnOk Try.prog 23 38 [.tmp 6, .tmp 7] (codeOf Try.f23) := ⟨Try.call23, Try.f23, Try.func23, rfl, rfl, rfl⟩
/-- rights.Effective -/
abbrev F_rights_Effective : Nat := 24
theorem ok_rights_Effective : FnOk Try.prog 24 10 [.cell 2 24, .tmp 3] (codeOf Try.f24) := ⟨Try.call24, Try.f24, Try.func24, rfl, rfl, rfl⟩
/-- tithingref21.Effective -/
abbrev F_tithingref21_Effective : Nat := 25
theorem ok_tithingref21_Effective : FnOk Try.prog 25 10 [.cell 2 24, .tmp 3] (codeOf Try.f25) := ⟨Try.call25, Try.f25, Try.func25, rfl, rfl, rfl⟩
/-- tithingref21.At -/
abbrev F_tithingref21_At : Nat := 26
theorem ok_tithingref21_At : FnOk Try.prog 26 47 [.tmp 6, .tmp 7] (codeOf Try.f26) := ⟨Try.call26, Try.f26, Try.func26, rfl, rfl, rfl⟩
/-- rights.Needs -/
abbrev F_rights_Needs : Nat := 27
theorem ok_rights_Needs : FnOk Try.prog 27 19 [.tmp 2, .tmp 3, .tmp 4] (codeOf Try.f27) := ⟨Try.call27, Try.f27, Try.func27, rfl, rfl, rfl⟩
/-- tithingref21.Needs -/
abbrev F_tithingref21_Needs : Nat := 28
theorem ok_tithingref21_Needs : FnOk Try.prog 28 18 [.tmp 2, .tmp 3, .tmp 4] (codeOf Try.f28) := ⟨Try.call28, Try.f28, Try.func28, rfl, rfl, rfl⟩
/-- rights.May -/
abbrev F_rights_May : Nat := 29
theorem ok_rights_May : FnOk Try.prog 29 38 [.tmp 8, .tmp 9] (codeOf Try.f29) := ⟨Try.call29, Try.f29, Try.func29, rfl, rfl, rfl⟩
/-- tithingref21.May -/
abbrev F_tithingref21_May : Nat := 30
theorem ok_tithingref21_May : FnOk Try.prog 30 44 [.tmp 8, .tmp 9] (codeOf Try.f30) := ⟨Try.call30, Try.f30, Try.func30, rfl, rfl, rfl⟩
/-- rights.asked -/
abbrev F_rights_asked : Nat := 31
theorem ok_rights_asked : FnOk Try.prog 31 24 [.tmp 6] (codeOf Try.f31) := ⟨Try.call31, Try.f31, Try.func31, rfl, rfl, rfl⟩
/-- rights.has -/
abbrev F_rights_has : Nat := 32
theorem ok_rights_has : FnOk Try.prog 32 40 [.tmp 6] (codeOf Try.f32) := ⟨Try.call32, Try.f32, Try.func32, rfl, rfl, rfl⟩
/-- tithingref21.groups -/
abbrev F_tithingref21_groups : Nat := 33
theorem ok_tithingref21_groups : FnOk Try.prog 33 27 [.tmp 4, .tmp 5] (codeOf Try.f33) := ⟨Try.call33, Try.f33, Try.func33, rfl, rfl, rfl⟩
/-- tithingref21.has -/
abbrev F_tithingref21_has : Nat := 34
theorem ok_tithingref21_has : FnOk Try.prog 34 74 [.tmp 6] (codeOf Try.f34) := ⟨Try.call34, Try.f34, Try.func34, rfl, rfl, rfl⟩
/-- slices.IndexFunc[[]api.User,api.User] -/
abbrev F_slices_IndexFunc_api_User_api_User : Nat := 35
theorem ok_slices_IndexFunc_api_User_api_User : FnOk Try.prog 35 19 [.tmp 4] (codeOf Try.f35) := ⟨Try.call35, Try.f35, Try.func35, rfl, rfl, rfl⟩
/-- rights.Find$1 -/
abbrev F_rights_Find_1 : Nat := 36
theorem ok_rights_Find_1 : FnOk Try.prog 36 8 [.tmp 3] (codeOf Try.f36) := ⟨Try.call36, Try.f36, Try.func36, rfl, rfl, rfl⟩
/-- octet.Equal -/
abbrev F_octet_Equal : Nat := 37
theorem ok_octet_Equal : FnOk Try.prog 37 10 [.tmp 4] (codeOf Try.f37) := ⟨Try.call37, Try.f37, Try.func37, rfl, rfl, rfl⟩
/-- slices.Clone[[]int,int] -/
abbrev F_slices_Clone_int_int : Nat := 38
theorem ok_slices_Clone_int_int : FnOk Try.prog 38 8 [.tmp 2] (codeOf Try.f38) := ⟨Try.call38, Try.f38, Try.func38, rfl, rfl, rfl⟩
/-- tithingref01.Equal -/
abbrev F_tithingref01_Equal : Nat := 39
theorem ok_tithingref01_Equal : FnOk Try.prog 39 9 [.tmp 4] (codeOf Try.f39) := ⟨Try.call39, Try.f39, Try.func39, rfl, rfl, rfl⟩
/-- rights.isUser -/
abbrev F_rights_isUser : Nat := 40
theorem ok_rights_isUser : FnOk Try.prog 40 50 [.tmp 2] (codeOf Try.f40) := ⟨Try.call40, Try.f40, Try.func40, rfl, rfl, rfl⟩
/-- slices.ContainsFunc[[]api.User,api.User] -/
abbrev F_slices_ContainsFunc_api_User_api_User : Nat := 41
theorem ok_slices_ContainsFunc_api_User_api_User : FnOk Try.prog 41 9 [.tmp 4] (codeOf Try.f41) := ⟨Try.call41, Try.f41, Try.func41, rfl, rfl, rfl⟩
/-- rights.ValidUsers$1 -/
abbrev F_rights_ValidUsers_1 : Nat := 42
theorem ok_rights_ValidUsers_1 : FnOk Try.prog 42 9 [.tmp 3] (codeOf Try.f42) := ⟨Try.call42, Try.f42, Try.func42, rfl, rfl, rfl⟩
/-- rights.within -/
abbrev F_rights_within : Nat := 43
theorem ok_rights_within : FnOk Try.prog 43 15 [.tmp 6] (codeOf Try.f43) := ⟨Try.call43, Try.f43, Try.func43, rfl, rfl, rfl⟩
/-- tithingref21.bits -/
abbrev F_tithingref21_bits : Nat := 44
theorem ok_tithingref21_bits : FnOk Try.prog 44 9 [.tmp 2] (codeOf Try.f44) := ⟨Try.call44, Try.f44, Try.func44, rfl, rfl, rfl⟩
/-- rights.isWay -/
abbrev F_rights_isWay : Nat := 45
theorem ok_rights_isWay : FnOk Try.prog 45 11 [.tmp 2] (codeOf Try.f45) := ⟨Try.call45, Try.f45, Try.func45, rfl, rfl, rfl⟩
/-- rights.effective -/
abbrev F_rights_effective : Nat := 46
theorem ok_rights_effective : FnOk Try.prog 46 14 [.cell 2 24] (codeOf Try.f46) := ⟨Try.call46, Try.f46, Try.func46, rfl, rfl, rfl⟩
/-- tithingref21.isWay -/
abbrev F_tithingref21_isWay : Nat := 47
theorem ok_tithingref21_isWay : FnOk Try.prog 47 24 [.tmp 2] (codeOf Try.f47) := ⟨Try.call47, Try.f47, Try.func47, rfl, rfl, rfl⟩
/-- tithingref21.effective -/
abbrev F_tithingref21_effective : Nat := 48
theorem ok_tithingref21_effective : FnOk Try.prog 48 22 [.cell 2 24] (codeOf Try.f48) := ⟨Try.call48, Try.f48, Try.func48, rfl, rfl, rfl⟩
/-- rights.groups -/
abbrev F_rights_groups : Nat := 49
theorem ok_rights_groups : FnOk Try.prog 49 19 [.tmp 4, .tmp 5] (codeOf Try.f49) := ⟨Try.call49, Try.f49, Try.func49, rfl, rfl, rfl⟩
/-- slices.Contains[[]int,int] -/
abbrev F_slices_Contains_int_int : Nat := 50
theorem ok_slices_Contains_int_int : FnOk Try.prog 50 9 [.tmp 4] (codeOf Try.f50) := ⟨Try.call50, Try.f50, Try.func50, rfl, rfl, rfl⟩
/-- octet.Fold -/
abbrev F_octet_Fold : Nat := 51
theorem ok_octet_Fold : FnOk Try.prog 51 23 [.tmp 2] (codeOf Try.f51) := ⟨Try.call51, Try.f51, Try.func51, rfl, rfl, rfl⟩
/-- tithingref01.Order -/
abbrev F_tithingref01_Order : Nat := 52
theorem ok_tithingref01_Order : FnOk Try.prog 52 46 [.tmp 4] (codeOf Try.f52) := ⟨Try.call52, Try.f52, Try.func52, rfl, rfl, rfl⟩
/-- slices.ContainsFunc[[]api.Rights,api.Rights] -/
abbrev F_slices_ContainsFunc_api_Rights_api_Rights : Nat := 53
theorem ok_slices_ContainsFunc_api_Rights_api_Rights : FnOk Try.prog 53 9 [.tmp 4] (codeOf Try.f53) := ⟨Try.call53, Try.f53, Try.func53, rfl, rfl, rfl⟩
/-- rights.isWay$1 -/
abbrev F_rights_isWay_1 : Nat := 54
theorem ok_rights_isWay_1 : FnOk Try.prog 54 6 [.tmp 2] (codeOf Try.f54) := ⟨Try.call54, Try.f54, Try.func54, rfl, rfl, rfl⟩
/-- slices.Backward[[]api.Rights,api.Rights] -/
abbrev F_slices_Backward_api_Rights_api_Rights : Nat := 55
theorem ok_slices_Backward_api_Rights_api_Rights : FnOk Try.prog 55 4 [.tmp 2] (codeOf Try.f55) := ⟨Try.call55, Try.f55, Try.func55, rfl, rfl, rfl⟩
/-- rights.groups$1 -/
abbrev F_rights_groups_1 : Nat := 56
theorem ok_rights_groups_1 : FnOk Try.prog 56 8 [.tmp 3] (codeOf Try.f56) := ⟨Try.call56, Try.f56, Try.func56, rfl, rfl, rfl⟩
/-- slices.Index[[]int,int] -/
abbrev F_slices_Index_int_int : Nat := 57
theorem ok_slices_Index_int_int : FnOk Try.prog 57 19 [.tmp 4] (codeOf Try.f57) := ⟨Try.call57, Try.f57, Try.func57, rfl, rfl, rfl⟩
/-- octet.fold -/
abbrev F_octet_fold : Nat := 58
theorem ok_octet_fold : FnOk Try.prog 58 23 [.tmp 2] (codeOf Try.f58) := ⟨Try.call58, Try.f58, Try.func58, rfl, rfl, rfl⟩
/-- tithingref01.Upper -/
abbrev F_tithingref01_Upper : Nat := 59
theorem ok_tithingref01_Upper : FnOk Try.prog 59 22 [.tmp 2] (codeOf Try.f59) := ⟨Try.call59, Try.f59, Try.func59, rfl, rfl, rfl⟩
/-- slices.IndexFunc[[]api.Rights,api.Rights] -/
abbrev F_slices_IndexFunc_api_Rights_api_Rights : Nat := 60
theorem ok_slices_IndexFunc_api_Rights_api_Rights : FnOk Try.prog 60 19 [.tmp 4] (codeOf Try.f60) := ⟨Try.call60, Try.f60, Try.func60, rfl, rfl, rfl⟩
/-- slices.Backward[[]api.Rights,api.Rights]$1 -/
abbrev F_slices_Backward_api_Rights_api_Rights_1 : Nat := 61
theorem ok_slices_Backward_api_Rights_api_Rights_1 : FnOk Try.prog 61 19 [] (codeOf Try.f61) := ⟨Try.call61, Try.f61, Try.func61, rfl, rfl, rfl⟩
end Go.Proofs.Ytkmbcjpedmlhfaa.V
