/- What the types of this translation are, and which functions there are. -/
import Derived.Test.YtccbfajjboccoaaChecked
import Derived.Test.YtccbfajjboccoaaVcRow
namespace Go.Proofs.Ytccbfajjboccoaa.V
open Go Go.Proofs.YtccbfajjboccoaaV
def td34 : TypeDesc := .struct #[⟨"Id", 3, 0, false, "", "", 0⟩, ⟨"Name", 9, 1, false, "", "", 8⟩, ⟨"Secret", 3, 2, false, "", "", 24⟩, ⟨"Groups", 32, 3, false, "", "", 32⟩]
def td51 : TypeDesc := .struct #[⟨"d", 29, 0, false, "", "tithing/tithinglaw24", 0⟩, ⟨"r", 45, 1, false, "", "tithing/tithinglaw24", 8⟩, ⟨"last", 49, 2, false, "", "tithing/tithinglaw24", 16⟩]
def td54 : TypeDesc := .struct #[⟨"Do", 3, 0, false, "", "", 0⟩, ⟨"By", 3, 1, false, "", "", 8⟩, ⟨"Other", 3, 2, false, "", "", 16⟩, ⟨"Name", 9, 3, false, "", "", 24⟩]
def td61 : TypeDesc := .struct #[⟨"made", 4, 0, false, "", "tithing/secret", 0⟩, ⟨"seed", 3, 1, false, "", "tithing/secret", 8⟩, ⟨"asked", 3, 2, false, "", "tithing/secret", 16⟩, ⟨"visitors", 59, 3, false, "", "tithing/secret", 24⟩]
def td71 : TypeDesc := .struct #[⟨"user", 34, 0, false, "", "tithing/secret", 0⟩, ⟨"given", 4, 4, false, "", "tithing/secret", 56⟩, ⟨"number", 3, 5, false, "", "tithing/secret", 64⟩, ⟨"tries", 3, 6, false, "", "tithing/secret", 72⟩]
def td77 : TypeDesc := .struct #[⟨"List", 35, 0, false, "", "", 0⟩, ⟨"Guards", 75, 1, false, "", "", 24⟩, ⟨"Seed", 3, 2, false, "", "", 48⟩, ⟨"Given", 3, 3, false, "", "", 56⟩]
def td79 : TypeDesc := .struct #[⟨"Number", 3, 0, false, "", "", 0⟩, ⟨"Failed", 3, 1, false, "", "", 8⟩]
def codeOf (f : Func) : Code := f.body.getD .skip
def tab : Tab := [(3, ⟨.int .i64, 1, 8, .int .i64 0⟩), (4, ⟨.bool, 1, 1, .bool false⟩), (5, ⟨.int .u8, 1, 1, .int .u8 0⟩), (9, ⟨.string, 1, 16, .string ⟨#[]⟩⟩), (22, ⟨.int .i64, 1, 8, .int .i64 0⟩), (27, ⟨.int .u32, 1, 4, .int .u32 0⟩), (28, ⟨.int .u16, 1, 2, .int .u16 0⟩), (29, ⟨.pointer 61, 1, 8, .pointer none⟩), (32, ⟨.slice 3, 1, 24, .slice none 0 0⟩), (34, ⟨td34, 4, 56, .agg #[.int .i64 0, .string ⟨#[]⟩, .int .i64 0, .slice none 0 0]⟩), (35, ⟨.slice 34, 1, 24, .slice none 0 0⟩), (42, ⟨.slice 54, 1, 24, .slice none 0 0⟩), (45, ⟨.pointer 77, 1, 8, .pointer none⟩), (48, ⟨.pointer 51, 1, 8, .pointer none⟩), (49, ⟨.map 9 3, 1, 8, .map none⟩), (51, ⟨td51, 3, 24, .agg #[.pointer none, .pointer none, .map none]⟩), (54, ⟨td54, 4, 40, .agg #[.int .i64 0, .int .i64 0, .int .i64 0, .string ⟨#[]⟩]⟩), (59, ⟨.slice 71, 1, 24, .slice none 0 0⟩), (61, ⟨td61, 4, 48, .agg #[.bool false, .int .i64 0, .int .i64 0, .slice none 0 0]⟩), (62, ⟨.slice 29, 1, 24, .slice none 0 0⟩), (71, ⟨td71, 7, 80, .agg #[.int .i64 0, .string ⟨#[]⟩, .int .i64 0, .slice none 0 0, .bool false, .int .i64 0, .int .i64 0]⟩), (72, ⟨.pointer 71, 1, 8, .pointer none⟩), (75, ⟨.slice 79, 1, 24, .slice none 0 0⟩), (77, ⟨td77, 4, 64, .agg #[.slice none 0 0, .slice none 0 0, .int .i64 0, .int .i64 0]⟩), (79, ⟨td79, 2, 16, .agg #[.int .i64 0, .int .i64 0]⟩), (83, ⟨.int .u64, 1, 8, .int .u64 0⟩), (88, ⟨.int .u64, 1, 8, .int .u64 0⟩), (93, ⟨.slice 5, 1, 24, .slice none 0 0⟩)]
set_option maxRecDepth 100000 in
theorem tabOk : TabOk Try.prog tab := (TabOk.cons Try.underlying3 (by kernel_rfl) (TabOk.cons Try.underlying4 (by kernel_rfl) (TabOk.cons Try.underlying5 (by kernel_rfl) (TabOk.cons Try.underlying9 (by kernel_rfl) (TabOk.cons Try.underlying22 (by kernel_rfl) (TabOk.cons Try.underlying27 (by kernel_rfl) (TabOk.cons Try.underlying28 (by kernel_rfl) (TabOk.cons Try.underlying29 (by kernel_rfl) (TabOk.cons Try.underlying32 (by kernel_rfl) (TabOk.cons Try.underlying34 (by kernel_rfl) (TabOk.cons Try.underlying35 (by kernel_rfl) (TabOk.cons Try.underlying42 (by kernel_rfl) (TabOk.cons Try.underlying45 (by kernel_rfl) (TabOk.cons Try.underlying48 (by kernel_rfl) (TabOk.cons Try.underlying49 (by kernel_rfl) (TabOk.cons Try.underlying51 (by kernel_rfl) (TabOk.cons Try.underlying54 (by kernel_rfl) (TabOk.cons Try.underlying59 (by kernel_rfl) (TabOk.cons Try.underlying61 (by kernel_rfl) (TabOk.cons Try.underlying62 (by kernel_rfl) (TabOk.cons Try.underlying71 (by kernel_rfl) (TabOk.cons Try.underlying72 (by kernel_rfl) (TabOk.cons Try.underlying75 (by kernel_rfl) (TabOk.cons Try.underlying77 (by kernel_rfl) (TabOk.cons Try.underlying79 (by kernel_rfl) (TabOk.cons Try.underlying83 (by kernel_rfl) (TabOk.cons Try.underlying88 (by kernel_rfl) (TabOk.cons Try.underlying93 (by kernel_rfl) TabOk.nil))))))))))))))))))))))))))))
theorem mixed : Try.prog.follows .mixedOrders = true := by kernel_rfl
/-- tithinglaw24.SecretCiphers -/
abbrev F_tithinglaw24_SecretCiphers : Nat := 3
theorem ok_tithinglaw24_SecretCiphers : FnOk Try.prog 3 78 [.tmp 4] (codeOf Try.f3) := ⟨Try.call3, Try.f3, Try.func3, rfl, rfl, rfl⟩
/-- tithinglaw24.SecretEnters -/
abbrev F_tithinglaw24_SecretEnters : Nat := 4
theorem ok_tithinglaw24_SecretEnters : FnOk Try.prog 4 172 [.tmp 8] (codeOf Try.f4) := ⟨Try.call4, Try.f4, Try.func4, rfl, rfl, rfl⟩
/-- tithinglaw24.SecretDoors -/
abbrev F_tithinglaw24_SecretDoors : Nat := 5
theorem ok_tithinglaw24_SecretDoors : FnOk Try.prog 5 73 [.tmp 6] (codeOf Try.f5) := ⟨Try.call5, Try.f5, Try.func5, rfl, rfl, rfl⟩
/-- tithinglaw24.SecretCopies -/
abbrev F_tithinglaw24_SecretCopies : Nat := 6
theorem ok_tithinglaw24_SecretCopies : FnOk Try.prog 6 128 [.tmp 6] (codeOf Try.f6) := ⟨Try.call6, Try.f6, Try.func6, rfl, rfl, rfl⟩
/-- tithinglaw24.SecretNils -/
abbrev F_tithinglaw24_SecretNils : Nat := 7
theorem ok_tithinglaw24_SecretNils : FnOk Try.prog 7 104 [.tmp 4] (codeOf Try.f7) := ⟨Try.call7, Try.f7, Try.func7, rfl, rfl, rfl⟩
/-- secret.Cipher -/
abbrev F_secret_Cipher : Nat := 8
theorem ok_secret_Cipher : FnOk Try.prog 8 17 [.tmp 4, .tmp 5] (codeOf Try.f8) := ⟨Try.call8, Try.f8, Try.func8, rfl, rfl, rfl⟩
/-- tithingref24.Cipher -/
abbrev F_tithingref24_Cipher : Nat := 9
theorem ok_tithingref24_Cipher : FnOk Try.prog 9 17 [.tmp 4, .tmp 5] (codeOf Try.f9) := ⟨Try.call9, Try.f9, Try.func9, rfl, rfl, rfl⟩
/-- secret.Answer -/
abbrev F_secret_Answer : Nat := 10
theorem ok_secret_Answer : FnOk Try.prog 10 17 [.tmp 4, .tmp 5] (codeOf Try.f10) := ⟨Try.call10, Try.f10, Try.func10, rfl, rfl, rfl⟩
/-- tithingref24.Answer -/
abbrev F_tithingref24_Answer : Nat := 11
theorem ok_tithingref24_Answer : FnOk Try.prog 11 17 [.tmp 4, .tmp 5] (codeOf Try.f11) := ⟨Try.call11, Try.f11, Try.func11, rfl, rfl, rfl⟩
/-- secret.Back -/
abbrev F_secret_Back : Nat := 12
theorem ok_secret_Back : FnOk Try.prog 12 18 [.tmp 4, .tmp 5] (codeOf Try.f12) := ⟨Try.call12, Try.f12, Try.func12, rfl, rfl, rfl⟩
/-- tithingref24.Back -/
abbrev F_tithingref24_Back : Nat := 13
theorem ok_tithingref24_Back : FnOk Try.prog 13 18 [.tmp 4, .tmp 5] (codeOf Try.f13) := ⟨Try.call13, Try.f13, Try.func13, rfl, rfl, rfl⟩
/-- tithinglaw24.Awake -/
abbrev F_tithinglaw24_Awake : Nat := 14
theorem ok_tithinglaw24_Awake : FnOk Try.prog 14 23 [.tmp 0] (codeOf Try.f14) := ⟨Try.call14, Try.f14, Try.func14, rfl, rfl, rfl⟩
/-- secret.New -/
abbrev F_secret_New : Nat := 15
theorem ok_secret_New : FnOk Try.prog 15 43 [.tmp 4, .tmp 5] (codeOf Try.f15) := ⟨Try.call15, Try.f15, Try.func15, rfl, rfl, rfl⟩
/-- (*secret.Door).Ask -/
abbrev F_secret_Door_Ask : Nat := 16
theorem ok_secret_Door_Ask : FnOk Try.prog 16 48 [.tmp 4, .tmp 5] (codeOf Try.f16) := ⟨Try.call16, Try.f16, Try.func16, rfl, rfl, rfl⟩
/-- (*secret.Door).EnterBoth -/
abbrev F_secret_Door_EnterBoth : Nat := 17
theorem ok_secret_Door_EnterBoth : FnOk Try.prog 17 38 [.tmp 8, .tmp 9, .tmp 10] (codeOf Try.f17) := ⟨Try.call17, Try.f17, Try.func17, rfl, rfl, rfl⟩
/-- (*secret.Door).Enter -/
abbrev F_secret_Door_Enter : Nat := 18
theorem ok_secret_Door_Enter : FnOk Try.prog 18 22 [.tmp 6, .tmp 7] (codeOf Try.f18) := ⟨Try.call18, Try.f18, Try.func18, rfl, rfl, rfl⟩
/-- (*secret.Door).Tries -/
abbrev F_secret_Door_Tries : Nat := 19
theorem ok_secret_Door_Tries : FnOk Try.prog 19 17 [.tmp 4] (codeOf Try.f19) := ⟨Try.call19, Try.f19, Try.func19, rfl, rfl, rfl⟩
/-- tithinglaw24.LongUsers -/
abbrev F_tithinglaw24_LongUsers : Nat := 20
theorem ok_tithinglaw24_LongUsers : FnOk Try.prog 20 29 [.tmp 2] (codeOf Try.f20) := ⟨Try.call20, Try.f20, Try.func20, rfl, rfl, rfl⟩
/-- tithinglaw24.long -/
abbrev F_tithinglaw24_long : Nat := 21
theorem ok_tithinglaw24_long : FnOk Try.prog 21 20 [.tmp 2] (codeOf Try.f21) := ⟨Try.call21, Try.f21, Try.func21, rfl, rfl, rfl⟩
/-- tithingref24.New -/
abbrev F_tithingref24_New : Nat := 22
theorem ok_tithingref24_New : FnOk Try.prog 22 56 [.tmp 4, .tmp 5] (codeOf Try.f22) := ⟨Try.call22, Try.f22, Try.func22, rfl, rfl, rfl⟩
/-- (*tithinglaw24.play).do -/
abbrev F_tithinglaw24_play_do : Nat := 23
theorem ok_tithinglaw24_play_do : FnOk Try.prog 23 164 [.tmp 4] (codeOf Try.f23) := ⟨Try.call23, Try.f23, Try.func23, rfl, rfl, rfl⟩
/-- (*tithinglaw24.play).same -/
abbrev F_tithinglaw24_play_same : Nat := 24
theorem ok_tithinglaw24_play_same : FnOk Try.prog 24 57 [.tmp 2] (codeOf Try.f24) := ⟨Try.call24, Try.f24, Try.func24, rfl, rfl, rfl⟩
/-- (*secret.Door).Copy -/
abbrev F_secret_Door_Copy : Nat := 25
theorem ok_secret_Door_Copy : FnOk Try.prog 25 15 [.tmp 2] (codeOf Try.f25) := ⟨Try.call25, Try.f25, Try.func25, rfl, rfl, rfl⟩
/-- (*tithingref24.Door).Copy -/
abbrev F_tithingref24_Door_Copy : Nat := 26
theorem ok_tithingref24_Door_Copy : FnOk Try.prog 26 21 [.tmp 2] (codeOf Try.f26) := ⟨Try.call26, Try.f26, Try.func26, rfl, rfl, rfl⟩
/-- (*secret.Door).Change -/
abbrev F_secret_Door_Change : Nat := 27
theorem ok_secret_Door_Change : FnOk Try.prog 27 28 [.tmp 8] (codeOf Try.f27) := ⟨Try.call27, Try.f27, Try.func27, rfl, rfl, rfl⟩
/-- (*secret.Door).Users -/
abbrev F_secret_Door_Users : Nat := 28
theorem ok_secret_Door_Users : FnOk Try.prog 28 30 [.tmp 2] (codeOf Try.f28) := ⟨Try.call28, Try.f28, Try.func28, rfl, rfl, rfl⟩
/-- secret.within -/
abbrev F_secret_within : Nat := 29
theorem ok_secret_within : FnOk Try.prog 29 15 [.tmp 6] (codeOf Try.f29) := ⟨Try.call29, Try.f29, Try.func29, rfl, rfl, rfl⟩
/-- secret.cipher -/
abbrev F_secret_cipher : Nat := 30
theorem ok_secret_cipher : FnOk Try.prog 30 31 [.tmp 4] (codeOf Try.f30) := ⟨Try.call30, Try.f30, Try.func30, rfl, rfl, rfl⟩
/-- tithingref24.isNumber -/
abbrev F_tithingref24_isNumber : Nat := 31
theorem ok_tithingref24_isNumber : FnOk Try.prog 31 9 [.tmp 2] (codeOf Try.f31) := ⟨Try.call31, Try.f31, Try.func31, rfl, rfl, rfl⟩
/-- tithingref24.cipher -/
abbrev F_tithingref24_cipher : Nat := 32
theorem ok_tithingref24_cipher : FnOk Try.prog 32 29 [.tmp 4] (codeOf Try.f32) := ⟨Try.call32, Try.f32, Try.func32, rfl, rfl, rfl⟩
/-- tithingref24.isSecret -/
abbrev F_tithingref24_isSecret : Nat := 33
theorem ok_tithingref24_isSecret : FnOk Try.prog 33 9 [.tmp 2] (codeOf Try.f33) := ⟨Try.call33, Try.f33, Try.func33, rfl, rfl, rfl⟩
/-- rights.ValidUsers -/
abbrev F_rights_ValidUsers : Nat := 34
theorem ok_rights_ValidUsers : FnOk Try.prog 34 39 [.tmp 2] (codeOf Try.f34) := ⟨Try.call34, Try.f34, Try.func34, rfl, rfl, rfl⟩
/-- slices.Clone[[]int,int] -/
abbrev F_slices_Clone_int_int : Nat := 35
theorem ok_slices_Clone_int_int : FnOk Try.prog 35 8 [.tmp 2] (codeOf Try.f35) := ⟨Try.call35, Try.f35, Try.func35, rfl, rfl, rfl⟩
/-- (*secret.Door).none -/
abbrev F_secret_Door_none : Nat := 36
theorem ok_secret_Door_none : FnOk Try.prog 36 12 [.tmp 2] (codeOf Try.f36) := ⟨Try.call36, Try.f36, Try.func36, rfl, rfl, rfl⟩
/-- (*secret.Door).find -/
abbrev F_secret_Door_find : Nat := 37
theorem ok_secret_Door_find : FnOk Try.prog 37 32 [.tmp 4] (codeOf Try.f37) := ⟨Try.call37, Try.f37, Try.func37, rfl, rfl, rfl⟩
/-- (*secret.Door).enter -/
abbrev F_secret_Door_enter : Nat := 38
theorem ok_secret_Door_enter : FnOk Try.prog 38 53 [.tmp 6] (codeOf Try.f38) := ⟨Try.call38, Try.f38, Try.func38, rfl, rfl, rfl⟩
/-- tithingref21.ValidUsers -/
abbrev F_tithingref21_ValidUsers : Nat := 39
theorem ok_tithingref21_ValidUsers : FnOk Try.prog 39 110 [.tmp 2] (codeOf Try.f39) := ⟨Try.call39, Try.f39, Try.func39, rfl, rfl, rfl⟩
/-- (*tithinglaw24.play).right -/
abbrev F_tithinglaw24_play_right : Nat := 40
theorem ok_tithinglaw24_play_right : FnOk Try.prog 40 43 [.tmp 4] (codeOf Try.f40) := ⟨Try.call40, Try.f40, Try.func40, rfl, rfl, rfl⟩
/-- (*tithingref24.Door).Ask -/
abbrev F_tithingref24_Door_Ask : Nat := 41
theorem ok_tithingref24_Door_Ask : FnOk Try.prog 41 55 [.tmp 4, .tmp 5] (codeOf Try.f41) := ⟨Try.call41, Try.f41, Try.func41, rfl, rfl, rfl⟩
/-- (*tithingref24.Door).Enter -/
abbrev F_tithingref24_Door_Enter : Nat := 42
theorem ok_tithingref24_Door_Enter : FnOk Try.prog 42 23 [.tmp 6, .tmp 7] (codeOf Try.f42) := ⟨Try.call42, Try.f42, Try.func42, rfl, rfl, rfl⟩
/-- (*tithingref24.Door).EnterBoth -/
abbrev F_tithingref24_Door_EnterBoth : Nat := 43
theorem ok_tithingref24_Door_EnterBoth : FnOk Try.prog 43 40 [.tmp 8, .tmp 9, .tmp 10] (codeOf Try.f43) := ⟨Try.call43, Try.f43, Try.func43, rfl, rfl, rfl⟩
/-- (*tithingref24.Door).Change -/
abbrev F_tithingref24_Door_Change : Nat := 44
theorem ok_tithingref24_Door_Change : FnOk Try.prog 44 27 [.tmp 8] (codeOf Try.f44) := ⟨Try.call44, Try.f44, Try.func44, rfl, rfl, rfl⟩
/-- (*tithingref24.Door).Users -/
abbrev F_tithingref24_Door_Users : Nat := 45
theorem ok_tithingref24_Door_Users : FnOk Try.prog 45 32 [.tmp 2] (codeOf Try.f45) := ⟨Try.call45, Try.f45, Try.func45, rfl, rfl, rfl⟩
/-- (*tithingref24.Door).Tries -/
abbrev F_tithingref24_Door_Tries : Nat := 46
theorem ok_tithingref24_Door_Tries : FnOk Try.prog 46 19 [.tmp 4] (codeOf Try.f46) := ⟨Try.call46, Try.f46, Try.func46, rfl, rfl, rfl⟩
/-- tithingref24.SameUsers -/
abbrev F_tithingref24_SameUsers : Nat := 47
theorem ok_tithingref24_SameUsers : FnOk Try.prog 47 97 [.tmp 4] (codeOf Try.f47) := ⟨Try.call47, Try.f47, Try.func47, rfl, rfl, rfl⟩
/-- slices.Clone[[]secret.visitor,secret.visitor] -/
abbrev F_slices_Clone_secret_visitor_secret_visitor : Nat := 48
theorem ok_slices_Clone_secret_visitor_secret_visitor : FnOk Try.prog 48 8 [.tmp 2] (codeOf Try.f48) := ⟨Try.call48, Try.f48, Try.func48, rfl, rfl, rfl⟩
/-- math/bits.RotateLeft32 -/
abbrev F_math_bits_RotateLeft32 : Nat := 49
theorem ok_math_bits_RotateLeft32 : FnOk Try.prog 49 17 [.tmp 4] (codeOf Try.f49) := ⟨Try.call49, Try.f49, Try.func49, rfl, rfl, rfl⟩
/-- tithingref24.turned -/
abbrev F_tithingref24_turned : Nat := 50
theorem ok_tithingref24_turned : FnOk Try.prog 50 14 [.tmp 4] (codeOf Try.f50) := ⟨Try.call50, Try.f50, Try.func50, rfl, rfl, rfl⟩
/-- rights.isUser -/
abbrev F_rights_isUser : Nat := 51
theorem ok_rights_isUser : FnOk Try.prog 51 50 [.tmp 2] (codeOf Try.f51) := ⟨Try.call51, Try.f51, Try.func51, rfl, rfl, rfl⟩
/-- slices.ContainsFunc[[]api.User,api.User] -/
abbrev F_slices_ContainsFunc_api_User_api_User : Nat := 52
theorem ok_slices_ContainsFunc_api_User_api_User : FnOk Try.prog 52 9 [.tmp 4] (codeOf Try.f52) := ⟨Try.call52, Try.f52, Try.func52, rfl, rfl, rfl⟩
/-- rights.ValidUsers$1 -/
abbrev F_rights_ValidUsers_1 : Nat := 53
theorem ok_rights_ValidUsers_1 : FnOk Try.prog 53 9 [.tmp 3] (codeOf Try.f53) := ⟨Try.call53, Try.f53, Try.func53, rfl, rfl, rfl⟩
/-- octet.Equal -/
abbrev F_octet_Equal : Nat := 54
theorem ok_octet_Equal : FnOk Try.prog 54 10 [.tmp 4] (codeOf Try.f54) := ⟨Try.call54, Try.f54, Try.func54, rfl, rfl, rfl⟩
/-- tithingref01.Equal -/
abbrev F_tithingref01_Equal : Nat := 55
theorem ok_tithingref01_Equal : FnOk Try.prog 55 9 [.tmp 4] (codeOf Try.f55) := ⟨Try.call55, Try.f55, Try.func55, rfl, rfl, rfl⟩
/-- (*tithingref24.Door).place -/
abbrev F_tithingref24_Door_place : Nat := 56
theorem ok_tithingref24_Door_place : FnOk Try.prog 56 26 [.tmp 4] (codeOf Try.f56) := ⟨Try.call56, Try.f56, Try.func56, rfl, rfl, rfl⟩
/-- (*tithingref24.Door).enter -/
abbrev F_tithingref24_Door_enter : Nat := 57
theorem ok_tithingref24_Door_enter : FnOk Try.prog 57 74 [.tmp 6] (codeOf Try.f57) := ⟨Try.call57, Try.f57, Try.func57, rfl, rfl, rfl⟩
/-- rights.within -/
abbrev F_rights_within : Nat := 58
theorem ok_rights_within : FnOk Try.prog 58 15 [.tmp 6] (codeOf Try.f58) := ⟨Try.call58, Try.f58, Try.func58, rfl, rfl, rfl⟩
/-- slices.IndexFunc[[]api.User,api.User] -/
abbrev F_slices_IndexFunc_api_User_api_User : Nat := 59
theorem ok_slices_IndexFunc_api_User_api_User : FnOk Try.prog 59 19 [.tmp 4] (codeOf Try.f59) := ⟨Try.call59, Try.f59, Try.func59, rfl, rfl, rfl⟩
/-- octet.Fold -/
abbrev F_octet_Fold : Nat := 60
theorem ok_octet_Fold : FnOk Try.prog 60 23 [.tmp 2] (codeOf Try.f60) := ⟨Try.call60, Try.f60, Try.func60, rfl, rfl, rfl⟩
/-- tithingref01.Order -/
abbrev F_tithingref01_Order : Nat := 61
theorem ok_tithingref01_Order : FnOk Try.prog 61 46 [.tmp 4] (codeOf Try.f61) := ⟨Try.call61, Try.f61, Try.func61, rfl, rfl, rfl⟩
/-- octet.fold -/
abbrev F_octet_fold : Nat := 62
theorem ok_octet_fold : FnOk Try.prog 62 23 [.tmp 2] (codeOf Try.f62) := ⟨Try.call62, Try.f62, Try.func62, rfl, rfl, rfl⟩
/-- tithingref01.Upper -/
abbrev F_tithingref01_Upper : Nat := 63
theorem ok_tithingref01_Upper : FnOk Try.prog 63 22 [.tmp 2] (codeOf Try.f63) := ⟨Try.call63, Try.f63, Try.func63, rfl, rfl, rfl⟩
end Go.Proofs.Ytccbfajjboccoaa.V
