/- What the types of this translation are, and which functions there are. -/
import Derived.Test.YtngnddnbhlbjbaaChecked
import Derived.Test.YtngnddnbhlbjbaaVcArr
namespace Go.Proofs.Ytngnddnbhlbjbaa.V
open Go Go.Proofs.YtngnddnbhlbjbaaV
def td28 : TypeDesc := .struct #[⟨"By", 3, 0, false, "", "", 0⟩, ⟨"From", 3, 1, false, "", "", 8⟩, ⟨"Many", 3, 2, false, "", "", 16⟩]
def td35 : TypeDesc := .struct #[⟨"Read", 4, 0, false, "", "", 0⟩, ⟨"Write", 4, 1, false, "", "", 1⟩, ⟨"DenyRead", 4, 2, false, "", "", 2⟩, ⟨"DenyWrite", 4, 3, false, "", "", 3⟩]
def codeOf (f : Func) : Code := f.body.getD .skip
def tab : Tab := [(3, ⟨.int .i64, 1, 8, .int .i64 0⟩), (4, ⟨.bool, 1, 1, .bool false⟩), (5, ⟨.int .u8, 1, 1, .int .u8 0⟩), (22, ⟨.slice 28, 1, 24, .slice none 0 0⟩), (23, ⟨.slice 5, 1, 24, .slice none 0 0⟩), (24, ⟨.slice 35, 1, 24, .slice none 0 0⟩), (26, ⟨.array 42 3, 42, 336, .agg #[.int .i64 0, .int .i64 0, .int .i64 0, .int .i64 0, .int .i64 0, .int .i64 0, .int .i64 0, .int .i64 0, .int .i64 0, .int .i64 0, .int .i64 0, .int .i64 0, .int .i64 0, .int .i64 0, .int .i64 0, .int .i64 0, .int .i64 0, .int .i64 0, .int .i64 0, .int .i64 0, .int .i64 0, .int .i64 0, .int .i64 0, .int .i64 0, .int .i64 0, .int .i64 0, .int .i64 0, .int .i64 0, .int .i64 0, .int .i64 0, .int .i64 0, .int .i64 0, .int .i64 0, .int .i64 0, .int .i64 0, .int .i64 0, .int .i64 0, .int .i64 0, .int .i64 0, .int .i64 0, .int .i64 0, .int .i64 0]⟩), (28, ⟨td28, 3, 24, .agg #[.int .i64 0, .int .i64 0, .int .i64 0]⟩), (30, ⟨.pointer 26, 1, 8, .pointer none⟩), (35, ⟨td35, 4, 4, .agg #[.bool false, .bool false, .bool false, .bool false]⟩), (38, ⟨.int .i64, 1, 8, .int .i64 0⟩)]
set_option maxRecDepth 100000 in
theorem tabOk : TabOk Try.prog tab := (TabOk.cons Try.underlying3 (by kernel_rfl) (TabOk.cons Try.underlying4 (by kernel_rfl) (TabOk.cons Try.underlying5 (by kernel_rfl) (TabOk.cons Try.underlying22 (by kernel_rfl) (TabOk.cons Try.underlying23 (by kernel_rfl) (TabOk.cons Try.underlying24 (by kernel_rfl) (TabOk.cons Try.underlying26 (by kernel_rfl) (TabOk.cons Try.underlying28 (by kernel_rfl) (TabOk.cons Try.underlying30 (by kernel_rfl) (TabOk.cons Try.underlying35 (by kernel_rfl) (TabOk.cons Try.underlying38 (by kernel_rfl) TabOk.nil)))))))))))
theorem mixed : Try.prog.follows .mixedOrders = true := by kernel_rfl
/-- tithingtop.TopLocks -/
abbrev F_tithingtop_TopLocks : Nat := 3
theorem ok_tithingtop_TopLocks : FnOk Try.prog 3 159 [.tmp 6] (codeOf Try.f3) := ⟨Try.call3, Try.f3, Try.func3, rfl, rfl, rfl⟩
/-- tithinglaw20.Awake -/
abbrev F_tithinglaw20_Awake : Nat := 4
theorem ok_tithinglaw20_Awake : FnOk Try.prog 4 30 [.tmp 0] (codeOf Try.f4) := ⟨Try.call4, Try.f4, Try.func4, rfl, rfl, rfl⟩
/-- tithingtop.lockDeed -/
abbrev F_tithingtop_lockDeed : Nat := 5
theorem ok_tithingtop_lockDeed : FnOk Try.prog 5 74 [.tmp 8] (codeOf Try.f5) := ⟨Try.call5, Try.f5, Try.func5, rfl, rfl, rfl⟩
/-- lock.Valid -/
abbrev F_lock_Valid : Nat := 6
theorem ok_lock_Valid : FnOk Try.prog 6 43 [.tmp 2] (codeOf Try.f6) := ⟨Try.call6, Try.f6, Try.func6, rfl, rfl, rfl⟩
/-- tithingtop.owned -/
abbrev F_tithingtop_owned : Nat := 7
theorem ok_tithingtop_owned : FnOk Try.prog 7 69 [.tmp 4] (codeOf Try.f7) := ⟨Try.call7, Try.f7, Try.func7, rfl, rfl, rfl⟩
/-- lock.May2 -/
abbrev F_lock_May2 : Nat := 8
theorem ok_lock_May2 : FnOk Try.prog 8 9 [.tmp 4] (codeOf Try.f8) := ⟨Try.call8, Try.f8, Try.func8, rfl, rfl, rfl⟩
/-- lock.Beside -/
abbrev F_lock_Beside : Nat := 9
theorem ok_lock_Beside : FnOk Try.prog 9 18 [.tmp 4] (codeOf Try.f9) := ⟨Try.call9, Try.f9, Try.func9, rfl, rfl, rfl⟩
/-- lock.Lock -/
abbrev F_lock_Lock : Nat := 10
theorem ok_lock_Lock : FnOk Try.prog 10 62 [.tmp 4, .tmp 5] (codeOf Try.f10) := ⟨Try.call10, Try.f10, Try.func10, rfl, rfl, rfl⟩
/-- lock.Unlock -/
abbrev F_lock_Unlock : Nat := 11
theorem ok_lock_Unlock : FnOk Try.prog 11 26 [.tmp 4, .tmp 5] (codeOf Try.f11) := ⟨Try.call11, Try.f11, Try.func11, rfl, rfl, rfl⟩
/-- tithingtop.fill -/
abbrev F_tithingtop_fill : Nat := 12
theorem ok_tithingtop_fill : FnOk Try.prog 12 34 [] (codeOf Try.f12) := ⟨Try.call12, Try.f12, Try.func12, rfl, rfl, rfl⟩
/-- lock.Drop -/
abbrev F_lock_Drop : Nat := 13
theorem ok_lock_Drop : FnOk Try.prog 13 17 [.tmp 4, .tmp 5] (codeOf Try.f13) := ⟨Try.call13, Try.f13, Try.func13, rfl, rfl, rfl⟩
/-- lock.isSpan -/
abbrev F_lock_isSpan : Nat := 14
theorem ok_lock_isSpan : FnOk Try.prog 14 21 [.tmp 2] (codeOf Try.f14) := ⟨Try.call14, Try.f14, Try.func14, rfl, rfl, rfl⟩
/-- lock.meet -/
abbrev F_lock_meet : Nat := 15
theorem ok_lock_meet : FnOk Try.prog 15 16 [.tmp 4] (codeOf Try.f15) := ⟨Try.call15, Try.f15, Try.func15, rfl, rfl, rfl⟩
/-- lock.May -/
abbrev F_lock_May : Nat := 16
theorem ok_lock_May : FnOk Try.prog 16 42 [.tmp 8, .tmp 9] (codeOf Try.f16) := ⟨Try.call16, Try.f16, Try.func16, rfl, rfl, rfl⟩
/-- slices.ContainsFunc[[]api.Mode,api.Mode] -/
abbrev F_slices_ContainsFunc_api_Mode_api_Mode : Nat := 17
theorem ok_slices_ContainsFunc_api_Mode_api_Mode : FnOk Try.prog 17 9 [.tmp 4] (codeOf Try.f17) := ⟨Try.call17, Try.f17, Try.func17, rfl, rfl, rfl⟩
/-- lock.May2$1 -/
abbrev F_lock_May2_1 : Nat := 18
theorem ok_lock_May2_1 : FnOk Try.prog 18 8 [.tmp 3] (codeOf Try.f18) := ⟨Try.call18, Try.f18, Try.func18, rfl, rfl, rfl⟩
/-- lock.Beside$1 -/
abbrev F_lock_Beside_1 : Nat := 19
theorem ok_lock_Beside_1 : FnOk Try.prog 19 19 [.tmp 4] (codeOf Try.f19) := ⟨Try.call19, Try.f19, Try.func19, rfl, rfl, rfl⟩
/-- slices.Insert[[]api.Span,api.Span] -/
abbrev F_slices_Insert_api_Span_api_Span : Nat := 20
theorem ok_slices_Insert_api_Span_api_Span : FnOk Try.prog 20 95 [.tmp 6] (codeOf Try.f20) := ⟨Try.call20, Try.f20, Try.func20, rfl, rfl, rfl⟩
/-- slices.Clone[[]api.Span,api.Span] -/
abbrev F_slices_Clone_api_Span_api_Span : Nat := 21
theorem ok_slices_Clone_api_Span_api_Span : FnOk Try.prog 21 8 [.tmp 2] (codeOf Try.f21) := ⟨Try.call21, Try.f21, Try.func21, rfl, rfl, rfl⟩
/-- slices.Index[[]api.Span,api.Span] -/
abbrev F_slices_Index_api_Span_api_Span : Nat := 22
theorem ok_slices_Index_api_Span_api_Span : FnOk Try.prog 22 19 [.tmp 4] (codeOf Try.f22) := ⟨Try.call22, Try.f22, Try.func22, rfl, rfl, rfl⟩
/-- slices.Delete[[]api.Span,api.Span] -/
abbrev F_slices_Delete_api_Span_api_Span : Nat := 23
theorem ok_slices_Delete_api_Span_api_Span : FnOk Try.prog 23 33 [.tmp 6] (codeOf Try.f23) := ⟨Try.call23, Try.f23, Try.func23, rfl, rfl, rfl⟩
/-- slices.DeleteFunc[[]api.Span,api.Span] -/
abbrev F_slices_DeleteFunc_api_Span_api_Span : Nat := 24
theorem ok_slices_DeleteFunc_api_Span_api_Span : FnOk Try.prog 24 42 [.tmp 4] (codeOf Try.f24) := ⟨Try.call24, Try.f24, Try.func24, rfl, rfl, rfl⟩
/-- lock.Drop$1 -/
abbrev F_lock_Drop_1 : Nat := 25
theorem ok_lock_Drop_1 : FnOk Try.prog 25 8 [.tmp 3] (codeOf Try.f25) := ⟨Try.call25, Try.f25, Try.func25, rfl, rfl, rfl⟩
/-- lock.within -/
abbrev F_lock_within : Nat := 26
theorem ok_lock_within : FnOk Try.prog 26 15 [.tmp 6] (codeOf Try.f26) := ⟨Try.call26, Try.f26, Try.func26, rfl, rfl, rfl⟩
/-- lock.behind -/
abbrev F_lock_behind : Nat := 27
theorem ok_lock_behind : FnOk Try.prog 27 11 [.tmp 2] (codeOf Try.f27) := ⟨Try.call27, Try.f27, Try.func27, rfl, rfl, rfl⟩
/-- slices.ContainsFunc[[]api.Span,api.Span] -/
abbrev F_slices_ContainsFunc_api_Span_api_Span : Nat := 28
theorem ok_slices_ContainsFunc_api_Span_api_Span : FnOk Try.prog 28 9 [.tmp 4] (codeOf Try.f28) := ⟨Try.call28, Try.f28, Try.func28, rfl, rfl, rfl⟩
/-- lock.May$1 -/
abbrev F_lock_May_1 : Nat := 29
theorem ok_lock_May_1 : FnOk Try.prog 29 14 [.tmp 4] (codeOf Try.f29) := ⟨Try.call29, Try.f29, Try.func29, rfl, rfl, rfl⟩
/-- slices.IndexFunc[[]api.Mode,api.Mode] -/
abbrev F_slices_IndexFunc_api_Mode_api_Mode : Nat := 30
theorem ok_slices_IndexFunc_api_Mode_api_Mode : FnOk Try.prog 30 19 [.tmp 4] (codeOf Try.f30) := ⟨Try.call30, Try.f30, Try.func30, rfl, rfl, rfl⟩
/-- slices.rotateRight[api.Span] -/
abbrev F_slices_rotateRight_api_Span : Nat := 32
theorem ok_slices_rotateRight_api_Span : FnOk Try.prog 32 10 [] (codeOf Try.f32) := ⟨Try.call32, Try.f32, Try.func32, rfl, rfl, rfl⟩
/-- slices.IndexFunc[[]api.Span,api.Span] -/
abbrev F_slices_IndexFunc_api_Span_api_Span : Nat := 33
theorem ok_slices_IndexFunc_api_Span_api_Span : FnOk Try.prog 33 19 [.tmp 4] (codeOf Try.f33) := ⟨Try.call33, Try.f33, Try.func33, rfl, rfl, rfl⟩
/-- slices.rotateLeft[api.Span] -/
abbrev F_slices_rotateLeft_api_Span : Nat := 34
theorem ok_slices_rotateLeft_api_Span : FnOk Try.prog 34 14 [] (codeOf Try.f34) := ⟨Try.call34, Try.f34, Try.func34, rfl, rfl, rfl⟩
/-- slices.Reverse[[]api.Span,api.Span] -/
abbrev F_slices_Reverse_api_Span_api_Span : Nat := 35
theorem ok_slices_Reverse_api_Span_api_Span : FnOk Try.prog 35 28 [] (codeOf Try.f35) := ⟨Try.call35, Try.f35, Try.func35, rfl, rfl, rfl⟩
end Go.Proofs.Ytngnddnbhlbjbaa.V
