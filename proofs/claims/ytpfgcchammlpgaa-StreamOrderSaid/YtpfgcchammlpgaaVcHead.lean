/- What the types of this translation are, and which functions there are. -/
import Derived.Test.YtpfgcchammlpgaaChecked
import Derived.Test.YtpfgcchammlpgaaVcRound
namespace Go.Proofs.Ytpfgcchammlpgaa.V
open Go Go.Proofs.YtpfgcchammlpgaaV
def td24 : TypeDesc := .struct #[⟨"Kind", 3, 0, false, "", "", 0⟩, ⟨"Id", 3, 1, false, "", "", 8⟩, ⟨"Seq", 3, 2, false, "", "", 16⟩, ⟨"N", 3, 3, false, "", "", 24⟩, ⟨"Data", 22, 4, false, "", "", 32⟩]
def td28 : TypeDesc := .struct #[⟨"Number", 3, 0, false, "", "", 0⟩, ⟨"First", 3, 1, false, "", "", 8⟩]
def td35 : TypeDesc := .struct #[⟨"Do", 3, 0, false, "", "", 0⟩, ⟨"N", 3, 1, false, "", "", 8⟩, ⟨"A", 4, 2, false, "", "", 16⟩, ⟨"Data", 22, 3, false, "", "", 24⟩]
def td47 : TypeDesc := .struct #[⟨"ends", 37, 0, false, "", "tithing/tithinglaw12", 0⟩, ⟨"refs", 39, 2, false, "", "tithing/tithinglaw12", 16⟩, ⟨"fly", 41, 4, false, "", "tithing/tithinglaw12", 32⟩, ⟨"put", 43, 6, false, "", "tithing/tithinglaw12", 80⟩, ⟨"read", 43, 8, false, "", "tithing/tithinglaw12", 128⟩, ⟨"sent", 45, 10, false, "", "tithing/tithinglaw12", 176⟩, ⟨"Mismatch", 4, 12, false, "", "", 224⟩]
def td56 : TypeDesc := .struct #[⟨"number", 3, 0, false, "", "tithing/stream", 0⟩, ⟨"other", 3, 1, false, "", "tithing/stream", 8⟩, ⟨"state", 3, 2, false, "", "tithing/stream", 16⟩, ⟨"first", 3, 3, false, "", "tithing/stream", 24⟩, ⟨"unseen", 3, 4, false, "", "tithing/stream", 32⟩, ⟨"out", 22, 5, false, "", "tithing/stream", 40⟩, ⟨"ends", 54, 6, false, "", "tithing/stream", 64⟩, ⟨"room", 3, 7, false, "", "tithing/stream", 88⟩, ⟨"want", 3, 8, false, "", "tithing/stream", 96⟩, ⟨"in", 22, 9, false, "", "tithing/stream", 104⟩, ⟨"marks", 54, 10, false, "", "tithing/stream", 128⟩, ⟨"resets", 4, 11, false, "", "tithing/stream", 152⟩, ⟨"resetAt", 3, 12, false, "", "tithing/stream", 160⟩, ⟨"news", 22, 13, false, "", "tithing/stream", 168⟩, ⟨"isNews", 4, 14, false, "", "tithing/stream", 192⟩, ⟨"seq", 3, 15, false, "", "tithing/stream", 200⟩, ⟨"next", 3, 16, false, "", "tithing/stream", 208⟩, ⟨"codes", 51, 17, false, "", "tithing/stream", 216⟩, ⟨"age", 3, 18, false, "", "tithing/stream", 240⟩, ⟨"quiet", 3, 19, false, "", "tithing/stream", 248⟩]
def td83 : TypeDesc := .struct #[⟨"Do", 3, 0, false, "", "", 0⟩, ⟨"N", 3, 1, false, "", "", 8⟩, ⟨"Data", 22, 2, false, "", "", 16⟩, ⟨"Frame", 24, 3, false, "", "", 40⟩]
def td88 : TypeDesc := .struct #[⟨"Number", 3, 0, false, "", "", 0⟩, ⟨"Other", 3, 1, false, "", "", 8⟩, ⟨"State", 3, 2, false, "", "", 16⟩, ⟨"First", 3, 3, false, "", "", 24⟩, ⟨"Base", 3, 4, false, "", "", 32⟩, ⟨"Out", 86, 5, false, "", "", 40⟩, ⟨"Window", 3, 6, false, "", "", 64⟩, ⟨"Want", 3, 7, false, "", "", 72⟩, ⟨"In", 86, 8, false, "", "", 80⟩, ⟨"Silent", 3, 9, false, "", "", 104⟩, ⟨"Ticks", 3, 10, false, "", "", 112⟩, ⟨"Resetting", 4, 11, false, "", "", 120⟩, ⟨"ResetAt", 3, 12, false, "", "", 128⟩, ⟨"Attending", 4, 13, false, "", "", 136⟩, ⟨"Attends", 22, 14, false, "", "", 144⟩, ⟨"AttendSeq", 3, 15, false, "", "", 168⟩, ⟨"AttendIn", 3, 16, false, "", "", 176⟩, ⟨"Attended", 51, 17, false, "", "", 184⟩]
def td102 : TypeDesc := .struct #[⟨"B", 5, 0, false, "", "", 0⟩, ⟨"End", 4, 1, false, "", "", 1⟩]
def td105 : TypeDesc := .struct #[⟨"B", 5, 0, false, "", "", 0⟩, ⟨"End", 4, 1, false, "", "", 1⟩]
def codeOf (f : Func) : Code := f.body.getD .skip
def tab : Tab := [(3, ⟨.int .i64, 1, 8, .int .i64 0⟩), (4, ⟨.bool, 1, 1, .bool false⟩), (5, ⟨.int .u8, 1, 1, .int .u8 0⟩), (9, ⟨.string, 1, 16, .string ⟨#[]⟩⟩), (22, ⟨.slice 5, 1, 24, .slice none 0 0⟩), (24, ⟨td24, 5, 56, .agg #[.int .i64 0, .int .i64 0, .int .i64 0, .int .i64 0, .slice none 0 0]⟩), (28, ⟨td28, 2, 16, .agg #[.int .i64 0, .int .i64 0]⟩), (29, ⟨.slice 35, 1, 24, .slice none 0 0⟩), (31, ⟨.pointer 47, 1, 8, .pointer none⟩), (35, ⟨td35, 4, 48, .agg #[.int .i64 0, .int .i64 0, .bool false, .slice none 0 0]⟩), (36, ⟨.pointer 56, 1, 8, .pointer none⟩), (37, ⟨.array 2 36, 2, 16, .agg #[.pointer none, .pointer none]⟩), (38, ⟨.pointer 88, 1, 8, .pointer none⟩), (39, ⟨.array 2 38, 2, 16, .agg #[.pointer none, .pointer none]⟩), (40, ⟨.slice 24, 1, 24, .slice none 0 0⟩), (41, ⟨.array 2 40, 2, 48, .agg #[.slice none 0 0, .slice none 0 0]⟩), (42, ⟨.slice 102, 1, 24, .slice none 0 0⟩), (43, ⟨.array 2 42, 2, 48, .agg #[.slice none 0 0, .slice none 0 0]⟩), (44, ⟨.slice 9, 1, 24, .slice none 0 0⟩), (45, ⟨.array 2 44, 2, 48, .agg #[.slice none 0 0, .slice none 0 0]⟩), (47, ⟨td47, 13, 232, .agg #[.pointer none, .pointer none, .pointer none, .pointer none, .slice none 0 0, .slice none 0 0, .slice none 0 0, .slice none 0 0, .slice none 0 0, .slice none 0 0, .slice none 0 0, .slice none 0 0, .bool false]⟩), (51, ⟨.slice 22, 1, 24, .slice none 0 0⟩), (54, ⟨.slice 3, 1, 24, .slice none 0 0⟩), (56, ⟨td56, 20, 256, .agg #[.int .i64 0, .int .i64 0, .int .i64 0, .int .i64 0, .int .i64 0, .slice none 0 0, .slice none 0 0, .int .i64 0, .int .i64 0, .slice none 0 0, .slice none 0 0, .bool false, .int .i64 0, .slice none 0 0, .bool false, .int .i64 0, .int .i64 0, .slice none 0 0, .int .i64 0, .int .i64 0]⟩), (57, ⟨.slice 36, 1, 24, .slice none 0 0⟩), (58, ⟨.int .i64, 1, 8, .int .i64 0⟩), (75, ⟨.array 2 28, 4, 32, .agg #[.int .i64 0, .int .i64 0, .int .i64 0, .int .i64 0]⟩), (83, ⟨td83, 8, 96, .agg #[.int .i64 0, .int .i64 0, .slice none 0 0, .int .i64 0, .int .i64 0, .int .i64 0, .int .i64 0, .slice none 0 0]⟩), (86, ⟨.slice 105, 1, 24, .slice none 0 0⟩), (88, ⟨td88, 18, 208, .agg #[.int .i64 0, .int .i64 0, .int .i64 0, .int .i64 0, .int .i64 0, .slice none 0 0, .int .i64 0, .int .i64 0, .slice none 0 0, .int .i64 0, .int .i64 0, .bool false, .int .i64 0, .bool false, .slice none 0 0, .int .i64 0, .int .i64 0, .slice none 0 0]⟩), (102, ⟨td102, 2, 2, .agg #[.int .u8 0, .bool false]⟩), (105, ⟨td105, 2, 2, .agg #[.int .u8 0, .bool false]⟩)]
set_option maxRecDepth 100000 in
theorem tabOk : TabOk Try.prog tab := (TabOk.cons Try.underlying3 (by kernel_rfl) (TabOk.cons Try.underlying4 (by kernel_rfl) (TabOk.cons Try.underlying5 (by kernel_rfl) (TabOk.cons Try.underlying9 (by kernel_rfl) (TabOk.cons Try.underlying22 (by kernel_rfl) (TabOk.cons Try.underlying24 (by kernel_rfl) (TabOk.cons Try.underlying28 (by kernel_rfl) (TabOk.cons Try.underlying29 (by kernel_rfl) (TabOk.cons Try.underlying31 (by kernel_rfl) (TabOk.cons Try.underlying35 (by kernel_rfl) (TabOk.cons Try.underlying36 (by kernel_rfl) (TabOk.cons Try.underlying37 (by kernel_rfl) (TabOk.cons Try.underlying38 (by kernel_rfl) (TabOk.cons Try.underlying39 (by kernel_rfl) (TabOk.cons Try.underlying40 (by kernel_rfl) (TabOk.cons Try.underlying41 (by kernel_rfl) (TabOk.cons Try.underlying42 (by kernel_rfl) (TabOk.cons Try.underlying43 (by kernel_rfl) (TabOk.cons Try.underlying44 (by kernel_rfl) (TabOk.cons Try.underlying45 (by kernel_rfl) (TabOk.cons Try.underlying47 (by kernel_rfl) (TabOk.cons Try.underlying51 (by kernel_rfl) (TabOk.cons Try.underlying54 (by kernel_rfl) (TabOk.cons Try.underlying56 (by kernel_rfl) (TabOk.cons Try.underlying57 (by kernel_rfl) (TabOk.cons Try.underlying58 (by kernel_rfl) (TabOk.cons Try.underlying75 (by kernel_rfl) (TabOk.cons Try.underlying83 (by kernel_rfl) (TabOk.cons Try.underlying86 (by kernel_rfl) (TabOk.cons Try.underlying88 (by kernel_rfl) (TabOk.cons Try.underlying102 (by kernel_rfl) (TabOk.cons Try.underlying105 (by kernel_rfl) TabOk.nil))))))))))))))))))))))))))))))))
theorem mixed : Try.prog.follows .mixedOrders = true := by kernel_rfl
/-- tithinglaw12.StreamValid -/
abbrev F_tithinglaw12_StreamValid : Nat := 3
theorem ok_tithinglaw12_StreamValid : FnOk Try.prog 3 17 [.tmp 2] (codeOf Try.f3) := ⟨Try.call3, Try.f3, Try.func3, rfl, rfl, rfl⟩
/-- tithinglaw12.StreamPairs -/
abbrev F_tithinglaw12_StreamPairs : Nat := 4
theorem ok_tithinglaw12_StreamPairs : FnOk Try.prog 4 64 [.tmp 6] (codeOf Try.f4) := ⟨Try.call4, Try.f4, Try.func4, rfl, rfl, rfl⟩
/-- tithinglaw12.StreamOrder -/
abbrev F_tithinglaw12_StreamOrder : Nat := 5
theorem ok_tithinglaw12_StreamOrder : FnOk Try.prog 5 41 [.tmp 6] (codeOf Try.f5) := ⟨Try.call5, Try.f5, Try.func5, rfl, rfl, rfl⟩
/-- tithinglaw12.StreamAll -/
abbrev F_tithinglaw12_StreamAll : Nat := 6
theorem ok_tithinglaw12_StreamAll : FnOk Try.prog 6 125 [.tmp 6] (codeOf Try.f6) := ⟨Try.call6, Try.f6, Try.func6, rfl, rfl, rfl⟩
/-- tithinglaw12.StreamNils -/
abbrev F_tithinglaw12_StreamNils : Nat := 7
theorem ok_tithinglaw12_StreamNils : FnOk Try.prog 7 148 [.tmp 4] (codeOf Try.f7) := ⟨Try.call7, Try.f7, Try.func7, rfl, rfl, rfl⟩
/-- stream.Valid -/
abbrev F_stream_Valid : Nat := 8
theorem ok_stream_Valid : FnOk Try.prog 8 135 [.tmp 2] (codeOf Try.f8) := ⟨Try.call8, Try.f8, Try.func8, rfl, rfl, rfl⟩
/-- tithingref12.Valid -/
abbrev F_tithingref12_Valid : Nat := 9
theorem ok_tithingref12_Valid : FnOk Try.prog 9 133 [.tmp 2] (codeOf Try.f9) := ⟨Try.call9, Try.f9, Try.func9, rfl, rfl, rfl⟩
/-- tithinglaw12.Awake -/
abbrev F_tithinglaw12_Awake : Nat := 10
theorem ok_tithinglaw12_Awake : FnOk Try.prog 10 98 [.tmp 0] (codeOf Try.f10) := ⟨Try.call10, Try.f10, Try.func10, rfl, rfl, rfl⟩
/-- tithinglaw12.LongMoves -/
abbrev F_tithinglaw12_LongMoves : Nat := 11
theorem ok_tithinglaw12_LongMoves : FnOk Try.prog 11 20 [.tmp 2] (codeOf Try.f11) := ⟨Try.call11, Try.f11, Try.func11, rfl, rfl, rfl⟩
/-- tithinglaw12.NewPair -/
abbrev F_tithinglaw12_NewPair : Nat := 12
theorem ok_tithinglaw12_NewPair : FnOk Try.prog 12 64 [.tmp 4] (codeOf Try.f12) := ⟨Try.call12, Try.f12, Try.func12, rfl, rfl, rfl⟩
/-- (*tithinglaw12.Pair).Do -/
abbrev F_tithinglaw12_Pair_Do : Nat := 13
theorem ok_tithinglaw12_Pair_Do : FnOk Try.prog 13 200 [] (codeOf Try.f13) := ⟨Try.call13, Try.f13, Try.func13, rfl, rfl, rfl⟩
/-- tithinglaw12.same -/
abbrev F_tithinglaw12_same : Nat := 14
theorem ok_tithinglaw12_same : FnOk Try.prog 14 64 [.tmp 4] (codeOf Try.f14) := ⟨Try.call14, Try.f14, Try.func14, rfl, rfl, rfl⟩
/-- (*tithinglaw12.Pair).Right -/
abbrev F_tithinglaw12_Pair_Right : Nat := 15
theorem ok_tithinglaw12_Pair_Right : FnOk Try.prog 15 61 [.tmp 2] (codeOf Try.f15) := ⟨Try.call15, Try.f15, Try.func15, rfl, rfl, rfl⟩
/-- (*tithinglaw12.Pair).opened -/
abbrev F_tithinglaw12_Pair_opened : Nat := 16
theorem ok_tithinglaw12_Pair_opened : FnOk Try.prog 16 81 [.tmp 2] (codeOf Try.f16) := ⟨Try.call16, Try.f16, Try.func16, rfl, rfl, rfl⟩
/-- (*tithinglaw12.Pair).settles -/
abbrev F_tithinglaw12_Pair_settles : Nat := 17
theorem ok_tithinglaw12_Pair_settles : FnOk Try.prog 17 54 [] (codeOf Try.f17) := ⟨Try.call17, Try.f17, Try.func17, rfl, rfl, rfl⟩
/-- (*stream.End).Attention -/
abbrev F_stream_End_Attention : Nat := 18
theorem ok_stream_End_Attention : FnOk Try.prog 18 24 [.tmp 2] (codeOf Try.f18) := ⟨Try.call18, Try.f18, Try.func18, rfl, rfl, rfl⟩
/-- (*stream.End).State -/
abbrev F_stream_End_State : Nat := 19
theorem ok_stream_End_State : FnOk Try.prog 19 9 [.tmp 2] (codeOf Try.f19) := ⟨Try.call19, Try.f19, Try.func19, rfl, rfl, rfl⟩
/-- (*stream.End).Waiting -/
abbrev F_stream_End_Waiting : Nat := 20
theorem ok_stream_End_Waiting : FnOk Try.prog 20 10 [.tmp 2] (codeOf Try.f20) := ⟨Try.call20, Try.f20, Try.func20, rfl, rfl, rfl⟩
/-- (*stream.End).Read -/
abbrev F_stream_End_Read : Nat := 21
theorem ok_stream_End_Read : FnOk Try.prog 21 88 [.tmp 4, .tmp 5, .tmp 6] (codeOf Try.f21) := ⟨Try.call21, Try.f21, Try.func21, rfl, rfl, rfl⟩
/-- (*stream.End).Take -/
abbrev F_stream_End_Take : Nat := 22
theorem ok_stream_End_Take : FnOk Try.prog 22 219 [.tmp 4, .tmp 5] (codeOf Try.f22) := ⟨Try.call22, Try.f22, Try.func22, rfl, rfl, rfl⟩
/-- (*stream.End).Tick -/
abbrev F_stream_End_Tick : Nat := 23
theorem ok_stream_End_Tick : FnOk Try.prog 23 137 [.tmp 2, .tmp 3] (codeOf Try.f23) := ⟨Try.call23, Try.f23, Try.func23, rfl, rfl, rfl⟩
/-- (*stream.End).Close -/
abbrev F_stream_End_Close : Nat := 24
theorem ok_stream_End_Close : FnOk Try.prog 24 19 [.cell 2 24, .tmp 3] (codeOf Try.f24) := ⟨Try.call24, Try.f24, Try.func24, rfl, rfl, rfl⟩
/-- (*stream.End).Open -/
abbrev F_stream_End_Open : Nat := 25
theorem ok_stream_End_Open : FnOk Try.prog 25 5 [.tmp 2] (codeOf Try.f25) := ⟨Try.call25, Try.f25, Try.func25, rfl, rfl, rfl⟩
/-- (*stream.End).Listen -/
abbrev F_stream_End_Listen : Nat := 26
theorem ok_stream_End_Listen : FnOk Try.prog 26 5 [.tmp 2] (codeOf Try.f26) := ⟨Try.call26, Try.f26, Try.func26, rfl, rfl, rfl⟩
/-- (*stream.End).Put -/
abbrev F_stream_End_Put : Nat := 27
theorem ok_stream_End_Put : FnOk Try.prog 27 57 [.tmp 6] (codeOf Try.f27) := ⟨Try.call27, Try.f27, Try.func27, rfl, rfl, rfl⟩
/-- (*stream.End).Reset -/
abbrev F_stream_End_Reset : Nat := 28
theorem ok_stream_End_Reset : FnOk Try.prog 28 38 [.tmp 2] (codeOf Try.f28) := ⟨Try.call28, Try.f28, Try.func28, rfl, rfl, rfl⟩
/-- (*stream.End).Attend -/
abbrev F_stream_End_Attend : Nat := 29
theorem ok_stream_End_Attend : FnOk Try.prog 29 28 [.tmp 4] (codeOf Try.f29) := ⟨Try.call29, Try.f29, Try.func29, rfl, rfl, rfl⟩
/-- tithingref12.SameFrame -/
abbrev F_tithingref12_SameFrame : Nat := 30
theorem ok_tithingref12_SameFrame : FnOk Try.prog 30 40 [.tmp 4] (codeOf Try.f30) := ⟨Try.call30, Try.f30, Try.func30, rfl, rfl, rfl⟩
/-- (*stream.End).Ready -/
abbrev F_stream_End_Ready : Nat := 31
theorem ok_stream_End_Ready : FnOk Try.prog 31 10 [.tmp 2] (codeOf Try.f31) := ⟨Try.call31, Try.f31, Try.func31, rfl, rfl, rfl⟩
/-- (*stream.End).Copy -/
abbrev F_stream_End_Copy : Nat := 32
theorem ok_stream_End_Copy : FnOk Try.prog 32 45 [.tmp 2] (codeOf Try.f32) := ⟨Try.call32, Try.f32, Try.func32, rfl, rfl, rfl⟩
/-- tithingref12.in -/
abbrev F_tithingref12_in : Nat := 33
theorem ok_tithingref12_in : FnOk Try.prog 33 15 [.tmp 6] (codeOf Try.f33) := ⟨Try.call33, Try.f33, Try.func33, rfl, rfl, rfl⟩
/-- stream.New -/
abbrev F_stream_New : Nat := 34
theorem ok_stream_New : FnOk Try.prog 34 25 [.tmp 4, .tmp 5] (codeOf Try.f34) := ⟨Try.call34, Try.f34, Try.func34, rfl, rfl, rfl⟩
/-- tithingref12.New -/
abbrev F_tithingref12_New : Nat := 35
theorem ok_tithingref12_New : FnOk Try.prog 35 19 [.tmp 4, .tmp 5] (codeOf Try.f35) := ⟨Try.call35, Try.f35, Try.func35, rfl, rfl, rfl⟩
/-- (*tithinglaw12.Pair).puts -/
abbrev F_tithinglaw12_Pair_puts : Nat := 36
theorem ok_tithinglaw12_Pair_puts : FnOk Try.prog 36 78 [] (codeOf Try.f36) := ⟨Try.call36, Try.f36, Try.func36, rfl, rfl, rfl⟩
/-- (*tithinglaw12.Pair).reads -/
abbrev F_tithinglaw12_Pair_reads : Nat := 37
theorem ok_tithinglaw12_Pair_reads : FnOk Try.prog 37 89 [.tmp 6] (codeOf Try.f37) := ⟨Try.call37, Try.f37, Try.func37, rfl, rfl, rfl⟩
/-- (*tithingref12.End).Attend -/
abbrev F_tithingref12_End_Attend : Nat := 38
theorem ok_tithingref12_End_Attend : FnOk Try.prog 38 29 [.tmp 4] (codeOf Try.f38) := ⟨Try.call38, Try.f38, Try.func38, rfl, rfl, rfl⟩
/-- (*tithinglaw12.Pair).differ -/
abbrev F_tithinglaw12_Pair_differ : Nat := 39
theorem ok_tithinglaw12_Pair_differ : FnOk Try.prog 39 15 [] (codeOf Try.f39) := ⟨Try.call39, Try.f39, Try.func39, rfl, rfl, rfl⟩
/-- (*tithingref12.End).Close -/
abbrev F_tithingref12_End_Close : Nat := 40
theorem ok_tithingref12_End_Close : FnOk Try.prog 40 18 [.cell 2 24, .tmp 3] (codeOf Try.f40) := ⟨Try.call40, Try.f40, Try.func40, rfl, rfl, rfl⟩
/-- tithinglaw12.do -/
abbrev F_tithinglaw12_do : Nat := 41
theorem ok_tithinglaw12_do : FnOk Try.prog 41 166 [.tmp 6] (codeOf Try.f41) := ⟨Try.call41, Try.f41, Try.func41, rfl, rfl, rfl⟩
/-- tithingref12.SameFrames -/
abbrev F_tithingref12_SameFrames : Nat := 42
theorem ok_tithingref12_SameFrames : FnOk Try.prog 42 27 [.tmp 4] (codeOf Try.f42) := ⟨Try.call42, Try.f42, Try.func42, rfl, rfl, rfl⟩
/-- (*tithingref12.End).Tick -/
abbrev F_tithingref12_End_Tick : Nat := 43
theorem ok_tithingref12_End_Tick : FnOk Try.prog 43 118 [.tmp 2] (codeOf Try.f43) := ⟨Try.call43, Try.f43, Try.func43, rfl, rfl, rfl⟩
/-- (*tithinglaw12.Pair).flies -/
abbrev F_tithinglaw12_Pair_flies : Nat := 44
theorem ok_tithinglaw12_Pair_flies : FnOk Try.prog 44 119 [] (codeOf Try.f44) := ⟨Try.call44, Try.f44, Try.func44, rfl, rfl, rfl⟩
/-- tithinglaw12.begins -/
abbrev F_tithinglaw12_begins : Nat := 45
theorem ok_tithinglaw12_begins : FnOk Try.prog 45 26 [.tmp 4] (codeOf Try.f45) := ⟨Try.call45, Try.f45, Try.func45, rfl, rfl, rfl⟩
/-- tithinglaw12.attended -/
abbrev F_tithinglaw12_attended : Nat := 46
theorem ok_tithinglaw12_attended : FnOk Try.prog 46 27 [.tmp 4] (codeOf Try.f46) := ⟨Try.call46, Try.f46, Try.func46, rfl, rfl, rfl⟩
/-- (*stream.End).none -/
abbrev F_stream_End_none : Nat := 47
theorem ok_stream_End_none : FnOk Try.prog 47 12 [.tmp 2] (codeOf Try.f47) := ⟨Try.call47, Try.f47, Try.func47, rfl, rfl, rfl⟩
/-- slices.Clone[[]byte,byte] -/
abbrev F_slices_Clone_byte_byte : Nat := 48
theorem ok_slices_Clone_byte_byte : FnOk Try.prog 48 8 [.tmp 2] (codeOf Try.f48) := ⟨Try.call48, Try.f48, Try.func48, rfl, rfl, rfl⟩
/-- (*stream.End).opening -/
abbrev F_stream_End_opening : Nat := 49
theorem ok_stream_End_opening : FnOk Try.prog 49 17 [.cell 4 24] (codeOf Try.f49) := ⟨Try.call49, Try.f49, Try.func49, rfl, rfl, rfl⟩
/-- (*stream.End).frame -/
abbrev F_stream_End_frame : Nat := 50
theorem ok_stream_End_frame : FnOk Try.prog 50 21 [.cell 8 24] (codeOf Try.f50) := ⟨Try.call50, Try.f50, Try.func50, rfl, rfl, rfl⟩
/-- (*stream.End).tail -/
abbrev F_stream_End_tail : Nat := 51
theorem ok_stream_End_tail : FnOk Try.prog 51 11 [.tmp 2] (codeOf Try.f51) := ⟨Try.call51, Try.f51, Try.func51, rfl, rfl, rfl⟩
/-- (*stream.End).heed -/
abbrev F_stream_End_heed : Nat := 52
theorem ok_stream_End_heed : FnOk Try.prog 52 47 [.tmp 4] (codeOf Try.f52) := ⟨Try.call52, Try.f52, Try.func52, rfl, rfl, rfl⟩
/-- (*stream.End).heard -/
abbrev F_stream_End_heard : Nat := 53
theorem ok_stream_End_heard : FnOk Try.prog 53 92 [] (codeOf Try.f53) := ⟨Try.call53, Try.f53, Try.func53, rfl, rfl, rfl⟩
/-- (*stream.End).take -/
abbrev F_stream_End_take : Nat := 54
theorem ok_stream_End_take : FnOk Try.prog 54 81 [] (codeOf Try.f54) := ⟨Try.call54, Try.f54, Try.func54, rfl, rfl, rfl⟩
/-- stream.from -/
abbrev F_stream_from : Nat := 55
theorem ok_stream_from : FnOk Try.prog 55 10 [.tmp 4] (codeOf Try.f55) := ⟨Try.call55, Try.f55, Try.func55, rfl, rfl, rfl⟩
/-- (*stream.End).sent -/
abbrev F_stream_End_sent : Nat := 56
theorem ok_stream_End_sent : FnOk Try.prog 56 73 [.tmp 4] (codeOf Try.f56) := ⟨Try.call56, Try.f56, Try.func56, rfl, rfl, rfl⟩
/-- (*stream.End).asked -/
abbrev F_stream_End_asked : Nat := 57
theorem ok_stream_End_asked : FnOk Try.prog 57 12 [.tmp 2] (codeOf Try.f57) := ⟨Try.call57, Try.f57, Try.func57, rfl, rfl, rfl⟩
/-- (*stream.End).begin -/
abbrev F_stream_End_begin : Nat := 58
theorem ok_stream_End_begin : FnOk Try.prog 58 18 [.tmp 4] (codeOf Try.f58) := ⟨Try.call58, Try.f58, Try.func58, rfl, rfl, rfl⟩
/-- stream.plus -/
abbrev F_stream_plus : Nat := 59
theorem ok_stream_plus : FnOk Try.prog 59 9 [.tmp 4] (codeOf Try.f59) := ⟨Try.call59, Try.f59, Try.func59, rfl, rfl, rfl⟩
/-- slices.Clone[[]int,int] -/
abbrev F_slices_Clone_int_int : Nat := 60
theorem ok_slices_Clone_int_int : FnOk Try.prog 60 8 [.tmp 2] (codeOf Try.f60) := ⟨Try.call60, Try.f60, Try.func60, rfl, rfl, rfl⟩
/-- slices.Clone[[][]byte,[]byte] -/
abbrev F_slices_Clone_byte_byte_2 : Nat := 61
theorem ok_slices_Clone_byte_byte_2 : FnOk Try.prog 61 8 [.tmp 2] (codeOf Try.f61) := ⟨Try.call61, Try.f61, Try.func61, rfl, rfl, rfl⟩
/-- (*tithingref12.End).Put -/
abbrev F_tithingref12_End_Put : Nat := 62
theorem ok_tithingref12_End_Put : FnOk Try.prog 62 56 [.tmp 6] (codeOf Try.f62) := ⟨Try.call62, Try.f62, Try.func62, rfl, rfl, rfl⟩
/-- (*tithingref12.End).Read -/
abbrev F_tithingref12_End_Read : Nat := 63
theorem ok_tithingref12_End_Read : FnOk Try.prog 63 46 [.tmp 4, .tmp 5, .tmp 6] (codeOf Try.f63) := ⟨Try.call63, Try.f63, Try.func63, rfl, rfl, rfl⟩
/-- (*tithingref12.End).Open -/
abbrev F_tithingref12_End_Open : Nat := 64
theorem ok_tithingref12_End_Open : FnOk Try.prog 64 5 [.tmp 2] (codeOf Try.f64) := ⟨Try.call64, Try.f64, Try.func64, rfl, rfl, rfl⟩
/-- (*tithingref12.End).Listen -/
abbrev F_tithingref12_End_Listen : Nat := 65
theorem ok_tithingref12_End_Listen : FnOk Try.prog 65 5 [.tmp 2] (codeOf Try.f65) := ⟨Try.call65, Try.f65, Try.func65, rfl, rfl, rfl⟩
/-- (*tithingref12.End).Reset -/
abbrev F_tithingref12_End_Reset : Nat := 66
theorem ok_tithingref12_End_Reset : FnOk Try.prog 66 35 [.tmp 2] (codeOf Try.f66) := ⟨Try.call66, Try.f66, Try.func66, rfl, rfl, rfl⟩
/-- (*tithingref12.End).Take -/
abbrev F_tithingref12_End_Take : Nat := 67
theorem ok_tithingref12_End_Take : FnOk Try.prog 67 78 [.tmp 4, .tmp 5] (codeOf Try.f67) := ⟨Try.call67, Try.f67, Try.func67, rfl, rfl, rfl⟩
/-- (*tithingref12.End).hello -/
abbrev F_tithingref12_End_hello : Nat := 68
theorem ok_tithingref12_End_hello : FnOk Try.prog 68 17 [.cell 4 24] (codeOf Try.f68) := ⟨Try.call68, Try.f68, Try.func68, rfl, rfl, rfl⟩
/-- (*tithingref12.End).frame -/
abbrev F_tithingref12_End_frame : Nat := 69
theorem ok_tithingref12_End_frame : FnOk Try.prog 69 21 [.cell 8 24] (codeOf Try.f69) := ⟨Try.call69, Try.f69, Try.func69, rfl, rfl, rfl⟩
/-- (*tithingref12.End).sends -/
abbrev F_tithingref12_End_sends : Nat := 70
theorem ok_tithingref12_End_sends : FnOk Try.prog 70 84 [.tmp 2] (codeOf Try.f70) := ⟨Try.call70, Try.f70, Try.func70, rfl, rfl, rfl⟩
/-- (*tithingref12.End).seen -/
abbrev F_tithingref12_End_seen : Nat := 71
theorem ok_tithingref12_End_seen : FnOk Try.prog 71 7 [.cell 2 24] (codeOf Try.f71) := ⟨Try.call71, Try.f71, Try.func71, rfl, rfl, rfl⟩
/-- (*stream.End).window -/
abbrev F_stream_End_window : Nat := 72
theorem ok_stream_End_window : FnOk Try.prog 72 9 [.tmp 2] (codeOf Try.f72) := ⟨Try.call72, Try.f72, Try.func72, rfl, rfl, rfl⟩
/-- (*tithingref12.End).begin -/
abbrev F_tithingref12_End_begin : Nat := 73
theorem ok_tithingref12_End_begin : FnOk Try.prog 73 14 [.tmp 4] (codeOf Try.f73) := ⟨Try.call73, Try.f73, Try.func73, rfl, rfl, rfl⟩
/-- (*tithingref12.End).learn -/
abbrev F_tithingref12_End_learn : Nat := 74
theorem ok_tithingref12_End_learn : FnOk Try.prog 74 19 [] (codeOf Try.f74) := ⟨Try.call74, Try.f74, Try.func74, rfl, rfl, rfl⟩
/-- (*tithingref12.End).acknowledged -/
abbrev F_tithingref12_End_acknowledged : Nat := 75
theorem ok_tithingref12_End_acknowledged : FnOk Try.prog 75 31 [] (codeOf Try.f75) := ⟨Try.call75, Try.f75, Try.func75, rfl, rfl, rfl⟩
/-- (*tithingref12.End).does -/
abbrev F_tithingref12_End_does : Nat := 76
theorem ok_tithingref12_End_does : FnOk Try.prog 76 148 [.tmp 4] (codeOf Try.f76) := ⟨Try.call76, Try.f76, Try.func76, rfl, rfl, rfl⟩
/-- (*tithingref12.End).room -/
abbrev F_tithingref12_End_room : Nat := 77
theorem ok_tithingref12_End_room : FnOk Try.prog 77 9 [.tmp 2] (codeOf Try.f77) := ⟨Try.call77, Try.f77, Try.func77, rfl, rfl, rfl⟩
/-- (*tithingref12.End).window -/
abbrev F_tithingref12_End_window : Nat := 78
theorem ok_tithingref12_End_window : FnOk Try.prog 78 12 [.tmp 2] (codeOf Try.f78) := ⟨Try.call78, Try.f78, Try.func78, rfl, rfl, rfl⟩
/-- tithingref12.ahead -/
abbrev F_tithingref12_ahead : Nat := 79
theorem ok_tithingref12_ahead : FnOk Try.prog 79 10 [.tmp 4] (codeOf Try.f79) := ⟨Try.call79, Try.f79, Try.func79, rfl, rfl, rfl⟩
/-- (*tithingref12.End).data -/
abbrev F_tithingref12_End_data : Nat := 80
theorem ok_tithingref12_End_data : FnOk Try.prog 80 67 [] (codeOf Try.f80) := ⟨Try.call80, Try.f80, Try.func80, rfl, rfl, rfl⟩
/-- (*tithingref12.End).attention -/
abbrev F_tithingref12_End_attention : Nat := 81
theorem ok_tithingref12_End_attention : FnOk Try.prog 81 48 [.tmp 4] (codeOf Try.f81) := ⟨Try.call81, Try.f81, Try.func81, rfl, rfl, rfl⟩
end Go.Proofs.Ytpfgcchammlpgaa.V
