/- A frame, read as data. -/
import Derived.Test.YtpfgcchammlpgaaVP
import Derived.Test.YtpfgcchammlpgaaVcOpen
namespace Go.Proofs.Ytpfgcchammlpgaa.V
open Go Go.Proofs.YtpfgcchammlpgaaV
set_option linter.unusedVariables false
def in64 (a : Int) : Prop := -9223372036854775808 ≤ a ∧ a ≤ 9223372036854775807
theorem wf_i64 {a : Int} (h : (Lit.int .i64 a).wf = true) : in64 a := by
  obtain ⟨h1, h2⟩ := (Bool.and_eq_true ..).mp h
  exact ⟨of_decide_eq_true h1, of_decide_eq_true h2⟩
theorem wf_u8 {a : Int} (h : (Lit.int .u8 a).wf = true) : 0 ≤ a ∧ a < 256 := by
  obtain ⟨h1, h2⟩ := (Bool.and_eq_true ..).mp h
  have h3 : a ≤ 255 := of_decide_eq_true h2
  exact ⟨of_decide_eq_true h1, by omega⟩
theorem opnU8 : Opn Try.prog 5 1 (fun b : UInt8 => [byteV b]) (fun _ _ => True) := ⟨fun _ => rfl, fun h h2 => by
  obtain ⟨n, hn, hw⟩ := (Opn.int Try.underlying5).out h h2
  have hr := wf_u8 hw
  refine ⟨UInt8.ofNat n.toNat, ?_, trivial⟩
  rw [hn]
  show [Value.int .u8 n] = [byteV _]
  rw [u8_of _ (by omega)]
  congr 2
  omega⟩
theorem by_flat' (l : By) : (l.flatMap fun b => [byteV b]) = byL l := by
  induction l with
  | nil => rfl
  | cons b r ih => rw [List.flatMap_cons, ih]; rfl
theorem byS {I : Imm} {v : Value} {l : By} (h : SlI I v 1 l.length (l.flatMap fun b => [byteV b])) : SlI I v 1 l.length (byL l) := by_flat' l ▸ h
/-- A frame that is handed in. -/
structure Fx where mk ::
  kind : Int
  id : Int
  seq : Int
  n : Int
  data : SlD UInt8
def fxC (x : Fx) : List Value := [.int .i64 x.kind, .int .i64 x.id, .int .i64 x.seq, .int .i64 x.n, SlD.v x.data]
theorem fxC_len (x : Fx) : (fxC x).length = 5 := rfl
def Fx.fr (x : Fx) : Fr := ⟨x.kind, x.id, x.seq, x.n, x.data.2.2⟩
structure FxOk (I : Imm) (x : Fx) : Prop where
  kind : in64 x.kind
  id : in64 x.id
  seq : in64 x.seq
  n : in64 x.n
  data : SlI I (SlD.v x.data) 1 x.data.2.2.length (byL x.data.2.2)
  len : x.data.2.2.length ≤ 140737488355328
theorem opnFr : Opn Try.prog 24 5 fxC (fun w a => FxOk (Imm.of w) a) := by
  have h : Opn Try.prog 24 5 _ _ := Opn.struct Try.underlying24 (by kernel_rfl) (OpnF.cons rfl (by kernel_rfl) rfl (Opn.int Try.underlying3) (OpnF.cons rfl (by kernel_rfl) rfl (Opn.int Try.underlying3) (OpnF.cons rfl (by kernel_rfl) rfl (Opn.int Try.underlying3) (OpnF.cons rfl (by kernel_rfl) rfl (Opn.int Try.underlying3) (OpnF.one rfl (by kernel_rfl) (Opn.slice Try.underlying22 (by kernel_rfl) (by decide) opnU8))))))
  exact Opn.iso (fun a : Int × Int × Int × Int × SlD UInt8 => (⟨a.1, a.2.1, a.2.2.1, a.2.2.2.1, a.2.2.2.2⟩ : Fx)) (fun _ => rfl) (fun ⟨a, b, c, d, e⟩ => ⟨(a, b, c, d, e), rfl⟩) (fun w a ha => by
    obtain ⟨h1, h2, h3, h4, h5, h6, _⟩ := ha
    refine ⟨wf_i64 h1, wf_i64 h2, wf_i64 h3, wf_i64 h4, byS h5, ?_⟩
    show a.2.2.2.2.2.2.length ≤ _
    have : Try.prog.bytesOf 5 = 1 := by kernel_rfl
    rw [this] at h6
    omega) h
theorem StreamValid_row {I : Imm} {w : World} {L : List Asn} (H : Holds I w L) (x : Fx) (h : FxOk I x) : Rets Try.prog F_tithinglaw12_StreamValid #[.agg (fxC x).toArray] w fun u w' => u = .bool true ∧ Holds I w' L :=
  StreamValid_any (f := x.fr) H h.data h.len
end Go.Proofs.Ytpfgcchammlpgaa.V
