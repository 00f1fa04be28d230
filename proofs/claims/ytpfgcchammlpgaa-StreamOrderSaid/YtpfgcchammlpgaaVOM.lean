/- Moves and sides, read as data. -/
import Derived.Test.YtpfgcchammlpgaaVAM
import Derived.Test.YtpfgcchammlpgaaVOP
namespace Go.Proofs.Ytpfgcchammlpgaa.V
open Go Go.Proofs.YtpfgcchammlpgaaV
set_option linter.unusedVariables false
theorem opnMv : Opn Try.prog 35 4 mxC (fun w a => MxOk (Imm.of w) a) := by
  have h : Opn Try.prog 35 4 _ _ := Opn.struct Try.underlying35 (by kernel_rfl) (OpnF.cons rfl (by kernel_rfl) rfl (Opn.int Try.underlying3) (OpnF.cons rfl (by kernel_rfl) rfl (Opn.int Try.underlying3) (OpnF.cons rfl (by kernel_rfl) rfl (Opn.bool Try.underlying4) (OpnF.one rfl (by kernel_rfl) (Opn.slice Try.underlying22 (by kernel_rfl) (by decide) opnU8)))))
  exact Opn.iso (fun a : Int × Int × Bool × SlD UInt8 => (⟨a.1, a.2.1, a.2.2.1, a.2.2.2⟩ : Mx)) (fun _ => rfl) (fun ⟨a, b, c, d⟩ => ⟨(a, b, c, d), rfl⟩) (fun w a ha => by
    obtain ⟨h1, h2, h3, h4, h5, _⟩ := ha
    exact ⟨(wf_i64 h2).2, byS h4⟩) h
structure Sx where mk ::
  n : Int
  f : Int
def sxC (x : Sx) : List Value := [.int .i64 x.n, .int .i64 x.f]
theorem opnSi : Opn Try.prog 28 2 sxC (fun w a => True) := by
  have h : Opn Try.prog 28 2 _ _ := Opn.struct Try.underlying28 (by kernel_rfl) (OpnF.cons rfl (by kernel_rfl) rfl (Opn.int Try.underlying3) (OpnF.one rfl (by kernel_rfl) (Opn.int Try.underlying3)))
  exact Opn.iso (fun a : Int × Int => (⟨a.1, a.2⟩ : Sx)) (fun _ => rfl) (fun ⟨a, b⟩ => ⟨(a, b), rfl⟩) (fun w a ha => trivial) h
theorem maxLen_mv {n : Nat} (h : n * Try.prog.bytesOf 35 ≤ 140737488351232) : n ≤ 140737488355328 := by
  have : Try.prog.bytesOf 35 = 48 := by kernel_rfl
  rw [this] at h
  omega
theorem StreamPairs_row {I : Imm} {w : World} {L : List Asn} (H : Holds I w L) (x0 x1 : Sx) {v : Value} {l : List Mx} (hv : SlI I v 4 l.length (l.flatMap mxC)) (hn : l.length ≤ 140737488355328) (ho : ∀ x ∈ l, MxOk I x) : Rets Try.prog F_tithinglaw12_StreamPairs #[.agg (sxC x0).toArray, .agg (sxC x1).toArray, v] w fun u w' => u = .bool true ∧ Holds I w' L :=
  StreamPairs_any H hv ho hn
end Go.Proofs.Ytpfgcchammlpgaa.V
