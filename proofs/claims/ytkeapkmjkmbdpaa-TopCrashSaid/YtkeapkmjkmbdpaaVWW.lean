/- Whatever crashes come, a store has what was committed. -/
import Derived.Test.YtkeapkmjkmbdpaaVVV
namespace Go.Proofs.Ytkeapkmjkmbdpaa.V
open Go Go.Proofs.YtkeapkmjkmbdpaaV
set_option linter.unusedVariables false
set_option linter.unusedSimpArgs false
set_option maxHeartbeats 1000000
set_option maxRecDepth 4000
attribute [local irreducible] IntKind.wrap
variable {I : Imm} {w : World} {L : List Asn}
theorem open_new' {n : Nat} (h1 : 1 ≤ n) (h2 : n ≤ 300) : openS (newS (n + 41)) n = (newS (n + 41), 0) := by
  have ha := new_alive (n := n)
  have hl : (newS (n + 41)).blocks.length = n + 41 := List.length_replicate ..
  rw [openS_in h1 h2 (by omega)]
  have hz : rdB (newS (n + 41)) n = zeroB := (rd_now rfl n).trans ha.zero
  have e1 : recA (newS (n + 41)) n = (newS (n + 41), true) := by
    unfold recA
    rw [if_neg]
    rintro ⟨hh, _⟩
    rw [hz] at hh
    have := headOk_J hh
    rw [zero_at] at this
    exact absurd this (by decide)
  have e : recS (newS (n + 41)) n = (newS (n + 41), true) := by
    unfold recS
    rw [e1, if_neg (fun e => by cases e), if_pos hz]
  rw [e]
  rfl
theorem repL_str (n : Nat) : repL n [.string ⟨#[]⟩] = (List.replicate n ([] : By)).flatMap pgC := by
  unfold repL
  induction n with
  | zero => rfl
  | succ n ih => rw [List.replicate_succ, List.flatten_cons, ih]; rfl
def fillZ (n k : Nat) : List By := List.replicate k zeroB ++ List.replicate (n - k) []
theorem fillZ_len {n k : Nat} (h : k ≤ n) : (fillZ n k).length = n := by unfold fillZ; simp; omega
theorem fillZ_set {n k : Nat} (h : k < n) : (fillZ n k).set k zeroB = fillZ n (k + 1) := by
  unfold fillZ
  rw [List.set_append_right _ _ (by simp)]
  simp only [List.length_replicate, Nat.sub_self]
  rw [show n - k = (n - (k + 1)) + 1 by omega, List.replicate_succ, List.set_cons_zero, List.replicate_succ']
  simp
theorem fillZ_full (n : Nat) : fillZ n n = List.replicate n zeroB := by unfold fillZ; simp
theorem isS_of {D : Dk} {n : Nat} {x l : List By} (h : homeS D n = x) : isS D n false l = if x = l then 1 else 0 := by
  unfold isS
  rw [if_neg (by decide), h]
end Go.Proofs.Ytkeapkmjkmbdpaa.V
