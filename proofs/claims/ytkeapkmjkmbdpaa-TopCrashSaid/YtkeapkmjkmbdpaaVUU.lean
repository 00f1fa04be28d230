/- A disk behind crashes is opened. -/
import Derived.Test.YtkeapkmjkmbdpaaVTT
namespace Go.Proofs.Ytkeapkmjkmbdpaa.V
open Go Go.Proofs.YtkeapkmjkmbdpaaV
set_option linter.unusedVariables false
set_option linter.unusedSimpArgs false
set_option maxHeartbeats 1000000
set_option maxRecDepth 4000
attribute [local irreducible] IntKind.wrap
variable {I : Imm} {w : World} {L : List Asn}
theorem openS_in {D : Dk} {h : Nat} (h1 : 1 ≤ h) (h3 : h ≤ 300) (hb : h + 41 ≤ D.blocks.length) : openS D (h : Nat) = ((recS D h).1, if (recS D h).2 then 0 else 160) := by
  unfold openS
  rw [if_pos ⟨by omega, by omega, by omega⟩]
  rfl
theorem crS_in {D : Dk} {done : List Bool} {t : Nat} (ht : t < 256) : crS D done (t : Nat) = (⟨crG done t 0 true D.blocks D.wait, [], D.writes, -1⟩, 0) := by
  unfold crS
  rw [if_pos ⟨by omega, by omega⟩]
  rfl
/-- A disk behind a crash. -/
structure Fell (D : Dk) (h : Nat) (r : Nat → By) : Prop where
  ok : DkOk D
  wait : D.wait = []
  len : h + 41 ≤ D.blocks.length
  res : Res D.blocks h r
theorem Fell.stop {D : Dk} {h : Nat} {r : Nat → By} (f : Fell D h r) {n : Int} (hn : n ≤ 9223372036854775807) : Fell (stS D n) h r := ⟨stS_ok f.ok hn, f.wait, f.len, f.res⟩
theorem Fell.crash {D : Dk} {h : Nat} {r : Nat → By} (hD : DkOk D) (hb : h + 41 ≤ D.blocks.length) (hg : Gd D fun bs => Res bs h r) (done : List Bool) {t : Nat} (ht : t < 256) : Fell (crS D done (t : Nat)).1 h r := by
  have hok := crS_ok hD done (t : Nat)
  rw [crS_in ht] at hok ⊢
  exact ⟨hok, rfl, by show h + 41 ≤ (crG done t 0 true D.blocks D.wait).length; rw [crG_len]; exact hb, hg done t ht⟩
theorem Fell.open_ok {D : Dk} {h : Nat} {r : Nat → By} (f : Fell D h r) (h1 : 1 ≤ h) (h3 : h ≤ 300) (h0 : (openS D (h : Nat)).2 = 0) : Alive (openS D (h : Nat)).1 h r := by
  rw [openS_in h1 h3 f.len] at h0 ⊢
  have e : (recS D h).2 = true := by
    cases hh : (recS D h).2 with
    | true => rfl
    | false => rw [hh] at h0; exact absurd (show (160 : Int) = 0 from h0) (by decide)
  obtain ⟨a, b, c⟩ := (rec_run f.ok f.wait f.len f.res).1 e
  exact ⟨a, b, c⟩
theorem Fell.open_no {D : Dk} {h : Nat} {r : Nat → By} (f : Fell D h r) (h1 : 1 ≤ h) (h3 : h ≤ 300) (h0 : (openS D (h : Nat)).2 ≠ 0) (done : List Bool) {t : Nat} (ht : t < 256) : Fell (crS (openS D (h : Nat)).1 done (t : Nat)).1 h r := by
  rw [openS_in h1 h3 f.len] at h0 ⊢
  have e : (recS D h).2 = false := by
    cases hh : (recS D h).2 with
    | false => rfl
    | true => rw [hh] at h0; exact absurd (show (if true = true then (0 : Int) else 160) = 0 from rfl) h0
  exact Fell.crash (recS_ok f.ok h) (by rw [recS_blocks]; exact f.len) ((rec_run f.ok f.wait f.len f.res).2 e) done ht
theorem Fell.free {D : Dk} {h : Nat} {r : Nat → By} (f : Fell D h r) (h1 : 1 ≤ h) (h3 : h ≤ 300) (hs : D.stop = -1) : (openS D (h : Nat)).2 = 0 := by
  rw [openS_in h1 h3 f.len, rec_free f.ok f.wait f.len hs]
  rfl
theorem crS_stop {D : Dk} {done : List Bool} {t : Nat} (ht : t < 256) : (crS D done (t : Nat)).1.stop = -1 := by rw [crS_in ht]
theorem openS_writes' (D : Dk) (home : Int) : (openS D home).1.writes ≤ D.writes + 41 := by
  unfold openS
  split
  · exact recS_writes _ _
  · exact Nat.le_add_right _ _
theorem openS_blocks' (D : Dk) (home : Int) : (openS D home).1.blocks.length = D.blocks.length := by
  unfold openS
  split
  · exact recS_blocks _ _
  · rfl
theorem crS_writes' (D : Dk) (done : List Bool) (t : Int) : (crS D done t).1.writes = D.writes := by
  unfold crS
  split <;> rfl
theorem crS_blocks' (D : Dk) (done : List Bool) (t : Int) : (crS D done t).1.blocks.length = D.blocks.length := by
  unfold crS
  split
  · exact crG_len _ _ _ _ _ _
  · rfl
theorem Open_no' {d : Nat} {D : Dk} (H : Holds I w (dskA d D :: L)) (hw : D.writes + 100 < 2 ^ 40) {home : Int} (hm1 : -9223372036854775808 ≤ home ∧ home ≤ 9223372036854775807) (h0 : (openS D home).2 ≠ 0) :
    Rets Try.prog F_journal_Open #[ptr d, .int .i64 home] w fun u w' => u = .tuple #[.pointer none, .int .i64 (openS D home).2] ∧ Holds I w' (dskA d (openS D home).1 :: L) :=
  (Open_any H hw hm1).mono fun u w' h => by
    rcases h.out with ⟨he, _⟩ | ⟨_, h1, h2⟩
    · exact absurd he h0
    · exact ⟨h1, h2⟩
end Go.Proofs.Ytkeapkmjkmbdpaa.V
