/- A store: what it does with its disk. -/
import Derived.Test.YtkeapkmjkmbdpaaVO
namespace Go.Proofs.Ytkeapkmjkmbdpaa.V
open Go Go.Proofs.YtkeapkmjkmbdpaaV
set_option linter.unusedVariables false
set_option linter.unusedSimpArgs false
set_option maxHeartbeats 1000000
set_option maxRecDepth 4000
attribute [local irreducible] IntKind.wrap
variable {I : Imm} {w : World} {L : List Asn}
abbrev Ws := List (Int × By)
def wsS : Dk → Ws → Dk × Bool
  | D, [] => ((flS D).1, decide ((flS D).2 = 0))
  | D, x :: r => if (wrS D x.1 x.2).2 = 0 then wsS (wrS D x.1 x.2).1 r else ((wrS D x.1 x.2).1, false)
def inW (n : Nat) (ws : Ws) : Prop := ∀ x ∈ ws, 0 ≤ x.1 ∧ x.1 < n ∧ x.2.length = 256
theorem wrS_blocks (D : Dk) (k : Int) (b : By) : (wrS D k b).1.blocks = D.blocks := by
  unfold wrS
  split
  · rfl
  · split <;> rfl
theorem wrS_writes (D : Dk) (k : Int) (b : By) : (wrS D k b).1.writes ≤ D.writes + 1 := by
  unfold wrS
  split
  · exact Nat.le_succ _
  · split
    · exact Nat.le_succ _
    · exact Nat.le_refl _
theorem wrS_err {D : Dk} {k : Int} {b : By} (h : 0 ≤ k ∧ k < D.blocks.length ∧ b.length = 256) : ((wrS D k b).2 = 0 ∧ D.stop ≠ 0) ∨ ((wrS D k b).2 = 160 ∧ D.stop = 0 ∧ (wrS D k b).1 = D) := by
  unfold wrS
  rw [if_neg (fun hn => hn h)]
  split
  · rename_i h0; exact .inr ⟨rfl, h0, rfl⟩
  · rename_i h0; exact .inl ⟨rfl, h0⟩
theorem flS_blocks (D : Dk) : (flS D).1.blocks.length = D.blocks.length := by
  unfold flS
  split
  · rfl
  · exact putS_len _ _
theorem flS_writes (D : Dk) : (flS D).1.writes = D.writes := by unfold flS; split <;> rfl
theorem flS_err (D : Dk) : (flS D).2 = 0 ∨ (flS D).2 = 160 := by
  unfold flS
  split
  · exact .inr rfl
  · exact .inl rfl
theorem wsS_ok : ∀ (ws : Ws) {D : Dk}, DkOk D → DkOk (wsS D ws).1 := by
  intro ws
  induction ws with
  | nil => exact fun h => flS_ok h
  | cons x r ih =>
    intro D h
    unfold wsS
    split
    · exact ih (wrS_ok h _ _)
    · exact wrS_ok h _ _
theorem wsS_blocks : ∀ (ws : Ws) (D : Dk), (wsS D ws).1.blocks.length = D.blocks.length := by
  intro ws
  induction ws with
  | nil => exact fun D => flS_blocks D
  | cons x r ih =>
    intro D
    unfold wsS
    split
    · rw [ih, wrS_blocks]
    · rw [wrS_blocks]
theorem wsS_writes : ∀ (ws : Ws) (D : Dk), (wsS D ws).1.writes ≤ D.writes + ws.length := by
  intro ws
  induction ws with
  | nil => intro D; unfold wsS; rw [flS_writes]; exact Nat.le_refl _
  | cons x r ih =>
    intro D
    unfold wsS
    have h1 := wrS_writes D x.1 x.2
    split
    · have := ih (wrS D x.1 x.2).1
      rw [List.length_cons]; omega
    · rw [List.length_cons]; show (wrS D x.1 x.2).1.writes ≤ _; omega
def bkW (D : Dk) (h : Nat) (l : List Int) : Ws := (List.range l.length).map fun i => (atD l i, rdB D (h + 1 + i))
theorem bkW_len (D : Dk) (h : Nat) (l : List Int) : (bkW D h l).length = l.length := by unfold bkW; simp
theorem bkW_at (D : Dk) (h : Nat) (l : List Int) {i : Nat} (hi : i < l.length) : atD (bkW D h l) i = (atD l i, rdB D (h + 1 + i)) := atD_of (by unfold bkW; rw [List.getElem?_map, List.getElem?_range hi]; rfl)
instance (b : By) (home : Int) : Decidable (headOk b home) := by unfold headOk; infer_instance
/-- The data of writes, one behind the other. -/
def datS (ws : Ws) : By := ws.flatMap (·.2)
def atS (hd : By) : Nat := 6 + 2 * num hd 4
def sumOk (hd : By) (ws : Ws) : Prop := sumN (datS ws ++ hd.take (atS hd)) = num hd (atS hd)
instance (hd : By) (ws : Ws) : Decidable (sumOk hd ws) := by unfold sumOk; infer_instance
def recW (D : Dk) (h : Nat) : Ws := bkW D h (tgts (rdB D h) (num (rdB D h) 4))
def recA (D : Dk) (h : Nat) : Dk × Bool := if headOk (rdB D h) h ∧ sumOk (rdB D h) (recW D h) then wsS D (recW D h) else (D, true)
def recS (D : Dk) (h : Nat) : Dk × Bool := if (recA D h).2 = false then ((recA D h).1, false) else if rdB D h = zeroB then ((recA D h).1, true) else wsS (recA D h).1 [((h : Int), zeroB)]
def openS (D : Dk) (home : Int) : Dk × Int := if 1 ≤ home ∧ home ≤ 300 ∧ home + 41 ≤ D.blocks.length then ((recS D home.toNat).1, if (recS D home.toNat).2 then 0 else 160) else (D, 2)
theorem recA_ok {D : Dk} (hD : DkOk D) (h : Nat) : DkOk (recA D h).1 := by
  unfold recA
  split
  · exact wsS_ok _ hD
  · exact hD
theorem recS_ok {D : Dk} (hD : DkOk D) (h : Nat) : DkOk (recS D h).1 := by
  unfold recS
  split
  · exact recA_ok hD h
  · split
    · exact recA_ok hD h
    · exact wsS_ok _ (recA_ok hD h)
theorem recA_blocks (D : Dk) (h : Nat) : (recA D h).1.blocks.length = D.blocks.length := by
  unfold recA
  split
  · exact wsS_blocks _ _
  · rfl
theorem recS_blocks (D : Dk) (h : Nat) : (recS D h).1.blocks.length = D.blocks.length := by
  unfold recS
  split
  · exact recA_blocks D h
  · split
    · exact recA_blocks D h
    · rw [wsS_blocks]; exact recA_blocks D h
theorem recA_writes (D : Dk) (h : Nat) : (recA D h).1.writes ≤ D.writes + 40 := by
  unfold recA
  split
  · rename_i hh
    have := wsS_writes (recW D h) D
    have h2 : (recW D h).length ≤ 40 := by unfold recW; rw [bkW_len, tgts_len]; exact hh.1.2.2.2.1
    omega
  · show D.writes ≤ _; omega
theorem recS_writes (D : Dk) (h : Nat) : (recS D h).1.writes ≤ D.writes + 41 := by
  have h1 := recA_writes D h
  unfold recS
  split
  · show (recA D h).1.writes ≤ _; omega
  · split
    · show (recA D h).1.writes ≤ _; omega
    · have := wsS_writes [((h : Int), zeroB)] (recA D h).1
      simp only [List.length_cons, List.length_nil] at this
      omega
theorem datS_take {ws : Ws} {k : Nat} (h : k < ws.length) : datS (ws.take (k + 1)) = datS (ws.take k) ++ (atD ws k).2 := by unfold datS; rw [take_atD h, List.flatMap_append]; simp
theorem datS_len : ∀ {ws : Ws}, (∀ x ∈ ws, x.2.length = 256) → (datS ws).length = 256 * ws.length := by
  intro ws
  induction ws with
  | nil => exact fun _ => rfl
  | cons x r ih =>
    intro h
    have h1 := ih fun y hy => h y (List.mem_cons_of_mem _ hy)
    have h2 := h x List.mem_cons_self
    unfold datS at h1 ⊢
    rw [List.flatMap_cons, List.length_append, h1, h2, List.length_cons]
    omega
def rdOr (D : Dk) (k : Int) : By := if 0 ≤ k ∧ k < D.blocks.length then rdB D k.toNat else []
/-- What is asked of writes. -/
def asked (home : Nat) (ws : Ws) : Int := if (∀ x ∈ ws, 0 ≤ x.1 ∧ x.1 < home ∧ x.2.length = 256) ∧ (ws.map (·.1)).Nodup then (if 40 < ws.length then 4 else 0) else 2
def plW (h : Nat) (ws : Ws) : Ws := (List.range ws.length).map fun i => (((h + 1 + i : Nat) : Int), (atD ws i).2)
theorem plW_len (h : Nat) (ws : Ws) : (plW h ws).length = ws.length := by unfold plW; simp
theorem plW_at (h : Nat) (ws : Ws) {i : Nat} (hi : i < ws.length) : atD (plW h ws) i = (((h + 1 + i : Nat) : Int), (atD ws i).2) := atD_of (by unfold plW; rw [List.getElem?_map, List.getElem?_range hi]; rfl)
def preB (ws : Ws) : By := markB ++ two ws.length ++ ws.flatMap fun x => two x.1.toNat
def headB (ws : Ws) : By := preB ws ++ two (sumN (datS ws ++ preB ws))
def comS (D : Dk) (h : Nat) (ws : Ws) : Dk × Bool :=
  let r1 := wsS D (plW h ws)
  if r1.2 = false then r1 else
  let r2 := wsS r1.1 [((h : Int), padB (headB ws))]
  if r2.2 = false then r2 else
  let r3 := wsS r2.1 ws
  if r3.2 = false then r3 else wsS r3.1 [((h : Int), zeroB)]
/-- A commit: the disk, whether the store is dead, the answer. -/
def commitS (D : Dk) (h : Nat) (dead : Bool) (ws : Ws) : Dk × Bool × Int :=
  if dead then (D, true, 160) else if asked h ws ≠ 0 then (D, false, asked h ws) else if ws = [] then (D, false, 0) else ((comS D h ws).1, !(comS D h ws).2, if (comS D h ws).2 then 0 else 160)
end Go.Proofs.Ytkeapkmjkmbdpaa.V
