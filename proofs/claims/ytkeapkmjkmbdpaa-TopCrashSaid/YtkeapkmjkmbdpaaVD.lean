/- A disk: what it is, and how it lies in memory. -/
import Derived.Test.YtkeapkmjkmbdpaaVB
namespace Go.Proofs.Ytkeapkmjkmbdpaa.V
open Go Go.Proofs.YtkeapkmjkmbdpaaV
set_option linter.unusedVariables false
set_option linter.unusedSimpArgs false
set_option maxHeartbeats 1000000
set_option maxRecDepth 4000
attribute [local irreducible] IntKind.wrap
variable {I : Imm} {w : World} {L : List Asn}
/-- A slice value and its bytes. -/
abbrev Vb := Value × By
instance : Inhabited Value := ⟨.bool false⟩
/-- Some slices of bytes, each in memory of its own. -/
def bysA : List Vb → Asn
  | [] => emp
  | x :: r => star (own x.1 5 1 x.2.length (byL x.2)) (bysA r)
theorem bys_nil : Holds I w (bysA [] :: L) ↔ Holds I w L := Holds.emp
theorem bys_cons {x : Vb} {r : List Vb} : Holds I w (bysA (x :: r) :: L) ↔ Holds I w (own x.1 5 1 x.2.length (byL x.2) :: bysA r :: L) := Holds.star
theorem bys_perm {xs ys : List Vb} (h : xs.Perm ys) : ∀ {L : List Asn}, Holds I w (bysA xs :: L) → Holds I w (bysA ys :: L) := by
  induction h with
  | nil => exact fun H => H
  | cons x h ih =>
    intro L H
    exact bys_cons.2 (ih (bys_cons.1 H).swap).swap
  | swap x y l =>
    intro L H
    have H1 := bys_cons.1 H
    have H2 := bys_cons.1 H1.swap
    exact bys_cons.2 (bys_cons.2 (H2.re [2, 1, 0] rfl)).swap
  | trans h1 h2 ih1 ih2 => exact fun H => ih2 (ih1 H)
theorem perm_pick {α : Type} {xs : List α} {k : Nat} {x : α} (h : xs[k]? = some x) : xs.Perm (x :: xs.eraseIdx k) := by
  induction xs generalizing k with
  | nil => cases h
  | cons y r ih =>
    cases k with
    | zero => simp only [List.getElem?_cons_zero, Option.some.injEq] at h; subst h; exact List.Perm.refl _
    | succ k =>
      simp only [List.getElem?_cons_succ] at h
      rw [List.eraseIdx_cons_succ]
      exact ((ih h).cons y).trans (List.Perm.swap _ _ _)
theorem perm_put {α : Type} {xs : List α} {k : Nat} {y : α} (h : k < xs.length) : (xs.set k y).Perm (y :: xs.eraseIdx k) := by
  have h1 := perm_pick (xs := xs.set k y) (k := k) (x := y) (by rw [List.getElem?_set_self h])
  rwa [List.eraseIdx_set_eq] at h1
theorem bys_take {xs : List Vb} {k : Nat} {x : Vb} (h : xs[k]? = some x) (H : Holds I w (bysA xs :: L)) : Holds I w (own x.1 5 1 x.2.length (byL x.2) :: bysA (xs.eraseIdx k) :: L) := bys_cons.1 (bys_perm (perm_pick h) H)
theorem bys_put {xs : List Vb} {k : Nat} {y : Vb} (h : k < xs.length) (H : Holds I w (own y.1 5 1 y.2.length (byL y.2) :: bysA (xs.eraseIdx k) :: L)) : Holds I w (bysA (xs.set k y) :: L) := bys_perm (perm_put h).symm (bys_cons.2 H)
theorem bys_snoc {xs : List Vb} {y : Vb} (H : Holds I w (own y.1 5 1 y.2.length (byL y.2) :: bysA xs :: L)) : Holds I w (bysA (xs ++ [y]) :: L) := bys_perm (List.perm_append_comm (l₁ := [y])) (bys_cons.2 H)
theorem bys_rd {xs : List Vb} {x : Vb} (h : x ∈ xs) (H : Holds I w (bysA xs :: L)) : SlR I (bysA xs :: L) x.1 1 x.2.length (byL x.2) := by
  obtain ⟨k, hk, hx⟩ := List.getElem_of_mem h
  have h1 : xs[k]? = some x := by rw [List.getElem?_eq_getElem hk, hx]
  exact (bys_take h1 H).own_toR.more fun w H => bys_take h1 H
theorem bys_move {bl r : List Vb} {y : Vb} {i : Nat} (hi : i < bl.length) (H : Holds I w (bysA (bl ++ y :: r) :: L)) : Holds I w (bysA (bl.set i y ++ r) :: L) := by
  have h1 : (bl ++ y :: r).Perm (atD bl i :: ((y :: bl.eraseIdx i) ++ r)) := by
    have h2 : (bl ++ y :: r).Perm ((atD bl i :: bl.eraseIdx i) ++ y :: r) := (perm_pick (atD_get hi)).append_right _
    refine h2.trans ?_
    simp only [List.cons_append]
    refine List.Perm.cons _ ?_
    exact List.perm_middle
  have H2 := (bys_cons.1 (bys_perm h1 H)).drop
  exact bys_perm ((perm_put hi).symm.append_right _) H2
theorem bys_left {xs ys : List Vb} : ∀ {L : List Asn}, Holds I w (bysA (xs ++ ys) :: L) → Holds I w (bysA xs :: L) := by
  induction xs with
  | nil => exact fun H => bys_nil.2 H.drop
  | cons x r ih =>
    intro L H
    exact bys_cons.2 (ih (bys_cons.1 H).swap).swap
/-! ### What a disk is -/
structure Dk where mk ::
  blocks : List By
  wait : List (Nat × By)
  writes : Nat
  stop : Int
/-- What is kept of it in memory. -/
structure Kd where mk ::
  bl : List Vb
  wt : List (Nat × Vb)
  writes : Nat
  stop : Int
def Kd.dk (P : Kd) : Dk := ⟨P.bl.map (·.2), P.wt.map (fun x => (x.1, x.2.2)), P.writes, P.stop⟩
def bkC (x : Vb) : List Value := [x.1]
theorem bkC_len (x : Vb) : (bkC x).length = 1 := rfl
def wkC (x : Nat × Vb) : List Value := [.int .i64 (x.1 : Int), x.2.1]
theorem wkC_len (x : Nat × Vb) : (wkC x).length = 2 := rfl
structure DkOk (D : Dk) : Prop where
  some : 0 < D.blocks.length
  few : D.blocks.length ≤ 650
  len : ∀ b ∈ D.blocks, b.length = 256
  wait : ∀ x ∈ D.wait, x.1 < D.blocks.length ∧ x.2.length = 256
  many : D.wait.length ≤ D.writes
  low : -1 ≤ D.stop
  high : D.stop ≤ 9223372036854775807
abbrev dkV (P : Kd) (bv wv : Value) : List Value := [bv, wv, .int .i64 (P.writes : Int), .int .i64 P.stop]
abbrev Kd.all (P : Kd) : List Vb := P.bl ++ P.wt.map (·.2)
/-- The program's disk. -/
def dskA (d : Nat) (D : Dk) : Asn := ex fun x : Value × Value × Kd => fact (x.2.2.dk = D ∧ DkOk D) (star (blk d 53 (dkV x.2.2 x.1 x.2.1)) (star (own x.1 40 1 x.2.2.bl.length (x.2.2.bl.flatMap bkC)) (star (own x.2.1 43 2 x.2.2.wt.length (x.2.2.wt.flatMap wkC)) (bysA x.2.2.all))))
theorem dsk_iff {d : Nat} {D : Dk} : Holds I w (dskA d D :: L) ↔ ∃ bv wv P, Kd.dk P = D ∧ DkOk D ∧ Holds I w (blk d 53 (dkV P bv wv) :: own bv 40 1 P.bl.length (P.bl.flatMap bkC) :: own wv 43 2 P.wt.length (P.wt.flatMap wkC) :: bysA P.all :: L) := by
  unfold dskA
  rw [Holds.ex]
  constructor
  · rintro ⟨⟨bv, wv, P⟩, H⟩
    obtain ⟨⟨h1, h2⟩, H⟩ := Holds.fact.1 H
    refine ⟨bv, wv, P, h1, h2, ?_⟩
    have H := Holds.star.1 H
    have H := Holds.star.1 H.swap
    have H := Holds.star.1 (H.re [1, 0, 0] rfl)
    exact H.re [3, 2, 0, 0] rfl
  · rintro ⟨bv, wv, P, h1, h2, H⟩
    refine ⟨⟨bv, wv, P⟩, Holds.fact.2 ⟨⟨h1, h2⟩, ?_⟩⟩
    refine Holds.star.2 (Holds.swap ?_)
    refine Holds.star.2 (Holds.swap ?_)
    refine Holds.star.2 (Holds.swap ?_)
    exact H.re [3, 2, 1, 0] rfl
structure KdOk (P : Kd) : Prop where
  ok : DkOk P.dk
  bl : ∀ x ∈ P.bl, x.2.length = 256
  wt : ∀ x ∈ P.wt, x.1 < P.bl.length ∧ x.2.2.length = 256
  some : 0 < P.bl.length
  few : P.bl.length ≤ 650
  many : P.wt.length ≤ P.writes
theorem DkOk.kd {P : Kd} (h : DkOk P.dk) : KdOk P := ⟨h, fun x hx => h.len _ (List.mem_map_of_mem hx), fun x hx => by
  have := h.wait _ (List.mem_map_of_mem hx)
  simpa [Kd.dk] using this, by simpa [Kd.dk] using h.some, by simpa [Kd.dk] using h.few, by simpa [Kd.dk] using h.many⟩
/-! ### What is done with it -/
def rdB (D : Dk) (k : Nat) : By := D.wait.foldl (fun o x => if x.1 = k then x.2 else o) (atD D.blocks k)
def inD (D : Dk) (k : Int) : Bool := decide (0 ≤ k ∧ k < D.blocks.length)
/-- Whether bytes may be written there, then what a write leaves and tells. -/
def wrS (D : Dk) (k : Int) (b : By) : Dk × Int :=
  if ¬ (0 ≤ k ∧ k < D.blocks.length ∧ b.length = 256) then (D, 2)
  else if D.stop = 0 then (D, 160)
  else (⟨D.blocks, D.wait ++ [(k.toNat, b)], D.writes + 1, max (D.stop - 1) (-1)⟩, 0)
def putS (bs : List By) (ws : List (Nat × By)) : List By := ws.foldl (fun bs x => bs.set x.1 x.2) bs
def flS (D : Dk) : Dk × Int := if D.stop = 0 then (D, 160) else (⟨putS D.blocks D.wait, [], D.writes, D.stop⟩, 0)
/-- A crash: block by block; the number of the write, whether one was torn already. -/
def crG (done : List Bool) (torn : Nat) : Nat → Bool → List By → List (Nat × By) → List By
  | _, _, bs, [] => bs
  | i, first, bs, x :: r =>
    if i < done.length ∧ atD done i = true then crG done torn (i + 1) first (bs.set x.1 x.2) r
    else if first then crG done torn (i + 1) false (bs.set x.1 (x.2.take torn ++ (atD bs x.1).drop torn)) r
    else crG done torn (i + 1) first bs r
def crS (D : Dk) (done : List Bool) (torn : Int) : Dk × Int :=
  if 0 ≤ torn ∧ torn < 256 then (⟨crG done torn.toNat 0 true D.blocks D.wait, [], D.writes, -1⟩, 0) else (D, 2)
def stS (D : Dk) (n : Int) : Dk := ⟨D.blocks, D.wait, D.writes, max n (-1)⟩
def newS (n : Nat) : Dk := ⟨List.replicate n zeroB, [], 0, -1⟩
theorem zeroB_len : zeroB.length = 256 := fullB_len 0
theorem newS_ok {n : Nat} (h0 : 0 < n) (h1 : n ≤ 650) : DkOk (newS n) := ⟨by simpa [newS] using h0, by simpa [newS] using h1, fun b hb => by
  rw [List.eq_of_mem_replicate hb]; exact zeroB_len, fun x hx => (by cases hx), Nat.le_refl _, by show (-1 : Int) ≤ -1; omega, by show (-1 : Int) ≤ _; omega⟩
theorem wrS_ok {D : Dk} (h : DkOk D) (k : Int) (b : By) : DkOk (wrS D k b).1 := by
  unfold wrS
  split
  · exact h
  · rename_i h1
    split
    · exact h
    · refine ⟨h.some, h.few, h.len, fun x hx => ?_, ?_, ?_, ?_⟩
      · rcases List.mem_append.1 hx with hx | hx
        · exact h.wait x hx
        · simp only [List.mem_singleton] at hx
          subst hx
          exact ⟨by show k.toNat < D.blocks.length; omega, by show b.length = 256; omega⟩
      · have := h.many
        show (D.wait ++ [(k.toNat, b)]).length ≤ D.writes + 1
        simp; omega
      · show -1 ≤ max (D.stop - 1) (-1); omega
      · have := h.high; show max (D.stop - 1) (-1) ≤ _; omega
theorem putS_len (ws : List (Nat × By)) : ∀ bs : List By, (putS bs ws).length = bs.length := by
  unfold putS
  induction ws with
  | nil => exact fun bs => rfl
  | cons x r ih => intro bs; rw [List.foldl_cons, ih]; simp
theorem putS_all (ws : List (Nat × By)) (hw : ∀ x ∈ ws, x.2.length = 256) : ∀ bs : List By, (∀ b ∈ bs, b.length = 256) → ∀ b ∈ putS bs ws, b.length = 256 := by
  unfold putS
  induction ws with
  | nil => exact fun bs h => h
  | cons x r ih =>
    intro bs h
    rw [List.foldl_cons]
    refine ih (fun y hy => hw y (List.mem_cons_of_mem _ hy)) _ fun b hb => ?_
    rcases List.mem_or_eq_of_mem_set hb with hb | rfl
    · exact h b hb
    · exact hw x List.mem_cons_self
theorem flS_ok {D : Dk} (h : DkOk D) : DkOk (flS D).1 := by
  unfold flS
  split
  · exact h
  · exact ⟨by show 0 < (putS D.blocks D.wait).length; rw [putS_len]; exact h.some, by show (putS D.blocks D.wait).length ≤ 650; rw [putS_len]; exact h.few,
      putS_all _ (fun x hx => (h.wait x hx).2) _ h.len, fun x hx => (by cases hx), Nat.zero_le _, h.low, h.high⟩
theorem crG_len (done : List Bool) (torn : Nat) (ws : List (Nat × By)) : ∀ (i : Nat) (f : Bool) (bs : List By), (crG done torn i f bs ws).length = bs.length := by
  induction ws with
  | nil => exact fun i f bs => rfl
  | cons x r ih =>
    intro i f bs
    unfold crG
    split
    · rw [ih]; simp
    · split
      · rw [ih]; simp
      · rw [ih]
theorem torn_len {a b : By} (ha : a.length = 256) (hb : b.length = 256) {t : Nat} (ht : t ≤ 256) : (a.take t ++ b.drop t).length = 256 := by simp; omega
theorem crG_all (done : List Bool) {torn : Nat} (ht : torn ≤ 256) (ws : List (Nat × By)) : ∀ (i : Nat) (f : Bool) (bs : List By), (∀ x ∈ ws, x.1 < bs.length ∧ x.2.length = 256) → (∀ b ∈ bs, b.length = 256) → ∀ b ∈ crG done torn i f bs ws, b.length = 256 := by
  induction ws with
  | nil => exact fun i f bs hw h => h
  | cons x r ih =>
    intro i f bs hw h
    have hx := hw x List.mem_cons_self
    have hr : ∀ y ∈ r, y.1 < bs.length ∧ y.2.length = 256 := fun y hy => hw y (List.mem_cons_of_mem _ hy)
    unfold crG
    split
    · refine ih _ _ _ (by simpa using hr) fun b hb => ?_
      rcases List.mem_or_eq_of_mem_set hb with hb | rfl
      · exact h b hb
      · exact hx.2
    · split
      · refine ih _ _ _ (by simpa using hr) fun b hb => ?_
        rcases List.mem_or_eq_of_mem_set hb with hb | rfl
        · exact h b hb
        · exact torn_len hx.2 (h _ (atD_mem hx.1)) ht
      · exact ih _ _ _ hr h
theorem crS_ok {D : Dk} (h : DkOk D) (done : List Bool) (torn : Int) : DkOk (crS D done torn).1 := by
  unfold crS
  split
  · exact ⟨by show 0 < (crG _ _ _ _ _ _).length; rw [crG_len]; exact h.some, by show (crG _ _ _ _ _ _).length ≤ 650; rw [crG_len]; exact h.few,
      crG_all _ (by omega) _ _ _ _ h.wait h.len, fun x hx => (by cases hx), Nat.zero_le _, by show (-1 : Int) ≤ -1; omega, by show (-1 : Int) ≤ _; omega⟩
  · exact h
theorem stS_ok {D : Dk} (h : DkOk D) {n : Int} (hn : n ≤ 9223372036854775807) : DkOk (stS D n) := ⟨h.some, h.few, h.len, h.wait, h.many, by show -1 ≤ max n (-1); omega, by show max n (-1) ≤ _; omega⟩
end Go.Proofs.Ytkeapkmjkmbdpaa.V
