/- What a crash may make of a disk, and what is found behind it. -/
import Derived.Test.YtkeapkmjkmbdpaaVSS
namespace Go.Proofs.Ytkeapkmjkmbdpaa.V
open Go Go.Proofs.YtkeapkmjkmbdpaaV
set_option linter.unusedVariables false
set_option linter.unusedSimpArgs false
set_option maxHeartbeats 1000000
set_option maxRecDepth 4000
def dkB (bs : List By) : Dk := ⟨bs, [], 0, -1⟩
/-- What the journal says. -/
def recB (bs : List By) (h : Nat) : Ws := bkW (dkB bs) h (tgts (atD bs h) (num (atD bs h) 4))
def hdV (bs : List By) (h : Nat) : Prop := headOk (atD bs h) h ∧ sumOk (atD bs h) (recB bs h)
instance (bs : List By) (h : Nat) : Decidable (hdV bs h) := by unfold hdV; infer_instance
def putK (ws : Ws) (k : Nat) (o : By) : By := ws.foldl (fun o x => if x.1.toNat = k then x.2 else o) o
/-- What a home block is behind an opening. -/
def resF (bs : List By) (h k : Nat) : By := if hdV bs h then putK (recB bs h) k (atD bs k) else atD bs k
def Res (bs : List By) (h : Nat) (r : Nat → By) : Prop := ∀ k, k < h → resF bs h k = r k
theorem putK_no {k : Nat} : ∀ {ws : Ws} {o : By}, (∀ x ∈ ws, x.1.toNat ≠ k) → putK ws k o = o := by
  intro ws
  induction ws with
  | nil => exact fun _ => rfl
  | cons x r ih =>
    intro o h
    show putK r k (if x.1.toNat = k then x.2 else o) = o
    rw [if_neg (h x List.mem_cons_self)]
    exact ih fun y hy => h y (List.mem_cons_of_mem _ hy)
theorem putK_yes {k : Nat} : ∀ {ws : Ws} {o o' : By}, (∃ x ∈ ws, x.1.toNat = k) → putK ws k o = putK ws k o' := by
  intro ws
  induction ws with
  | nil => rintro o o' ⟨x, hx, _⟩; cases hx
  | cons x r ih =>
    rintro o o' ⟨y, hy, hk⟩
    show putK r k (if x.1.toNat = k then x.2 else o) = putK r k (if x.1.toNat = k then x.2 else o')
    by_cases hr : ∃ z ∈ r, z.1.toNat = k
    · exact ih hr
    · rcases List.mem_cons.1 hy with rfl | hy
      · rw [if_pos hk, if_pos hk]
      · exact absurd ⟨y, hy, hk⟩ hr
theorem putK_idem (ws : Ws) (k : Nat) (o : By) : putK ws k (putK ws k o) = putK ws k o := by
  by_cases h : ∃ x ∈ ws, x.1.toNat = k
  · exact putK_yes h
  · have h' : ∀ x ∈ ws, x.1.toNat ≠ k := fun x hx e => h ⟨x, hx, e⟩
    rw [putK_no h', putK_no h']
theorem rd_now {D : Dk} (h : D.wait = []) (k : Nat) : rdB D k = atD D.blocks k := by unfold rdB; rw [h]; rfl
theorem recW_now {D : Dk} (h : D.wait = []) (ho : Nat) : recW D ho = recB D.blocks ho := by
  unfold recW recB bkW
  rw [rd_now h]
  refine List.map_congr_left fun i _ => ?_
  rw [rd_now h]
  rfl
theorem recB_len {bs : List By} {h : Nat} : (recB bs h).length = num (atD bs h) 4 := by unfold recB; rw [bkW_len, tgts_len]
theorem recB_at {bs : List By} {h i : Nat} (hi : i < num (atD bs h) 4) : atD (recB bs h) i = (tgtAt (atD bs h) i, atD bs (h + 1 + i)) := by
  unfold recB
  rw [bkW_at _ _ _ (by rw [tgts_len]; exact hi), atD_of (tgts_at hi)]
  rfl
theorem recB_congr {bs cs : List By} {h : Nat} (e : atD cs h = atD bs h) (hn : num (atD bs h) 4 ≤ 40) (hj : ∀ i, i < 40 → atD cs (h + 1 + i) = atD bs (h + 1 + i)) : recB cs h = recB bs h := by
  refine ext_atD (by rw [recB_len, recB_len, e]) fun i hi => ?_
  rw [recB_len] at hi
  rw [recB_at hi, recB_at (by rw [← e]; exact hi), e, hj i (by rw [e] at hi; omega)]
theorem hdV_congr {bs cs : List By} {h : Nat} (e : atD cs h = atD bs h) (hj : ∀ i, i < 40 → atD cs (h + 1 + i) = atD bs (h + 1 + i)) : hdV cs h ↔ hdV bs h := by
  unfold hdV
  rw [e]
  refine and_congr_right fun hk => ?_
  rw [recB_congr e hk.2.2.2.1 hj]
theorem recB_in {bs : List By} {h : Nat} (hv : hdV bs h) (hl : ∀ b ∈ bs, b.length = 256) (hb : h + 41 ≤ bs.length) : inW h (recB bs h) := by
  intro x hx
  obtain ⟨i, hi, rfl⟩ := mem_atD hx
  rw [recB_len] at hi
  have h40 := hv.1.2.2.2.1
  rw [recB_at hi]
  refine ⟨?_, hv.1.2.2.2.2.1 _ (List.mem_of_getElem? (tgts_at hi)), hl _ (atD_mem (by omega))⟩
  show (0 : Int) ≤ ((num _ _ : Nat) : Int)
  omega
abbrev cvW (x : Int × By) : Nat × By := (x.1.toNat, x.2)
theorem putS_at : ∀ {ws : Ws} {bs : List By} {k : Nat}, (∀ x ∈ ws, x.1.toNat < bs.length) → atD (putS bs (ws.map cvW)) k = putK ws k (atD bs k) := by
  intro ws
  induction ws with
  | nil => exact fun _ => rfl
  | cons x r ih =>
    intro bs k h
    have h1 := h x List.mem_cons_self
    show atD (putS (bs.set x.1.toNat x.2) (r.map cvW)) k = putK r k (if x.1.toNat = k then x.2 else atD bs k)
    rw [ih fun y hy => by rw [List.length_set]; exact h y (List.mem_cons_of_mem _ hy)]
    congr 1
    split
    · rename_i e
      subst e
      exact atD_set_eq h1
    · rename_i e
      exact atD_set_ne e
/-- How a run of writes ends. -/
theorem wsS_cases : ∀ (l : Ws) (D : Dk), inW D.blocks.length l → ((wsS D l).2 = true ∧ (wsS D l).1.wait = [] ∧ (wsS D l).1.blocks = putS D.blocks (D.wait ++ l.map cvW)) ∨ ((wsS D l).2 = false ∧ (wsS D l).1.blocks = D.blocks ∧ ∃ n, (wsS D l).1.wait = D.wait ++ (l.take n).map cvW) := by
  intro l
  induction l with
  | nil =>
    intro D _
    unfold wsS flS
    split
    · exact .inr ⟨rfl, rfl, 0, by simp⟩
    · exact .inl ⟨rfl, rfl, by simp⟩
  | cons x r ih =>
    intro D h
    have hx := h x List.mem_cons_self
    unfold wsS
    rcases wrS_err (D := D) (k := x.1) (b := x.2) hx with ⟨h0, hs⟩ | ⟨h0, hs, he⟩
    · rw [if_pos h0]
      have e : (wrS D x.1 x.2).1 = ⟨D.blocks, D.wait ++ [cvW x], D.writes + 1, max (D.stop - 1) (-1)⟩ := by
        unfold wrS
        rw [if_neg (fun hn => hn hx), if_neg hs]
      have hb : (wrS D x.1 x.2).1.blocks = D.blocks := by rw [e]
      have hwt : (wrS D x.1 x.2).1.wait = D.wait ++ [cvW x] := by rw [e]
      have := ih (wrS D x.1 x.2).1 (by rw [hb]; exact fun y hy => h y (List.mem_cons_of_mem _ hy))
      rw [hb, hwt] at this
      rcases this with ⟨h1, h2, h3⟩ | ⟨h1, h2, n, h3⟩
      · exact .inl ⟨h1, h2, by rw [h3, List.append_assoc]; rfl⟩
      · exact .inr ⟨h1, h2, n + 1, by rw [h3, List.append_assoc]; rfl⟩
    · rw [if_neg (by rw [h0]; decide), he]
      exact .inr ⟨rfl, rfl, 0, by simp⟩
theorem wsS_free : ∀ (l : Ws) (D : Dk), D.stop = -1 → inW D.blocks.length l → (wsS D l).2 = true ∧ (wsS D l).1.stop = -1 := by
  intro l
  induction l with
  | nil =>
    intro D h _
    unfold wsS flS
    rw [if_neg (by rw [h]; decide)]
    exact ⟨rfl, h⟩
  | cons x r ih =>
    intro D hst h
    have hx := h x List.mem_cons_self
    unfold wsS
    have e : wrS D x.1 x.2 = (⟨D.blocks, D.wait ++ [cvW x], D.writes + 1, max (D.stop - 1) (-1)⟩, 0) := by
      unfold wrS
      rw [if_neg (fun hn => hn hx), if_neg (by rw [hst]; decide)]
    rw [e, if_pos rfl]
    exact ih _ (by show max (D.stop - 1) (-1) = -1; rw [hst]; rfl) fun y hy => h y (List.mem_cons_of_mem _ hy)
theorem crG_out (done : List Bool) (t k : Nat) : ∀ (ws : List (Nat × By)) (i : Nat) (f : Bool) (bs : List By), (∀ x ∈ ws, x.1 ≠ k) → atD (crG done t i f bs ws) k = atD bs k := by
  intro ws
  induction ws with
  | nil => exact fun _ _ _ _ => rfl
  | cons x r ih =>
    intro i f bs h
    have h1 := h x List.mem_cons_self
    have h2 : ∀ y ∈ r, y.1 ≠ k := fun y hy => h y (List.mem_cons_of_mem _ hy)
    unfold crG
    split
    · rw [ih _ _ _ h2, atD_set_ne h1]
    · split
      · rw [ih _ _ _ h2, atD_set_ne h1]
      · exact ih _ _ _ h2
theorem crG_one (done : List Bool) (t : Nat) (bs : List By) (h : Nat) (b : By) : crG done t 0 true bs [(h, b)] = bs.set h b ∨ crG done t 0 true bs [(h, b)] = bs.set h (tornB b (atD bs h) t) := by
  unfold crG
  split
  · exact .inl rfl
  · exact .inr rfl
theorem headOk_J {b : By} {home : Int} (h : headOk b home) : atD b 0 = 74 := by
  have e : atD (b.take 4) 0 = atD markB 0 := by rw [h.2.1]
  rw [atD_take (by omega)] at e
  exact e
theorem notV_zero {bs : List By} {h : Nat} (e : atD (atD bs h) 0 = 0) : ¬ hdV bs h := fun hv => by
  have := headOk_J hv.1
  rw [e] at this
  exact absurd this (by decide)
theorem Res_not {bs : List By} {h : Nat} {r : Nat → By} (hv : ¬ hdV bs h) (hr : ∀ k, k < h → atD bs k = r k) : Res bs h r := fun k hk => by
  unfold resF
  rw [if_neg hv, hr k hk]
/-- The zeroing of a head, torn anywhere. -/
theorem Res_zero {bs : List By} {h : Nat} {r : Nat → By} (hR : Res bs h r) (hr : ∀ k, k < h → atD bs k = r k) (hb : h < bs.length) (hl : (atD bs h).length = 256) {t : Nat} (ht : t ≤ 256) : Res (bs.set h (tornB zeroB (atD bs h) t)) h r := by
  cases t with
  | zero => rw [torn_zero, set_atD hb]; exact hR
  | succ t =>
    refine Res_not (notV_zero ?_) fun k hk => ?_
    · rw [atD_set_eq hb, torn_at zeroB_len hl ht, if_pos (by omega), zero_at]
    · rw [atD_set_ne (by omega), hr k hk]
theorem Res_zero' {bs : List By} {h : Nat} {r : Nat → By} (hr : ∀ k, k < h → atD bs k = r k) (hb : h < bs.length) : Res (bs.set h zeroB) h r := by
  refine Res_not (notV_zero ?_) fun k hk => ?_
  · rw [atD_set_eq hb, zero_at]
  · rw [atD_set_ne (by omega), hr k hk]
/-- Writes over the places that the journal names change nothing of what is found. -/
theorem Res_over {bs cs : List By} {h : Nat} {r : Nat → By} (hR : Res bs h r) (hv : hdV bs h) (h1 : ∀ k, h ≤ k → atD cs k = atD bs k) (h2 : ∀ k, k < h → (∀ x ∈ recB bs h, x.1.toNat ≠ k) → atD cs k = atD bs k) : hdV cs h ∧ Res cs h r := by
  have e := h1 h (Nat.le_refl _)
  have hj : ∀ i, i < 40 → atD cs (h + 1 + i) = atD bs (h + 1 + i) := fun i _ => h1 _ (by omega)
  have hv2 := (hdV_congr e hj).2 hv
  refine ⟨hv2, fun k hk => ?_⟩
  have := hR k hk
  unfold resF at this ⊢
  rw [if_pos hv] at this
  rw [if_pos hv2, recB_congr e hv.1.2.2.2.1 hj, ← this]
  by_cases hx : ∃ x ∈ recB bs h, x.1.toNat = k
  · exact putK_yes hx
  · rw [h2 k hk fun x hxm he => hx ⟨x, hxm, he⟩]
/-- Whatever a crash makes of it. -/
def Gd (D : Dk) (P : List By → Prop) : Prop := ∀ (done : List Bool) (t : Nat), t < 256 → P (crG done t 0 true D.blocks D.wait)
theorem Gd.mono {D : Dk} {P Q : List By → Prop} (h : Gd D P) (hpq : ∀ bs, P bs → Q bs) : Gd D Q := fun done t ht => hpq _ (h done t ht)
theorem Gd_one {D : Dk} {P : List By → Prop} {h : Nat} {b : By} (hw : D.wait = [] ∨ D.wait = [(h, b)]) (h0 : P D.blocks) (h1 : P (D.blocks.set h b)) (h2 : ∀ t, t < 256 → P (D.blocks.set h (tornB b (atD D.blocks h) t))) : Gd D P := by
  intro done t ht
  rcases hw with e | e
  · rw [e]; exact h0
  · rw [e]
    rcases crG_one done t D.blocks h b with e | e
    · rw [e]; exact h1
    · rw [e]; exact h2 t ht
theorem take_one {α : Type} (x : α) (n : Nat) : [x].take n = [] ∨ [x].take n = [x] := by
  cases n with
  | zero => exact .inl rfl
  | succ n => exact .inr (by simp)
/-- The zeroing of the head, whatever becomes of it. -/
theorem zero_run {D : Dk} {h : Nat} {r : Nat → By} (hD : DkOk D) (hw : D.wait = []) (hb : h < D.blocks.length) (hR : Res D.blocks h r) (hr : ∀ k, k < h → atD D.blocks k = r k) :
    ((wsS D [((h : Int), zeroB)]).2 = true → (wsS D [((h : Int), zeroB)]).1.wait = [] ∧ atD (wsS D [((h : Int), zeroB)]).1.blocks h = zeroB ∧ ∀ k, k < h → atD (wsS D [((h : Int), zeroB)]).1.blocks k = r k) ∧
    ((wsS D [((h : Int), zeroB)]).2 = false → Gd (wsS D [((h : Int), zeroB)]).1 fun bs => Res bs h r) := by
  have hin : inW D.blocks.length [((h : Int), zeroB)] := fun x hx => by
    rw [List.mem_singleton] at hx
    subst hx
    exact ⟨by show (0 : Int) ≤ (h : Int); omega, by show (h : Int) < _; omega, zeroB_len⟩
  rcases wsS_cases _ D hin with ⟨h1, h2, h3⟩ | ⟨h1, h2, n, h3⟩
  · refine ⟨fun _ => ⟨h2, ?_, fun k hk => ?_⟩, fun e => absurd (h1.symm.trans e) (by decide)⟩
    · rw [h3, hw]
      exact atD_set_eq hb
    · rw [h3, hw]
      exact (atD_set_ne (by show (h : Int).toNat ≠ k; omega)).trans (hr k hk)
  · refine ⟨fun e => absurd (h1.symm.trans e) (by decide), fun _ => ?_⟩
    rw [hw, List.nil_append] at h3
    refine Gd_one (h := h) (b := zeroB) ?_ ?_ ?_ ?_
    · rw [h3]
      rcases take_one ((h : Int), zeroB) n with e | e
      · rw [e]; exact .inl rfl
      · rw [e]; exact .inr rfl
    · rw [h2]; exact hR
    · rw [h2]; exact Res_zero' hr hb
    · intro t ht
      rw [h2]; exact Res_zero hR hr hb (hD.len _ (atD_mem hb)) (by omega)
/-- The end of an opening. -/
theorem rec_run {D : Dk} {h : Nat} {r : Nat → By} (hD : DkOk D) (hw : D.wait = []) (hb : h + 41 ≤ D.blocks.length) (hR : Res D.blocks h r) :
    ((recS D h).2 = true → (recS D h).1.wait = [] ∧ atD (recS D h).1.blocks h = zeroB ∧ ∀ k, k < h → atD (recS D h).1.blocks k = r k) ∧ ((recS D h).2 = false → Gd (recS D h).1 fun bs => Res bs h r) := by
  by_cases hv : hdV D.blocks h
  · have hin := recB_in hv hD.len hb
    have hin2 : inW D.blocks.length (recB D.blocks h) := fun x hx => by have := hin x hx; exact ⟨this.1, by omega, this.2.2⟩
    have eA : recA D h = wsS D (recB D.blocks h) := by
      unfold recA
      rw [recW_now hw, rd_now hw, if_pos (show headOk (atD D.blocks h) h ∧ sumOk (atD D.blocks h) (recB D.blocks h) from hv)]
    have hOk := recA_ok hD h
    have hne : ¬ rdB D h = zeroB := fun e => by
      rw [rd_now hw] at e
      have := headOk_J hv.1
      rw [e] at this
      exact absurd this (by rw [zero_at]; decide)
    unfold recS
    rw [if_neg hne]
    rw [eA] at hOk ⊢
    rcases wsS_cases _ D hin2 with ⟨h1, h2, h3⟩ | ⟨h1, h2, n, h3⟩
    · rw [if_neg (by rw [h1]; decide)]
      rw [hw, List.nil_append] at h3
      have hpt : ∀ k, atD (wsS D (recB D.blocks h)).1.blocks k = putK (recB D.blocks h) k (atD D.blocks k) := fun k => by
        rw [h3, putS_at fun x hx => by have := hin x hx; omega]
      have hle : (wsS D (recB D.blocks h)).1.blocks.length = D.blocks.length := by rw [h3, putS_len]
      have hr : ∀ k, k < h → atD (wsS D (recB D.blocks h)).1.blocks k = r k := fun k hk => by
        rw [hpt, ← hR k hk]
        unfold resF
        rw [if_pos hv]
      have hR2 := Res_over (cs := (wsS D (recB D.blocks h)).1.blocks) hR hv (fun k hk => by
        rw [hpt, putK_no fun x hx => by have := hin x hx; omega]) fun k hk hx => by rw [hpt, putK_no hx]
      exact zero_run hOk h2 (by omega) hR2.2 hr
    · rw [if_pos h1]
      refine ⟨fun e => absurd (show false = true from e) (by decide), fun _ done t ht => ?_⟩
      rw [hw, List.nil_append] at h3
      rw [h2, h3]
      have hsub : ∀ x ∈ ((recB D.blocks h).take n).map cvW, ∃ y ∈ recB D.blocks h, y.1.toNat = x.1 := fun x hx => by
        obtain ⟨y, hy, rfl⟩ := List.mem_map.1 hx
        exact ⟨y, List.mem_of_mem_take hy, rfl⟩
      refine (Res_over hR hv (fun k hk => crG_out _ _ _ _ _ _ _ fun x hx => ?_) fun k hk hx => crG_out _ _ _ _ _ _ _ fun x hxm e => ?_).2
      · obtain ⟨y, hy, e⟩ := hsub x hx
        have := hin y hy
        omega
      · obtain ⟨y, hy, e2⟩ := hsub x hxm
        exact hx y hy (e2.trans e)
  · have eA : recA D h = (D, true) := by
      unfold recA
      rw [recW_now hw, rd_now hw, if_neg (show ¬ (headOk (atD D.blocks h) h ∧ sumOk (atD D.blocks h) (recB D.blocks h)) from hv)]
    have hr : ∀ k, k < h → atD D.blocks k = r k := fun k hk => by
      have := hR k hk
      unfold resF at this
      rwa [if_neg hv] at this
    unfold recS
    rw [eA, if_neg (fun e => absurd (show true = false from e) (by decide))]
    split
    · rename_i hz
      rw [rd_now hw] at hz
      exact ⟨fun _ => ⟨hw, hz, hr⟩, fun e => absurd (show true = false from e) (by decide)⟩
    · exact zero_run hD hw (show h < D.blocks.length by omega) hR hr
theorem rec_free {D : Dk} {h : Nat} (hD : DkOk D) (hw : D.wait = []) (hb : h + 41 ≤ D.blocks.length) (hs : D.stop = -1) : (recS D h).2 = true := by
  have hz : ∀ E : Dk, E.stop = -1 → h < E.blocks.length → (wsS E [((h : Int), zeroB)]).2 = true := fun E hE hl => (wsS_free _ E hE fun x hx => by
    rw [List.mem_singleton] at hx
    subst hx
    exact ⟨by show (0 : Int) ≤ (h : Int); omega, by show (h : Int) < _; omega, zeroB_len⟩).1
  have hA : (recA D h).2 = true ∧ (recA D h).1.stop = -1 := by
    unfold recA
    split
    · rename_i hv
      rw [recW_now hw, rd_now hw] at hv
      rw [recW_now hw]
      have hin := recB_in hv hD.len hb
      exact wsS_free _ D hs fun x hx => by have := hin x hx; exact ⟨this.1, by omega, this.2.2⟩
    · exact ⟨rfl, hs⟩
  have hl := recA_blocks D h
  unfold recS
  rw [if_neg (by rw [hA.1]; decide)]
  split
  · rfl
  · exact hz _ hA.2 (by omega)
/-- A store that is alive: nothing waits, no head, the home. -/
structure Alive (D : Dk) (h : Nat) (r : Nat → By) : Prop where
  wait : D.wait = []
  zero : atD D.blocks h = zeroB
  home : ∀ k, k < h → atD D.blocks k = r k
theorem Alive.gd {D : Dk} {h : Nat} {r : Nat → By} (a : Alive D h r) : Gd D fun bs => Res bs h r := fun done t ht => by
  rw [a.wait]
  exact Res_not (notV_zero (by rw [show crG done t 0 true D.blocks [] = D.blocks from rfl, a.zero, zero_at])) a.home
theorem plW_in {h : Nat} {ws : Ws} (hx : ∀ x ∈ ws, x.2.length = 256) (hn : ws.length ≤ 40) {m : Nat} (hm : h + 41 ≤ m) : inW m (plW h ws) ∧ ∀ x ∈ plW h ws, h < x.1.toNat := by
  have : ∀ x ∈ plW h ws, ∃ i, i < ws.length ∧ x = (((h + 1 + i : Nat) : Int), (atD ws i).2) := fun x hx => by
    obtain ⟨i, hi, rfl⟩ := mem_atD hx
    rw [plW_len] at hi
    exact ⟨i, hi, plW_at h ws hi⟩
  refine ⟨fun x hxm => ?_, fun x hxm => ?_⟩
  · obtain ⟨i, hi, rfl⟩ := this x hxm
    have e := hx _ (atD_mem hi)
    exact ⟨by show (0 : Int) ≤ ((h + 1 + i : Nat) : Int); omega, by show ((h + 1 + i : Nat) : Int) < _; omega, e⟩
  · obtain ⟨i, hi, rfl⟩ := this x hxm
    show h < ((h + 1 + i : Nat) : Int).toNat
    omega
theorem putK_pl {h : Nat} {ws : Ws} {i : Nat} (hi : i < ws.length) (o : By) : putK (plW h ws) (h + 1 + i) o = (atD ws i).2 := by
  have hsp : plW h ws = (plW h ws).take i ++ ((((h + 1 + i : Nat) : Int), (atD ws i).2) :: (plW h ws).drop (i + 1)) := by
    have := List.take_append_drop i (plW h ws)
    rw [Go.Proofs.YtkeapkmjkmbdpaaV.drop_atD (by rw [plW_len]; exact hi), plW_at h ws hi] at this
    exact this.symm
  rw [hsp]
  unfold putK
  rw [List.foldl_append, List.foldl_cons, if_pos (by show ((h + 1 + i : Nat) : Int).toNat = _; omega)]
  refine putK_no (ws := (plW h ws).drop (i + 1)) fun x hx => ?_
  obtain ⟨j, hj, rfl⟩ := mem_atD hx
  rw [List.length_drop, plW_len] at hj
  rw [atD_drop, plW_at h ws (by omega)]
  show ((h + 1 + (i + 1 + j) : Nat) : Int).toNat ≠ _
  omega
/-- What a commit leaves. -/
theorem com_run {D : Dk} {h : Nat} {r : Nat → By} {ws : Ws} (hD : DkOk D) (ha : Alive D h r) (hb : h + 41 ≤ D.blocks.length) (h300 : h ≤ 300) (has : asked h ws = 0) (h0 : ws ≠ []) :
    ((comS D h ws).2 = true → Alive (comS D h ws).1 h fun k => putK ws k (r k)) ∧ ((comS D h ws).2 = false → Gd (comS D h ws).1 fun bs => Res bs h r ∨ Res bs h fun k => putK ws k (r k)) := by
  obtain ⟨hw1, hw2, hw3⟩ := asked_zero has
  have hr : ∀ x ∈ ws, 0 ≤ x.1 ∧ x.1 < 65536 := fun x hx => by have := hw1 x hx; omega
  obtain ⟨hpl, hpl2⟩ := plW_in (h := h) (fun x hx => (hw1 x hx).2.2) hw3 hb
  unfold comS
  dsimp only
  rcases wsS_cases _ D hpl with ⟨a1, a2, a3⟩ | ⟨a1, a2, n, a3⟩
  · obtain ⟨D1, hD1⟩ : ∃ D1, (wsS D (plW h ws)).1 = D1 := ⟨_, rfl⟩
    have hOk1 := wsS_ok (plW h ws) hD
    rw [if_neg (by rw [a1]; decide)]
    rw [hD1] at a2 a3 hOk1 ⊢
    rw [ha.wait, List.nil_append] at a3
    have hl1 : D1.blocks.length = D.blocks.length := by rw [a3, putS_len]
    have hp1 : ∀ k, atD D1.blocks k = putK (plW h ws) k (atD D.blocks k) := fun k => by
      rw [a3, putS_at fun x hx => by have := hpl x hx; omega]
    have hlow : ∀ k, k ≤ h → atD D1.blocks k = atD D.blocks k := fun k hk => by
      rw [hp1, putK_no fun x hx => by have := hpl2 x hx; omega]
    have hjr : ∀ i, i < ws.length → atD D1.blocks (h + 1 + i) = (atD ws i).2 := fun i hi => by rw [hp1, putK_pl hi]
    -- what the head makes of it
    have hval : ∀ cs : List By, (∀ k, k ≠ h → atD cs k = atD D1.blocks k) → atD cs h = hdB ws → hdV cs h ∧ recB cs h = ws := fun cs hc hh => by
      have e : recB cs h = ws := by
        refine ext_atD (by rw [recB_len, hh, hdB_num hw3]) fun i hi => ?_
        rw [recB_len, hh, hdB_num hw3] at hi
        rw [recB_at (by rw [hh, hdB_num hw3]; exact hi), hh, hdB_tgt hw3 hr hi, hc _ (by omega), hjr i hi]
      refine ⟨⟨by rw [hh]; exact hdB_ok has h0 h300, ?_⟩, e⟩
      rw [e, hh]
      unfold sumOk atS
      rw [hdB_num hw3, hdB_pre hw3, hdB_sum hw3]
      rfl
    have hnew : ∀ cs : List By, (∀ k, k ≠ h → atD cs k = atD D1.blocks k) → atD cs h = hdB ws → Res cs h fun k => putK ws k (r k) := fun cs hc hh k hk => by
      obtain ⟨v, e⟩ := hval cs hc hh
      unfold resF
      rw [if_pos v, e, hc k (by omega), hlow k (by omega), ha.home k hk]
    have hin2 : inW D1.blocks.length [((h : Int), hdB ws)] := fun x hx => by
      rw [List.mem_singleton] at hx
      subst hx
      exact ⟨by show (0 : Int) ≤ (h : Int); omega, by show (h : Int) < _; omega, hdB_len ws⟩
    have hb1 : h < D1.blocks.length := by omega
    rcases wsS_cases _ D1 hin2 with ⟨b1, b2, b3⟩ | ⟨b1, b2, n, b3⟩
    · obtain ⟨D2, hD2⟩ : ∃ D2, (wsS D1 [((h : Int), padB (headB ws))]).1 = D2 := ⟨_, rfl⟩
      have hOk2 := wsS_ok [((h : Int), padB (headB ws))] hOk1
      have b1 : (wsS D1 [((h : Int), padB (headB ws))]).2 = true := b1
      have b2 : (wsS D1 [((h : Int), padB (headB ws))]).1.wait = [] := b2
      have b3 : (wsS D1 [((h : Int), padB (headB ws))]).1.blocks = _ := b3
      rw [if_neg (by rw [b1]; decide)]
      rw [hD2] at b2 b3 hOk2 ⊢
      rw [a2] at b3
      have b3 : D2.blocks = D1.blocks.set h (hdB ws) := b3
      have hl2 : D2.blocks.length = D.blocks.length := by rw [b3, List.length_set, hl1]
      have hne2 : ∀ k, k ≠ h → atD D2.blocks k = atD D1.blocks k := fun k hk => by rw [b3, atD_set_ne (by omega)]
      have hh2 : atD D2.blocks h = hdB ws := by rw [b3, atD_set_eq hb1]
      obtain ⟨v2, e2⟩ := hval _ hne2 hh2
      have R2 := hnew _ hne2 hh2
      have hin3 : inW D2.blocks.length ws := fun x hx => by have := hw1 x hx; exact ⟨this.1, by omega, this.2.2⟩
      rcases wsS_cases _ D2 hin3 with ⟨c1, c2, c3⟩ | ⟨c1, c2, n, c3⟩
      · obtain ⟨D3, hD3⟩ : ∃ D3, (wsS D2 ws).1 = D3 := ⟨_, rfl⟩
        have hOk3 := wsS_ok ws hOk2
        rw [if_neg (by rw [c1]; decide)]
        rw [hD3] at c2 c3 hOk3 ⊢
        rw [b2, List.nil_append] at c3
        have hl3 : D3.blocks.length = D.blocks.length := by rw [c3, putS_len, hl2]
        have hp3 : ∀ k, atD D3.blocks k = putK ws k (atD D2.blocks k) := fun k => by
          rw [c3, putS_at fun x hx => by have := hin3 x hx; omega]
        have hr3 : ∀ k, k < h → atD D3.blocks k = putK ws k (r k) := fun k hk => by
          rw [hp3, hne2 k (by omega), hlow k (by omega), ha.home k hk]
        have R3 := (Res_over (cs := D3.blocks) R2 v2 (fun k hk => by
          rw [hp3, putK_no fun x hx => by have := hw1 x hx; omega]) fun k hk hx => by
          rw [hp3, putK_no fun x hxm => hx x (by rw [e2]; exact hxm)]).2
        have z := zero_run hOk3 c2 (by omega) R3 hr3
        exact ⟨fun e => ⟨(z.1 e).1, (z.1 e).2.1, (z.1 e).2.2⟩, fun e => (z.2 e).mono fun bs hh => .inr hh⟩
      · rw [if_pos c1]
        refine ⟨fun e => absurd (c1.symm.trans e) (by decide), fun _ done t ht => .inr ?_⟩
        rw [b2, List.nil_append] at c3
        rw [c2, c3]
        have hsub : ∀ x ∈ (ws.take n).map cvW, ∃ y ∈ ws, y.1.toNat = x.1 := fun x hx => by
          obtain ⟨y, hy, rfl⟩ := List.mem_map.1 hx
          exact ⟨y, List.mem_of_mem_take hy, rfl⟩
        refine (Res_over R2 v2 (fun k hk => crG_out _ _ _ _ _ _ _ fun x hx => ?_) fun k hk hx => crG_out _ _ _ _ _ _ _ fun x hxm e => ?_).2
        · obtain ⟨y, hy, e⟩ := hsub x hx
          have := hw1 y hy
          omega
        · obtain ⟨y, hy, e3⟩ := hsub x hxm
          exact hx y (by rw [e2]; exact hy) (e3.trans e)
    · have b1 : (wsS D1 [((h : Int), padB (headB ws))]).2 = false := b1
      have b2 : (wsS D1 [((h : Int), padB (headB ws))]).1.blocks = D1.blocks := b2
      have b3 : (wsS D1 [((h : Int), padB (headB ws))]).1.wait = _ := b3
      rw [if_pos b1]
      refine ⟨fun e => absurd (b1.symm.trans e) (by decide), fun _ => ?_⟩
      rw [a2, List.nil_append] at b3
      have hz1 : atD D1.blocks h = zeroB := by rw [hlow h (Nat.le_refl _), ha.zero]
      have hr1 : ∀ k, k < h → atD D1.blocks k = r k := fun k hk => by rw [hlow k (by omega), ha.home k hk]
      refine Gd_one (h := h) (b := hdB ws) ?_ ?_ ?_ ?_
      · rw [b3]
        rcases take_one ((h : Int), hdB ws) n with e | e
        · rw [e]; exact .inl rfl
        · rw [e]; exact .inr rfl
      · rw [b2]
        exact .inl (Res_not (notV_zero (by rw [hz1, zero_at])) hr1)
      · rw [b2]
        exact .inr (hnew _ (fun k hk => atD_set_ne (by omega)) (atD_set_eq hb1))
      · intro t ht
        rw [b2, hz1]
        by_cases hv : hdV (D1.blocks.set h (tornB (hdB ws) zeroB t)) h
        · have hth := torn_head (t := t) (W := recB (D1.blocks.set h (tornB (hdB ws) zeroB t)) h) has (by omega) (by have := hv.1; rwa [atD_set_eq hb1] at this) (by have := hv.2; rwa [atD_set_eq hb1] at this) fun hn => by
            have e : (recB (D1.blocks.set h (tornB (hdB ws) zeroB t)) h).map (·.2) = ws.map (·.2) := by
              refine List.ext_getElem? fun i => ?_
              have hlen : (recB (D1.blocks.set h (tornB (hdB ws) zeroB t)) h).length = ws.length := by rw [recB_len, atD_set_eq hb1, hn]
              rw [List.getElem?_map, List.getElem?_map]
              rcases Nat.lt_or_ge i ws.length with hi | hi
              · rw [atD_get (by omega), atD_get hi, recB_at (by rw [atD_set_eq hb1, hn]; exact hi), atD_set_ne (i := h) (j := h + 1 + i) (by omega), hjr i hi]
                rfl
              · rw [List.getElem?_eq_none (by omega), List.getElem?_eq_none hi]
            have e2 : ∀ l : Ws, datS l = (l.map (·.2)).flatten := fun l => by unfold datS; rw [List.flatMap_def]
            rw [e2, e2, e]
          rw [hth]
          exact .inr (hnew _ (fun k hk => atD_set_ne (by omega)) (atD_set_eq hb1))
        · exact .inl (Res_not hv fun k hk => by rw [atD_set_ne (by omega), hr1 k hk])
  · rw [if_pos a1]
    refine ⟨fun e => absurd (a1.symm.trans e) (by decide), fun _ done t ht => .inl ?_⟩
    rw [ha.wait, List.nil_append] at a3
    rw [a2, a3]
    have hsub : ∀ x ∈ ((plW h ws).take n).map cvW, h < x.1 := fun x hx => by
      obtain ⟨y, hy, rfl⟩ := List.mem_map.1 hx
      exact hpl2 y (List.mem_of_mem_take hy)
    have hlow : ∀ k, k ≤ h → atD (crG done t 0 true D.blocks (((plW h ws).take n).map cvW)) k = atD D.blocks k := fun k hk => crG_out _ _ _ _ _ _ _ fun x hx => by have := hsub x hx; omega
    exact Res_not (notV_zero (by rw [hlow h (Nat.le_refl _), ha.zero, zero_at])) fun k hk => by rw [hlow k (by omega), ha.home k hk]
end Go.Proofs.Ytkeapkmjkmbdpaa.V
