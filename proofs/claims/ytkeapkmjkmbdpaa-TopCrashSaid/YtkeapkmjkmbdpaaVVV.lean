/- What is known of a store between the deeds. -/
import Derived.Test.YtkeapkmjkmbdpaaVUU
namespace Go.Proofs.Ytkeapkmjkmbdpaa.V
open Go Go.Proofs.YtkeapkmjkmbdpaaV
set_option linter.unusedVariables false
set_option linter.unusedSimpArgs false
set_option maxHeartbeats 1000000
set_option maxRecDepth 4000
structure Kept (n : Nat) (D : Dk) (dead : Bool) (now maybe : List By) : Prop where
  nowL : now.length = n
  maybeL : maybe.length = n
  blocks : D.blocks.length = n + 41
  alive : dead = false → Alive D n (atD now) ∧ maybe = now
  gone : dead = true → Gd D fun bs => Res bs n (atD now) ∨ Res bs n (atD maybe)
theorem Kept.gd {n : Nat} {D : Dk} {dead : Bool} {now maybe : List By} (k : Kept n D dead now maybe) : Gd D fun bs => Res bs n (atD now) ∨ Res bs n (atD maybe) := by
  cases dead with
  | false => exact (k.alive rfl).1.gd.mono fun bs h => .inl h
  | true => exact k.gone rfl
theorem Kept.stop {n : Nat} {D : Dk} {dead : Bool} {now maybe : List By} (k : Kept n D dead now maybe) (m : Int) : Kept n (stS D m) dead now maybe :=
  ⟨k.nowL, k.maybeL, k.blocks, fun h => ⟨⟨(k.alive h).1.wait, (k.alive h).1.zero, (k.alive h).1.home⟩, (k.alive h).2⟩, fun h => k.gone h⟩
theorem Alive.kept {n : Nat} {D : Dk} {x : List By} (a : Alive D n (atD x)) (hx : x.length = n) (hb : D.blocks.length = n + 41) : Kept n D false x x := ⟨hx, hx, hb, fun _ => ⟨a, rfl⟩, fun h => absurd h (by decide)⟩
theorem Alive.homeS {n : Nat} {D : Dk} {x : List By} (a : Alive D n (atD x)) (hx : x.length = n) : homeS D n = x := ext_atD (by rw [homeS_len, hx]) fun j hj => by
  rw [homeS_len] at hj
  rw [homeS_at hj, rd_now a.wait, a.home j hj]
theorem Alive.pick {n : Nat} {D : Dk} {now maybe : List By} (h : Alive D n (atD now) ∨ Alive D n (atD maybe)) (h1 : now.length = n) (h2 : maybe.length = n) : ∃ x, (x = now ∨ x = maybe) ∧ x.length = n ∧ Alive D n (atD x) := by
  rcases h with h | h
  · exact ⟨now, .inl rfl, h1, h⟩
  · exact ⟨maybe, .inr rfl, h2, h⟩
theorem foldl_set_len : ∀ (ws : Ws) (out : List By), (ws.foldl (fun o x => o.set x.1.toNat x.2) out).length = out.length := by
  intro ws
  induction ws with
  | nil => exact fun _ => rfl
  | cons x r ih => intro out; rw [List.foldl_cons, ih, List.length_set]
theorem afterL_in (now : List By) : ∀ (ws : Ws) (out : List By), (∀ x ∈ ws, 0 ≤ x.1 ∧ x.1 < now.length) → afterL now out ws = ws.foldl (fun o x => o.set x.1.toNat x.2) out := by
  intro ws
  induction ws with
  | nil => exact fun _ _ => rfl
  | cons x r ih =>
    intro out h
    have hx := h x List.mem_cons_self
    unfold afterL
    rw [if_neg (by omega), ih _ fun y hy => h y (List.mem_cons_of_mem _ hy), List.foldl_cons]
theorem afterL_len (now : List By) : ∀ (ws : Ws) (out : List By), out.length = now.length → (afterL now out ws).length = now.length := by
  intro ws
  induction ws with
  | nil => exact fun _ h => h
  | cons x r ih =>
    intro out h
    unfold afterL
    split
    · rfl
    · exact ih _ (by rw [List.length_set]; exact h)
theorem afterS_len (now : List By) (ws : Ws) : (afterS now ws).length = now.length := afterL_len now ws now rfl
theorem foldl_set_at : ∀ (ws : Ws) (out : List By) (k : Nat), (∀ x ∈ ws, x.1.toNat < out.length) → atD (ws.foldl (fun o x => o.set x.1.toNat x.2) out) k = putK ws k (atD out k) := by
  intro ws
  induction ws with
  | nil => exact fun _ _ _ => rfl
  | cons x r ih =>
    intro out k h
    have h1 := h x List.mem_cons_self
    rw [List.foldl_cons, ih _ _ fun y hy => by rw [List.length_set]; exact h y (List.mem_cons_of_mem _ hy)]
    show putK r k _ = putK r k (if x.1.toNat = k then x.2 else atD out k)
    congr 1
    split
    · rename_i e
      subst e
      exact atD_set_eq h1
    · rename_i e
      exact atD_set_ne e
theorem afterS_at {n : Nat} {now : List By} {ws : Ws} (hn : now.length = n) (h : asked n ws = 0) (k : Nat) : atD (afterS now ws) k = putK ws k (atD now k) := by
  have h1 := (asked_zero h).1
  unfold afterS
  rw [afterL_in now ws now fun x hx => by have := h1 x hx; omega, foldl_set_at _ _ _ fun x hx => by have := h1 x hx; omega]
theorem comS_blocks' (D : Dk) (h : Nat) (ws : Ws) : (comS D h ws).1.blocks.length = D.blocks.length := by
  unfold comS
  dsimp only
  split
  · exact wsS_blocks _ _
  · split
    · rw [wsS_blocks, wsS_blocks]
    · split
      · rw [wsS_blocks, wsS_blocks, wsS_blocks]
      · rw [wsS_blocks, wsS_blocks, wsS_blocks, wsS_blocks]
theorem comS_writes' (D : Dk) (h : Nat) (ws : Ws) : (comS D h ws).1.writes ≤ D.writes + 2 * ws.length + 2 := by
  have h1 := wsS_writes (plW h ws) D
  have h2 := wsS_writes [((h : Int), padB (headB ws))] (wsS D (plW h ws)).1
  have h3 := wsS_writes ws (wsS (wsS D (plW h ws)).1 [((h : Int), padB (headB ws))]).1
  have h4 := wsS_writes [((h : Int), zeroB)] (wsS (wsS (wsS D (plW h ws)).1 [((h : Int), padB (headB ws))]).1 ws).1
  rw [plW_len] at h1
  simp only [List.length_cons, List.length_nil] at h2 h4
  unfold comS
  dsimp only
  split
  · omega
  · split
    · omega
    · split <;> omega
theorem commitS_writes' (D : Dk) (h : Nat) (dead : Bool) (ws : Ws) : (commitS D h dead ws).1.writes ≤ D.writes + 2 * ws.length + 2 := by
  unfold commitS
  split
  · show D.writes ≤ _; omega
  · split
    · show D.writes ≤ _; omega
    · split
      · show D.writes ≤ _; omega
      · exact comS_writes' D h ws
/-- A commit. -/
theorem Kept.commit {n : Nat} {D : Dk} {dead : Bool} {now maybe : List By} (k : Kept n D dead now maybe) (hD : DkOk D) (h3 : n ≤ 300) (ws : Ws) :
    ((commitS D n dead ws).2.2 = 0 → Kept n (commitS D n dead ws).1 (commitS D n dead ws).2.1 (afterS now ws) (afterS now ws)) ∧
    ((commitS D n dead ws).2.2 = 160 → (commitS D n dead ws).2.1 = true ∧ Kept n (commitS D n dead ws).1 (commitS D n dead ws).2.1 now (if now = maybe then afterS now ws else maybe)) ∧
    ((commitS D n dead ws).2.2 ≠ 0 → (commitS D n dead ws).2.2 ≠ 160 → Kept n (commitS D n dead ws).1 (commitS D n dead ws).2.1 now maybe) := by
  have hgone : dead = true → Gd D fun bs => Res bs n (atD now) ∨ Res bs n (atD (if now = maybe then afterS now ws else maybe)) := fun hd => (k.gone hd).mono fun bs h => by
    split
    · rename_i e
      subst e
      rcases h with h | h <;> exact .inl h
    · exact h
  have hlm : (if now = maybe then afterS now ws else maybe).length = n := by
    split
    · rw [afterS_len]; exact k.nowL
    · exact k.maybeL
  cases dead with
  | true =>
    have e : commitS D n true ws = (D, true, 160) := rfl
    rw [e]
    exact ⟨fun h => absurd (show (160 : Int) = 0 from h) (by decide), fun _ => ⟨rfl, k.nowL, hlm, k.blocks, fun h => absurd (show true = false from h) (by decide), fun _ => hgone rfl⟩, fun _ h => absurd rfl h⟩
  | false =>
    obtain ⟨ha, hm⟩ := k.alive rfl
    subst hm
    by_cases has : asked n ws = 0
    · by_cases h0 : ws = []
      · have e : commitS D n false ws = (D, false, 0) := by unfold commitS; rw [if_neg (by decide), if_neg (fun h => h has), if_pos h0]
        rw [e, h0]
        exact ⟨fun _ => k, fun h => absurd (show (0 : Int) = 160 from h) (by decide), fun h => absurd rfl h⟩
      · have e : commitS D n false ws = ((comS D n ws).1, !(comS D n ws).2, if (comS D n ws).2 then 0 else 160) := by unfold commitS; rw [if_neg (by decide), if_neg (fun h => h has), if_neg h0]
        obtain ⟨c1, c2⟩ := com_run hD ha (by rw [k.blocks]; exact Nat.le_refl _) h3 has h0
        have hb : (comS D n ws).1.blocks.length = n + 41 := by rw [comS_blocks', k.blocks]
        rw [e]
        cases hc : (comS D n ws).2 with
        | true =>
          refine ⟨fun _ => ?_, fun h => absurd (show (0 : Int) = 160 from h) (by decide), fun h => absurd rfl h⟩
          have a := c1 hc
          exact Alive.kept ⟨a.wait, a.zero, fun j hj => by rw [a.home j hj, afterS_at k.nowL has]⟩ (by rw [afterS_len]; exact k.nowL) hb
        | false =>
          refine ⟨fun h => absurd (show (160 : Int) = 0 from h) (by decide), fun _ => ⟨rfl, k.nowL, hlm, hb, fun h => absurd (show true = false from h) (by decide), fun _ => ?_⟩, fun _ h => absurd rfl h⟩
          rw [if_pos rfl]
          exact (c2 hc).mono fun bs h => by
            rcases h with h | h
            · exact .inl h
            · exact .inr fun j hj => by rw [h j hj, afterS_at k.nowL has]
    · have e : commitS D n false ws = (D, false, asked n ws) := by unfold commitS; rw [if_neg (by decide), if_pos has]
      rw [e]
      refine ⟨fun h => absurd (show asked n ws = 0 from h) has, fun h => ?_, fun _ _ => k⟩
      have h : asked n ws = 160 := h
      unfold asked at h
      split at h
      · split at h
        · exact absurd h (by decide)
        · exact absurd h (by decide)
      · exact absurd h (by decide)
theorem new_alive {n : Nat} : Alive (newS (n + 41)) n (atD (List.replicate n zeroB)) := by
  have hz : ∀ k, k < n + 41 → atD (newS (n + 41)).blocks k = zeroB := fun k hk => atD_of (by show (List.replicate (n + 41) zeroB)[k]? = _; rw [List.getElem?_replicate, if_pos hk])
  exact ⟨rfl, hz n (by omega), fun k hk => by rw [hz k (by omega)]; exact (atD_of (by rw [List.getElem?_replicate, if_pos hk])).symm⟩
end Go.Proofs.Ytkeapkmjkmbdpaa.V
