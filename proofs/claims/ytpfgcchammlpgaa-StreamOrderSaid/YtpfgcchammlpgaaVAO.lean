/- What flows from one end to the other, whatever is lost, doubled and late (plain). -/
import Derived.Test.YtpfgcchammlpgaaVAM
namespace Go.Proofs.Ytpfgcchammlpgaa.V
open Go Go.Proofs.YtpfgcchammlpgaaV
set_option linter.unusedVariables false
set_option linter.unusedSimpArgs false
set_option maxHeartbeats 1000000
set_option maxRecDepth 4000
theorem from_plus {F a c : Nat} (ha : a ≤ 1000000) (hc : c ≤ 1000000) : fromS (plusS F a) (plusS F c) = if a ≤ c then c - a else M - (a - c) := by
  unfold fromS plusS M
  split <;> omega
theorem plus_plus (F a d : Nat) : plusS (plusS F a) d = plusS F (a + d) := by unfold plusS M; omega
theorem plus_zero {F : Nat} (h : F < M) : plusS F 0 = F := Nat.mod_eq_of_lt h
/-- The bytes of a frame of data, and whether they end a message. -/
def frB (f : Fr) : By := (f.data.take (f.data.length - 2)).drop 1
def frE (f : Fr) : Bool := decide ((atD f.data 0).toNat = 1)
/-- A frame that X has sent and that flies to Y; X had so many bytes of Y then at most. -/
structure FrX (c0 : Nat) (X Y : Hf) (f : Fr) : Prop where mk ::
  id : f.id = X.E.num
  hello : f.kind = 1 ∨ f.kind = 2 → f.seq = X.E.first
  no5 : f.kind ≠ 5
  no6 : f.kind ≠ 6
  data : f.kind = 4 → ∃ s : Nat, f.seq = (plusS X.E.first s : Nat) ∧ s + (frB f).length ≤ X.put.length ∧ markS (frB f) (frE f) = (X.put.drop s).take (frB f).length
  att : f.kind = 7 → ∃ j : Nat, f.seq = (j : Nat) ∧ X.sent[j]? = some f.data
  ack : f.kind = 3 ∨ f.kind = 4 ∨ f.kind = 8 → ∃ c : Nat, c ≤ c0 ∧ f.n = (plusS Y.E.first c : Nat)
  seen : f.kind = 8 → ∃ j : Nat, f.seq = (j : Nat) ∧ j < X.E.codes.length
  known : f.kind ≠ 1 → X.E.other ≠ 0
/-- What flows from X to Y: Y has b of the bytes of X; X has c0 of those of Y. -/
structure Fl (b c0 : Nat) (X Y : Hf) : Prop where mk ::
  acked : ∃ a : Nat, a ≤ b ∧ X.E.base = plusS X.E.first a ∧ X.E.out = X.put.drop a
  got : Y.rd ++ Y.E.inn = X.put.take b
  few : b ≤ X.put.length
  want : Y.E.other ≠ 0 → Y.E.want = plusS X.E.first b
  zero : Y.E.other = 0 → b = 0
  other : Y.E.other = 0 ∨ Y.E.other = X.E.num
  opened : Y.E.state = 3 → Y.E.other ≠ 0
  codes : Y.E.codes = X.sent.take Y.E.codes.length
  codesL : Y.E.codes.length ≤ X.sent.length
  next : Y.E.next = Y.E.codes.length
  seq : X.E.seq ≤ Y.E.codes.length
  newsN : X.E.news = none → X.sent.length = X.E.seq
  newsS : ∀ l, X.E.news = some l → X.sent.length = X.E.seq + 1 ∧ X.sent[X.E.seq]? = some l
  resets : X.E.resets = false
  up : Y.E.state = 3 → X.E.other ≠ 0
  fr : ∀ f ∈ Y.fly, FrX c0 X Y f
theorem FrX.up {c0 c1 : Nat} {X X' Y Y' : Hf} {f : Fr} (h : FrX c0 X Y f) (hc : c0 ≤ c1) (hn : X'.E.num = X.E.num) (hf : X'.E.first = X.E.first) (hy : Y'.E.first = Y.E.first) (hp : ∃ t, X'.put = X.put ++ t) (hs : ∃ t, X'.sent = X.sent ++ t) (hk : X.E.codes.length ≤ X'.E.codes.length) (ho : X.E.other ≠ 0 → X'.E.other ≠ 0) : FrX c1 X' Y' f := by
  obtain ⟨t, hp⟩ := hp
  obtain ⟨t2, hs⟩ := hs
  refine ⟨hn ▸ h.id, hf ▸ h.hello, h.no5, h.no6, fun hk4 => ?_, fun h7 => ?_, fun hk3 => ?_, fun h8 => ?_, fun h1 => ho (h.known h1)⟩
  · obtain ⟨s, h1, h2, h3⟩ := h.data hk4
    refine ⟨s, hf ▸ h1, by rw [hp, List.length_append]; omega, ?_⟩
    rw [h3, hp, List.drop_append_of_le_length (by omega), List.take_append_of_le_length (by rw [List.length_drop]; omega)]
  · obtain ⟨j, h1, h2⟩ := h.att h7
    have hj : j < X.sent.length := by
      rcases Nat.lt_or_ge j X.sent.length with h | h
      · exact h
      · rw [List.getElem?_eq_none h] at h2; cases h2
    exact ⟨j, h1, by rw [hs, List.getElem?_append_left hj]; exact h2⟩
  · obtain ⟨c, h1, h2⟩ := h.ack hk3
    exact ⟨c, by omega, hy ▸ h2⟩
  · obtain ⟨j, h1, h2⟩ := h.seen h8
    exact ⟨j, h1, by omega⟩
/-- Both ways. -/
structure Inv (b c : Nat) (X Y : Hf) : Prop where mk ::
  to : Fl b c X Y
  fro : Fl c b Y X
/-- What is small. -/
structure Sm (X : Hf) : Prop where mk ::
  put : X.put.length ≤ 1000000
  sent : X.sent.length ≤ 60000
  first : X.E.first < M
theorem Inv.symm {b c : Nat} {X Y : Hf} (h : Inv b c X Y) : Inv c b Y X := ⟨h.fro, h.to⟩
theorem inv_new {n0 f0 n1 f1 : Nat} (h0 : f0 < M) (h1 : f1 < M) : Inv 0 0 (newH n0 f0) (newH n1 f1) := by
  have hfl : ∀ n0 f0 n1 f1 : Nat, f0 < M → Fl 0 0 (newH n0 f0) (newH n1 f1) := fun n0 f0 n1 f1 h =>
    ⟨⟨0, Nat.le_refl _, (plus_zero h).symm, rfl⟩, rfl, Nat.le_refl _, fun h => absurd rfl h, fun _ => rfl, .inl rfl, fun h => (by cases h), rfl, Nat.le_refl _, rfl, Nat.le_refl _, fun _ => rfl, fun l h => (by cases h), rfl, fun h => (by cases h), fun f hf => by cases hf⟩
  exact ⟨hfl _ _ _ _ h0, hfl _ _ _ _ h1⟩
/-! ### The deeds -/
theorem inv_put {b c : Nat} {X Y : Hf} (h : Inv b c X Y) (l : By) (e : Bool) : Inv b c { X with E := (putS X.E l e).1, put := X.put ++ putN X.E l e } Y := by
  unfold putN putS
  split
  · rw [if_neg (by show ¬ (110 : Int) = 0; decide), List.append_nil]; exact h
  · split
    · rw [if_neg (by show ¬ (2 : Int) = 0; decide), List.append_nil]; exact h
    · split
      · rw [if_neg (by show ¬ (150 : Int) = 0; decide), List.append_nil]; exact h
      · rw [if_pos rfl]
        obtain ⟨h1, h2⟩ := h
        obtain ⟨a, ha, hb, ho⟩ := h1.acked
        have hf := h1.few
        refine ⟨⟨⟨a, ha, hb, ?_⟩, ?_, ?_, h1.want, h1.zero, h1.other, h1.opened, h1.codes, h1.codesL, h1.next, h1.seq, h1.newsN, h1.newsS, h1.resets, h1.up, fun f hf => ?_⟩, ⟨h2.acked, h2.got, h2.few, h2.want, h2.zero, h2.other, h2.opened, h2.codes, h2.codesL, h2.next, h2.seq, h2.newsN, h2.newsS, h2.resets, h2.up, fun f hf => (h2.fr f hf).up (Nat.le_refl _) rfl rfl rfl ⟨[], by simp⟩ ⟨[], by simp⟩ (Nat.le_refl _) id⟩⟩
        · show X.E.out ++ markS l e = (X.put ++ markS l e).drop a
          rw [ho, List.drop_append_of_le_length (by omega)]
        · show Y.rd ++ Y.E.inn = (X.put ++ markS l e).take b
          rw [h1.got, List.take_append_of_le_length hf]
        · show b ≤ (X.put ++ markS l e).length
          rw [List.length_append]; omega
        · exact (h1.fr f hf).up (Nat.le_refl _) rfl rfl rfl ⟨markS l e, rfl⟩ ⟨[], by simp⟩ (Nat.le_refl _) id
theorem inv_read {b c : Nat} {X Y : Hf} (h : Inv b c X Y) (k : Nat) : Inv b c { X with E := { X.E with inn := X.E.inn.drop k }, rd := X.rd ++ X.E.inn.take k } Y := by
  obtain ⟨h1, h2⟩ := h
  refine ⟨⟨h1.acked, h1.got, h1.few, h1.want, h1.zero, h1.other, h1.opened, h1.codes, h1.codesL, h1.next, h1.seq, h1.newsN, h1.newsS, h1.resets, h1.up, fun f hf => (h1.fr f hf).up (Nat.le_refl _) rfl rfl rfl ⟨[], by simp⟩ ⟨[], by simp⟩ (Nat.le_refl _) id⟩, ⟨h2.acked, ?_, h2.few, h2.want, h2.zero, h2.other, h2.opened, h2.codes, h2.codesL, h2.next, h2.seq, h2.newsN, h2.newsS, h2.resets, h2.up, fun f hf => (h2.fr f hf).up (Nat.le_refl _) rfl rfl rfl ⟨[], by simp⟩ ⟨[], by simp⟩ (Nat.le_refl _) id⟩⟩
  show (X.rd ++ X.E.inn.take k) ++ X.E.inn.drop k = _
  rw [List.append_assoc, List.take_append_drop, h2.got]
theorem inv_att {b c : Nat} {X Y : Hf} (h : Inv b c X Y) (l : By) : Inv b c { X with E := (attendS X.E l).1, sent := X.sent ++ attN X.E l } Y := by
  unfold attN attendS
  split
  · rw [if_neg (by show ¬ (110 : Int) = 0; decide), List.append_nil]; exact h
  · split
    · rw [if_neg (by show ¬ (90 : Int) = 0; decide), List.append_nil]; exact h
    · split
      · rw [if_neg (by show ¬ (2 : Int) = 0; decide), List.append_nil]; exact h
      · rename_i hns _
        rw [if_pos rfl]
        obtain ⟨h1, h2⟩ := h
        have hn : X.E.news = none := by
          cases hn : X.E.news with
          | none => rfl
          | some x => rw [hn] at hns; exact absurd rfl hns
        have hsl := h1.newsN hn
        have hcl := h1.codesL
        refine ⟨⟨h1.acked, h1.got, h1.few, h1.want, h1.zero, h1.other, h1.opened, ?_, ?_, h1.next, h1.seq, fun h => (by cases h), fun l' h => ?_, h1.resets, h1.up, fun f hf => (h1.fr f hf).up (Nat.le_refl _) rfl rfl rfl ⟨[], by simp⟩ ⟨[l], rfl⟩ (Nat.le_refl _) id⟩, ⟨h2.acked, h2.got, h2.few, h2.want, h2.zero, h2.other, h2.opened, h2.codes, h2.codesL, h2.next, h2.seq, h2.newsN, h2.newsS, h2.resets, h2.up, fun f hf => (h2.fr f hf).up (Nat.le_refl _) rfl rfl rfl ⟨[], by simp⟩ ⟨[], by simp⟩ (Nat.le_refl _) id⟩⟩
        · show Y.E.codes = (X.sent ++ [l]).take Y.E.codes.length
          rw [List.take_append_of_le_length hcl]; exact h1.codes
        · show _ ≤ (X.sent ++ [l]).length
          rw [List.length_append]; omega
        · cases h
          show (X.sent ++ [l]).length = X.E.seq + 1 ∧ (X.sent ++ [l])[X.E.seq]? = some l
          rw [List.length_append, hsl, ← hsl]
          exact ⟨rfl, by simp⟩
/-- What a tick, a beginning, an end change of an end is none of what flows. -/
structure Keep (E E' : En) : Prop where mk ::
  eq : E' = { E with state := E'.state, age := E'.age, quiet := E'.quiet }
  st : E'.state = 3 → E.state = 3
theorem inv_same {b c : Nat} {X Y : Hf} {E' : En} (h : Inv b c X Y) (he : E' = { X.E with state := E'.state, age := E'.age, quiet := E'.quiet }) (hop : E'.state = 3 → X.E.other ≠ 0) (hup : E'.state = 3 → Y.E.other ≠ 0) : Inv b c { X with E := E' } Y := by
  obtain ⟨h1, h2⟩ := h
  rw [he]
  exact ⟨⟨h1.acked, h1.got, h1.few, h1.want, h1.zero, h1.other, h1.opened, h1.codes, h1.codesL, h1.next, h1.seq, h1.newsN, h1.newsS, h1.resets, h1.up, fun f hf => (h1.fr f hf).up (Nat.le_refl _) rfl rfl rfl ⟨[], by simp⟩ ⟨[], by simp⟩ (Nat.le_refl _) id⟩, ⟨h2.acked, h2.got, h2.few, h2.want, h2.zero, h2.other, hop, h2.codes, h2.codesL, h2.next, h2.seq, h2.newsN, h2.newsS, h2.resets, hup, fun f hf => (h2.fr f hf).up (Nat.le_refl _) rfl rfl rfl ⟨[], by simp⟩ ⟨[], by simp⟩ (Nat.le_refl _) id⟩⟩
theorem inv_keep {b c : Nat} {X Y : Hf} {E' : En} (h : Inv b c X Y) (hk : Keep X.E E') : Inv b c { X with E := E' } Y :=
  inv_same h hk.eq (fun h3 => h.fro.opened (hk.st h3)) (fun h3 => h.fro.up (hk.st h3))
theorem Keep.rfl' (E : En) : Keep E E := ⟨rfl, id⟩
theorem close_keep (E : En) : Keep E (closeS E).1 := by
  unfold closeS
  split
  · exact Keep.rfl' E
  · exact ⟨rfl, fun h => (by cases h)⟩
theorem begin_keep (E : En) {s : Nat} (hs : s ≠ 3) : Keep E (beginS E s).1 := by
  unfold beginS
  split
  · exact Keep.rfl' E
  · exact ⟨rfl, fun h => absurd h hs⟩
theorem age_keep (E : En) : Keep E (ageS E) := by
  unfold ageS
  split
  · exact ⟨rfl, id⟩
  · exact Keep.rfl' E
theorem tick_keep (E : En) : Keep E (tickS E).1 := by
  unfold tickS
  split
  · exact Keep.rfl' E
  · split
    · exact ⟨rfl, fun h => (by cases h)⟩
    · split
      · exact age_keep E
      · split
        · exact age_keep E
        · have h := age_keep E
          have hs : (ageS E).state = E.state := by unfold ageS; split <;> rfl
          refine ⟨?_, fun h3 => hs ▸ h3⟩
          show ({ ageS E with quiet := E.quiet + 1 } : En) = _
          rw [h.eq]
theorem doE_keep (E : En) {d : Int} (hd : d ≠ 4) : Keep E (doE d E) := by
  unfold doE
  split
  · exact begin_keep E (by decide)
  · split
    · exact begin_keep E (by decide)
    · exact tick_keep E
/-- Frames that are sent. -/
theorem inv_send {b c : Nat} {X Y : Hf} {l : List Fr} (h : Inv b c X Y) (hl : ∀ f ∈ l, FrX c X Y f) : Inv b c X { Y with fly := Y.fly ++ l } := by
  obtain ⟨h1, h2⟩ := h
  refine ⟨⟨h1.acked, h1.got, h1.few, h1.want, h1.zero, h1.other, h1.opened, h1.codes, h1.codesL, h1.next, h1.seq, h1.newsN, h1.newsS, h1.resets, h1.up, fun f hf => ?_⟩, ⟨h2.acked, h2.got, h2.few, h2.want, h2.zero, h2.other, h2.opened, h2.codes, h2.codesL, h2.next, h2.seq, h2.newsN, h2.newsS, h2.resets, h2.up, fun f hf => (h2.fr f hf).up (Nat.le_refl _) rfl rfl rfl ⟨[], by simp⟩ ⟨[], by simp⟩ (Nat.le_refl _) id⟩⟩
  rcases List.mem_append.1 hf with hf | hf
  · exact (h1.fr f hf).up (Nat.le_refl _) rfl rfl rfl ⟨[], by simp⟩ ⟨[], by simp⟩ (Nat.le_refl _) id
  · exact (hl f hf).up (Nat.le_refl _) rfl rfl rfl ⟨[], by simp⟩ ⟨[], by simp⟩ (Nat.le_refl _) id
/-- Frames that are lost. -/
theorem inv_less {b c : Nat} {X Y : Hf} {l : List Fr} (h : Inv b c X Y) (hl : ∀ f ∈ l, f ∈ X.fly) : Inv b c { X with fly := l } Y := by
  obtain ⟨h1, h2⟩ := h
  exact ⟨⟨h1.acked, h1.got, h1.few, h1.want, h1.zero, h1.other, h1.opened, h1.codes, h1.codesL, h1.next, h1.seq, h1.newsN, h1.newsS, h1.resets, h1.up, fun f hf => (h1.fr f hf).up (Nat.le_refl _) rfl rfl rfl ⟨[], by simp⟩ ⟨[], by simp⟩ (Nat.le_refl _) id⟩, ⟨h2.acked, h2.got, h2.few, h2.want, h2.zero, h2.other, h2.opened, h2.codes, h2.codesL, h2.next, h2.seq, h2.newsN, h2.newsS, h2.resets, h2.up, fun f hf => (h2.fr f (hl f hf)).up (Nat.le_refl _) rfl rfl rfl ⟨[], by simp⟩ ⟨[], by simp⟩ (Nat.le_refl _) id⟩⟩
/-! ### What is sent -/
theorem frX_hello {c0 : Nat} {X Y : Hf} {kind : Int} (hk : kind = 1 ∨ (kind = 2 ∧ X.E.other ≠ 0)) : FrX c0 X Y (openingS X.E kind) :=
  ⟨rfl, fun _ => rfl, by show kind ≠ 5; omega, by show kind ≠ 6; omega, fun h => absurd (show kind = 4 from h) (by omega), fun h => absurd (show kind = 7 from h) (by omega), fun h => absurd (show kind = 3 ∨ kind = 4 ∨ kind = 8 from h) (by omega), fun h => absurd (show kind = 8 from h) (by omega), fun h => by rcases hk with hk | hk; exact absurd hk h; exact hk.2⟩
theorem frX_close {c0 : Nat} {X Y : Hf} (ho : X.E.state = 3 → X.E.other ≠ 0) : ∀ f ∈ closeN X.E, FrX c0 X Y f := by
  intro f hf
  unfold closeN at hf
  split at hf
  · rename_i hz
    rw [List.mem_singleton] at hf
    rw [hf]
    unfold closeS at hz ⊢
    split at hz
    · exact absurd hz (by show ¬ (110 : Int) = 0; decide)
    · rename_i h3
      rw [if_neg h3]
      exact ⟨rfl, fun h => absurd h (by show ¬ ((9 : Int) = 1 ∨ (9 : Int) = 2); decide), by show (9 : Int) ≠ 5; decide, by show (9 : Int) ≠ 6; decide, fun h => absurd h (by show ¬ (9 : Int) = 4; decide), fun h => absurd h (by show ¬ (9 : Int) = 7; decide), fun h => absurd h (by show ¬ ((9 : Int) = 3 ∨ (9 : Int) = 4 ∨ (9 : Int) = 8); decide), fun h => absurd h (by show ¬ (9 : Int) = 8; decide), fun _ => ho (by omega)⟩
  · cases hf
/-- A frame that says what is seen. -/
theorem frX_seen {c0 : Nat} {X Y : Hf} (ho : X.E.other ≠ 0) (hw : X.E.want = plusS Y.E.first c0) (d : By) : FrX c0 X Y (frameS X.E 3 0 d) :=
  ⟨rfl, fun h => absurd h (by show ¬ ((3 : Int) = 1 ∨ (3 : Int) = 2); decide), by show (3 : Int) ≠ 5; decide, by show (3 : Int) ≠ 6; decide, fun h => absurd h (by show ¬ (3 : Int) = 4; decide), fun h => absurd h (by show ¬ (3 : Int) = 7; decide), fun _ => ⟨c0, Nat.le_refl _, by show ((X.E.want : Nat) : Int) = _; rw [hw]⟩, fun h => absurd h (by show ¬ (3 : Int) = 8; decide), fun _ => ho⟩
theorem frX_noted {c0 : Nat} {X Y : Hf} (ho : X.E.other ≠ 0) (hw : X.E.want = plusS Y.E.first c0) {j : Nat} (hj : j < X.E.codes.length) (d : By) : FrX c0 X Y (frameS X.E 8 (j : Nat) d) :=
  ⟨rfl, fun h => absurd h (by show ¬ ((8 : Int) = 1 ∨ (8 : Int) = 2); decide), by show (8 : Int) ≠ 5; decide, by show (8 : Int) ≠ 6; decide, fun h => absurd h (by show ¬ (8 : Int) = 4; decide), fun h => absurd h (by show ¬ (8 : Int) = 7; decide), fun _ => ⟨c0, Nat.le_refl _, by show ((X.E.want : Nat) : Int) = _; rw [hw]⟩, fun _ => ⟨j, rfl, hj⟩, fun _ => ho⟩
theorem bitB_at (e : Bool) (l : By) : decide ((atD (bitB e :: l) 0).toNat = 1) = e := by
  show decide ((bitB e).toNat = 1) = e
  cases e <;> decide
theorem frB_eq {x y : UInt8} {b : UInt8} {l : By} : (((b :: l) ++ [x, y]).take (((b :: l) ++ [x, y]).length - 2)).drop 1 = l := by
  have h : ((b :: l) ++ [x, y]).length - 2 = (b :: l).length := by simp
  rw [h, List.take_left]
  rfl
theorem frX_data {c0 : Nat} {X Y : Hf} (ho : X.E.other ≠ 0) (hw : X.E.want = plusS Y.E.first c0) {a : Nat} (hb : X.E.base = plusS X.E.first a) : ∀ (g at_ : Nat) (l : List Bf), (∃ t, (X.put.drop (a + at_)) = l ++ t) → ∀ f ∈ sentG X.E g at_ l, FrX c0 X Y f
  | 0, _, _, _, f, hf => by cases hf
  | g + 1, _, [], _, f, hf => by cases hf
  | g + 1, at_, x :: r, ⟨t, ht⟩, f, hf => by
    unfold sentG at hf
    dsimp only at hf
    obtain ⟨k, hk⟩ : ∃ k, cutN (x :: r) 60 = k := ⟨_, rfl⟩
    have hkl := (cutN_le (x :: r) 60).2
    rw [hk] at hf hkl
    have htl := congrArg List.length ht
    rw [List.length_drop, List.length_append] at htl
    rcases List.mem_cons.1 hf with rfl | hf
    · have hB : frB (frameS X.E 4 (plusS X.E.base at_ : Nat) ((bitB (cutE (x :: r) k) :: ((x :: r).take k).map (·.1)) ++ tailS X.E)) = ((x :: r).take k).map (·.1) := frB_eq
      have hE : frE (frameS X.E 4 (plusS X.E.base at_ : Nat) ((bitB (cutE (x :: r) k) :: ((x :: r).take k).map (·.1)) ++ tailS X.E)) = cutE (x :: r) k := bitB_at _ _
      have hBl : (((x :: r).take k).map (·.1)).length = k := by rw [List.length_map, List.length_take]; omega
      have hm := take_cut (x :: r) 60
      rw [hk] at hm
      refine ⟨rfl, fun h => absurd h (by show ¬ ((4 : Int) = 1 ∨ (4 : Int) = 2); decide), by show (4 : Int) ≠ 5; decide, by show (4 : Int) ≠ 6; decide, fun _ => ⟨a + at_, ?_, ?_, ?_⟩, fun h => absurd h (by show ¬ (4 : Int) = 7; decide), fun _ => ⟨c0, Nat.le_refl _, by show ((X.E.want : Nat) : Int) = _; rw [hw]⟩, fun h => absurd h (by show ¬ (4 : Int) = 8; decide), fun _ => ho⟩
      · show ((plusS X.E.base at_ : Nat) : Int) = _
        rw [hb, plus_plus]
      · have hp : 0 < (x :: r).length := by rw [List.length_cons]; exact Nat.succ_pos _
        rw [hB, hBl]
        omega
      · rw [hB, hE, hBl, ← hm, ht, List.take_append_of_le_length hkl]
    · refine frX_data ho hw hb g (at_ + k) ((x :: r).drop k) ⟨t, ?_⟩ f hf
      rw [← Nat.add_assoc, ← List.drop_drop, ht, List.drop_append_of_le_length hkl]
theorem frX_tick {b c : Nat} {X Y : Hf} (h : Inv b c X Y) (ok : EnOk X.E) : ∀ f ∈ (tickS X.E).2, FrX c X Y f := by
  obtain ⟨h1, h2⟩ := h
  have hst := ok.state
  intro f hf
  unfold tickS at hf
  split at hf
  · cases hf
  · rename_i h04
    split at hf
    · cases hf
    · split at hf
      · cases hf
      · rename_i hs1
        split at hf
        · rw [List.mem_singleton] at hf
          rw [hf]; exact frX_hello (.inl rfl)
        · rename_i hs2
          dsimp only at hf
          rw [tickO_eq] at hf
          have h3 : X.E.state = 3 := by omega
          have hw := h2.want (h2.opened h3)
          obtain ⟨a, ha, hb, ho⟩ := h1.acked
          obtain ⟨E', hE'⟩ : ∃ E', ({ ageS X.E with quiet := X.E.quiet + 1 } : En) = E' := ⟨_, rfl⟩
          rw [hE'] at hf
          have hk : E' = { X.E with state := E'.state, age := E'.age, quiet := E'.quiet } := by
            rw [← hE']
            show ({ ageS X.E with quiet := X.E.quiet + 1 } : En) = _
            rw [(age_keep X.E).eq]
          have kr : E'.resets = X.E.resets := by rw [hk]
          have kn : E'.news = X.E.news := by rw [hk]
          have ki : E'.num = X.E.num := by rw [hk]
          have ks : E'.seq = X.E.seq := by rw [hk]
          have kw : E'.want = X.E.want := by rw [hk]
          have kb : E'.base = X.E.base := by rw [hk]
          have kf : E'.first = X.E.first := by rw [hk]
          have ko : E'.out = X.E.out := by rw [hk]
          have kc : E'.codes = X.E.codes := by rw [hk]
          have kh : E'.other = X.E.other := by rw [hk]
          have hoth := h2.opened h3
          have hup : ∀ f, FrX c { X with E := E' } Y f → FrX c X Y f := fun f hf => hf.up (Nat.le_refl _) ki.symm kf.symm rfl ⟨[], by simp⟩ ⟨[], by simp⟩ (by show E'.codes.length ≤ _; rw [kc]; exact Nat.le_refl _) (fun _ => hoth)
          rcases List.mem_append.1 hf with hf | hf
          · rcases List.mem_append.1 hf with hf | hf
            · unfold tickR at hf
              rw [if_neg (by rw [kr, h1.resets]; decide)] at hf
              cases hf
            · unfold tickN at hf
              split at hf
              · rename_i l hl
                rw [List.mem_singleton] at hf
                rw [hf]
                obtain ⟨n1, n2⟩ := h1.newsS l (kn ▸ hl)
                exact ⟨by show ((E'.num : Nat) : Int) = _; rw [ki], fun h => absurd h (by show ¬ ((7 : Int) = 1 ∨ (7 : Int) = 2); decide), by show (7 : Int) ≠ 5; decide, by show (7 : Int) ≠ 6; decide, fun h => absurd h (by show ¬ (7 : Int) = 4; decide), fun _ => ⟨X.E.seq, by show ((E'.seq : Nat) : Int) = _; rw [ks], n2⟩, fun h => absurd h (by show ¬ ((7 : Int) = 3 ∨ (7 : Int) = 4 ∨ (7 : Int) = 8); decide), fun h => absurd h (by show ¬ (7 : Int) = 8; decide), fun _ => hoth⟩
              · cases hf
          · refine hup f ?_
            unfold tickB at hf
            split at hf
            · refine frX_data (X := { X with E := E' }) (by show E'.other ≠ 0; rw [kh]; exact hoth) (by show E'.want = _; rw [kw]; exact hw) (a := a) (by show E'.base = plusS E'.first a; rw [kb, kf]; exact hb) _ 0 _ ⟨E'.out.drop (min E'.out.length E'.room), ?_⟩ f hf
              rw [Nat.add_zero, List.take_append_drop, ko]
              exact ho.symm
            · split at hf
              · rw [List.mem_singleton] at hf
                rw [hf]
                exact frX_seen (X := { X with E := E' }) (by show E'.other ≠ 0; rw [kh]; exact hoth) (by show E'.want = _; rw [kw]; exact hw) _
              · cases hf
/-! ### A frame comes -/
theorem inv_learn {b c : Nat} {X Y : Hf} {f : Fr} (h : Inv b c X Y) (hf : FrX b Y X f) (h0 : X.E.other = 0) (hk : f.kind = 1 ∨ f.kind = 2) (hy : Y.E.first < M) (hyn : 0 < Y.E.num) : Inv b c { X with E := learnS X.E f } Y ∧ c = 0 := by
  obtain ⟨h1, h2⟩ := h
  have hc := h2.zero h0
  have hs := hf.hello hk
  have hi := hf.id
  refine ⟨⟨⟨h1.acked, h1.got, h1.few, h1.want, h1.zero, h1.other, h1.opened, h1.codes, h1.codesL, h1.next, h1.seq, h1.newsN, h1.newsS, h1.resets, fun h3 => absurd h0 (h1.up h3), fun f hf => (h1.fr f hf).up (Nat.le_refl _) rfl rfl rfl ⟨[], by simp⟩ ⟨[], by simp⟩ (Nat.le_refl _) (fun h => absurd h0 h)⟩, ⟨h2.acked, h2.got, h2.few, fun _ => ?_, fun _ => hc, .inr ?_, fun h3 => absurd h0 (h2.opened h3), h2.codes, h2.codesL, h2.next, h2.seq, h2.newsN, h2.newsS, h2.resets, h2.up, fun f hf => (h2.fr f hf).up (Nat.le_refl _) rfl rfl rfl ⟨[], by simp⟩ ⟨[], by simp⟩ (Nat.le_refl _) id⟩⟩, hc⟩
  · show f.seq.toNat = plusS Y.E.first c
    rw [hc, plus_zero hy, hs]; rfl
  · show f.id.toNat = Y.E.num
    rw [hi]; rfl
theorem inv_wake {b c : Nat} {X Y : Hf} (h : Inv b c X Y) (f : Fr) (ho : X.E.other ≠ 0) (hf : f.kind ≠ 1 → Y.E.other ≠ 0) : Inv b c { X with E := wakeS X.E f } Y := by
  unfold wakeS
  split
  · rename_i hk
    exact inv_same h rfl (fun _ => ho) (fun _ => hf hk.1)
  · exact inv_same h rfl (fun h3 => h.fro.opened h3) (fun h3 => h.fro.up h3)
theorem fromS_big {F a c : Nat} (ha : a ≤ 1000000) (hc : c ≤ 1000000) (h : ¬ a ≤ c) : 4000000000 < fromS (plusS F a) (plusS F c) := by
  rw [from_plus ha hc, if_neg h]; unfold M; omega
theorem inv_ack {b c : Nat} {X Y : Hf} (h : Inv b c X Y) (sm : Sm X) {n : Nat} (hn : ∃ a : Nat, a ≤ b ∧ n = plusS X.E.first a) : Inv b c { X with E := ackS X.E n } Y := by
  obtain ⟨h1, h2⟩ := h
  obtain ⟨a, ha, hb, ho⟩ := h1.acked
  obtain ⟨a2, ha2, rfl⟩ := hn
  have hf := h1.few
  have hp := sm.put
  have hol : X.E.out.length = X.put.length - a := by rw [ho, List.length_drop]
  unfold ackS
  rw [hb, from_plus (by omega) (by omega)]
  by_cases hle : a ≤ a2
  · rw [if_pos hle, if_pos (by omega)]
    refine ⟨⟨⟨a2, ha2, rfl, ?_⟩, h1.got, h1.few, h1.want, h1.zero, h1.other, h1.opened, h1.codes, h1.codesL, h1.next, h1.seq, h1.newsN, h1.newsS, h1.resets, h1.up, fun f hf => (h1.fr f hf).up (Nat.le_refl _) rfl rfl rfl ⟨[], by simp⟩ ⟨[], by simp⟩ (Nat.le_refl _) id⟩, ⟨h2.acked, h2.got, h2.few, h2.want, h2.zero, h2.other, h2.opened, h2.codes, h2.codesL, h2.next, h2.seq, h2.newsN, h2.newsS, h2.resets, h2.up, fun f hf => (h2.fr f hf).up (Nat.le_refl _) rfl rfl rfl ⟨[], by simp⟩ ⟨[], by simp⟩ (Nat.le_refl _) id⟩⟩
    show X.E.out.drop (a2 - a) = X.put.drop a2
    rw [ho, List.drop_drop, show a + (a2 - a) = a2 by omega]
  · rw [if_neg hle, if_neg (by unfold M; omega)]
    exact ⟨h1, h2⟩
theorem inv_room {b c : Nat} {X Y : Hf} (h : Inv b c X Y) (r : Nat) : Inv b c { X with E := { X.E with room := r } } Y := by
  obtain ⟨h1, h2⟩ := h
  exact ⟨⟨h1.acked, h1.got, h1.few, h1.want, h1.zero, h1.other, h1.opened, h1.codes, h1.codesL, h1.next, h1.seq, h1.newsN, h1.newsS, h1.resets, h1.up, fun f hf => (h1.fr f hf).up (Nat.le_refl _) rfl rfl rfl ⟨[], by simp⟩ ⟨[], by simp⟩ (Nat.le_refl _) id⟩, ⟨h2.acked, h2.got, h2.few, h2.want, h2.zero, h2.other, h2.opened, h2.codes, h2.codesL, h2.next, h2.seq, h2.newsN, h2.newsS, h2.resets, h2.up, fun f hf => (h2.fr f hf).up (Nat.le_refl _) rfl rfl rfl ⟨[], by simp⟩ ⟨[], by simp⟩ (Nat.le_refl _) id⟩⟩
theorem inv_heard {b c : Nat} {X Y : Hf} {f : Fr} (h : Inv b c X Y) (sm : Sm X) (hf : FrX b Y X f) (hk : f.kind = 3 ∨ f.kind = 4 ∨ f.kind = 8) : Inv b c { X with E := heardS X.E f } Y := by
  obtain ⟨a, ha, hn⟩ := hf.ack hk
  have hn2 : f.n.toNat = plusS X.E.first a := by rw [hn]; rfl
  have h2 := inv_ack h sm (n := f.n.toNat) ⟨a, ha, hn2⟩
  unfold heardS
  revert h2
  generalize ackS X.E f.n.toNat = A
  intro h2
  split
  · exact inv_room h2 _
  · exact h2
theorem markS_drop : ∀ (l : By) (e : Bool) (k : Nat), k < l.length → (markS l e).drop k = markS (l.drop k) e
  | [], _, k, h => by simp at h
  | x :: r, e, 0, _ => rfl
  | [x], e, k + 1, h => by simp at h
  | x :: y :: r, e, k + 1, h => by
    have ih := markS_drop (y :: r) e k (by simpa using h)
    rw [show markS (x :: y :: r) e = (x, false) :: markS (y :: r) e from rfl, List.drop_succ_cons, ih, List.drop_succ_cons]
theorem inv_data {b c : Nat} {X Y : Hf} {f : Fr} (h : Inv b c X Y) (sy : Sm Y) (hf : FrX b Y X f) (hk : f.kind = 4) (hoth : X.E.other ≠ 0) : ∃ c2, c ≤ c2 ∧ Inv b c2 { X with E := dataS X.E f } Y := by
  have hInv := h
  obtain ⟨h1, h2⟩ := h
  have hw := h2.want hoth
  have hfw := h2.few
  have hp := sy.put
  obtain ⟨s, hs, hl, hm⟩ := hf.data hk
  have hs2 : f.seq.toNat = plusS Y.E.first s := by rw [hs]; rfl
  unfold dataS
  show ∃ c2, c ≤ c2 ∧ Inv b c2 { X with E := (if (frB f).length ≤ fromS f.seq.toNat X.E.want then X.E else { X.E with inn := X.E.inn ++ markS (((frB f).drop (fromS f.seq.toNat X.E.want)).take (winS X.E)) (decide (((frB f).drop (fromS f.seq.toNat X.E.want)).length ≤ winS X.E) && frE f), want := plusS X.E.want (((frB f).drop (fromS f.seq.toNat X.E.want)).take (winS X.E)).length }) } Y
  rw [hs2, hw, from_plus (by omega) (by omega)]
  by_cases hle : s ≤ c
  · rw [if_pos hle]
    by_cases hold : (frB f).length ≤ c - s
    · rw [if_pos hold]
      exact ⟨c, Nat.le_refl _, hInv⟩
    · rw [if_neg hold]
      obtain ⟨cc, hcc⟩ : ∃ cc, (frB f).drop (c - s) = cc := ⟨_, rfl⟩
      have hcl : cc.length = (frB f).length - (c - s) := by rw [← hcc, List.length_drop]
      obtain ⟨W, hW⟩ : ∃ W, winS X.E = W := ⟨_, rfl⟩
      rw [hcc, hW]
      have hmk : markS (cc.take W) (decide (cc.length ≤ W) && frE f) = (Y.put.drop c).take (cc.take W).length := by
        rw [← markS_cut, ← hcc, ← markS_drop _ _ _ (by omega), hm, List.drop_take, List.drop_drop, show s + (c - s) = c by omega, List.take_take, List.length_take, List.length_drop]
      rw [hmk]
      obtain ⟨d, hd⟩ : ∃ d, (cc.take W).length = d := ⟨_, rfl⟩
      have hdl : d ≤ cc.length := by rw [← hd, List.length_take]; omega
      rw [hd, plus_plus]
      obtain ⟨a, ha, hb, ho⟩ := h2.acked
      refine ⟨c + d, by omega, ⟨h1.acked, h1.got, h1.few, h1.want, h1.zero, h1.other, h1.opened, h1.codes, h1.codesL, h1.next, h1.seq, h1.newsN, h1.newsS, h1.resets, h1.up, fun f hf => (h1.fr f hf).up (by omega) rfl rfl rfl ⟨[], by simp⟩ ⟨[], by simp⟩ (Nat.le_refl _) id⟩, ⟨⟨a, by omega, hb, ho⟩, ?_, by omega, fun _ => rfl, fun h0 => absurd h0 hoth, h2.other, h2.opened, h2.codes, h2.codesL, h2.next, h2.seq, h2.newsN, h2.newsS, h2.resets, h2.up, fun f hf => (h2.fr f hf).up (Nat.le_refl _) rfl rfl rfl ⟨[], by simp⟩ ⟨[], by simp⟩ (Nat.le_refl _) id⟩⟩
      show X.rd ++ (X.E.inn ++ (Y.put.drop c).take d) = Y.put.take (c + d)
      rw [← List.append_assoc, h2.got, List.take_add]
  · rw [if_neg hle, if_pos (by unfold M; omega)]
    exact ⟨c, Nat.le_refl _, hInv⟩
theorem inv_heed {b c : Nat} {X Y : Hf} {f : Fr} (h : Inv b c X Y) (sy : Sm Y) (hf : FrX b Y X f) (hk : f.kind = 7) (hoth : X.E.other ≠ 0) : Inv b c { X with E := (heedS X.E f).1 } { Y with fly := Y.fly ++ (heedS X.E f).2 } := by
  have hInv := h
  obtain ⟨h1, h2⟩ := h
  have hw := h2.want hoth
  have hcl := h2.codesL
  have hss := sy.sent
  have hnx := h2.next
  obtain ⟨j, hj, hd⟩ := hf.att hk
  have hj2 : j < Y.sent.length := by
    rcases Nat.lt_or_ge j Y.sent.length with h | h
    · exact h
    · rw [List.getElem?_eq_none h] at hd; cases hd
  unfold heedS
  by_cases he : f.seq = X.E.next
  · rw [if_pos he]
    have hjc : j = X.E.codes.length := by omega
    have hI2 : Inv b c { X with E := { X.E with codes := X.E.codes ++ [f.data], next := (X.E.next + 1) % 65536 } } Y := by
      refine ⟨⟨h1.acked, h1.got, h1.few, h1.want, h1.zero, h1.other, h1.opened, h1.codes, h1.codesL, h1.next, h1.seq, h1.newsN, h1.newsS, h1.resets, h1.up, fun f hf => (h1.fr f hf).up (Nat.le_refl _) rfl rfl rfl ⟨[], by simp⟩ ⟨[], by simp⟩ (by show X.E.codes.length ≤ (X.E.codes ++ [_]).length; rw [List.length_append]; omega) id⟩, ⟨h2.acked, h2.got, h2.few, h2.want, h2.zero, h2.other, h2.opened, ?_, ?_, ?_, ?_, h2.newsN, h2.newsS, h2.resets, h2.up, fun f hf => (h2.fr f hf).up (Nat.le_refl _) rfl rfl rfl ⟨[], by simp⟩ ⟨[], by simp⟩ (Nat.le_refl _) id⟩⟩
      · show X.E.codes ++ [f.data] = Y.sent.take (X.E.codes ++ [f.data]).length
        rw [List.length_append, List.length_singleton, List.take_add_one, ← h2.codes, ← hjc, hd]
        rfl
      · show (X.E.codes ++ [f.data]).length ≤ _
        rw [List.length_append, List.length_singleton]; omega
      · show (X.E.next + 1) % 65536 = (X.E.codes ++ [f.data]).length
        rw [List.length_append, List.length_singleton, hnx]; omega
      · show Y.E.seq ≤ (X.E.codes ++ [f.data]).length
        have := h2.seq
        rw [List.length_append, List.length_singleton]; omega
    refine inv_send hI2 fun g hg => ?_
    rw [List.mem_singleton] at hg
    rw [hg, hj]
    exact frX_noted (X := { X with E := { X.E with codes := X.E.codes ++ [f.data], next := (X.E.next + 1) % 65536 } }) hoth hw (by show j < (X.E.codes ++ [f.data]).length; rw [List.length_append, List.length_singleton]; omega) []
  · rw [if_neg he]
    by_cases h3 : ((f.seq.toNat + 1) % 65536 : Nat) ≠ X.E.next
    · rw [if_pos h3]
      exact inv_send hInv fun g hg => by cases hg
    · rw [if_neg h3]
      refine inv_send hInv fun g hg => ?_
      rw [List.mem_singleton] at hg
      rw [hg, hj]
      exact frX_noted hoth hw (by
        have h4 : (f.seq.toNat + 1) % 65536 = X.E.next := Decidable.not_not.1 h3
        have h5 : f.seq.toNat = j := by rw [hj]; rfl
        omega) []
theorem room_keeps (A : En) (r : Nat) : ({ A with room := r } : En).other = A.other ∧ ({ A with room := r } : En).first = A.first ∧ ({ A with room := r } : En).num = A.num := ⟨rfl, rfl, rfl⟩
theorem heardS_other (E : En) (f : Fr) : (heardS E f).other = E.other := by
  have h : (ackS E f.n.toNat).other = E.other := by unfold ackS; split <;> rfl
  unfold heardS
  revert h
  generalize ackS E f.n.toNat = A
  intro h
  split
  · exact (room_keeps A _).1.trans h
  · exact h
theorem ackS_seq (E : En) (n : Nat) : (ackS E n).seq = E.seq ∧ (ackS E n).news = E.news := by unfold ackS; split <;> exact ⟨rfl, rfl⟩
theorem heardS_first (E : En) (f : Fr) : (heardS E f).first = E.first := by
  have h : (ackS E f.n.toNat).first = E.first := by unfold ackS; split <;> rfl
  unfold heardS
  revert h
  generalize ackS E f.n.toNat = A
  intro h
  split
  · exact (room_keeps A _).2.1.trans h
  · exact h
theorem heardS_seq (E : En) (f : Fr) (h8 : f.kind = 8) : (heardS E f).seq = E.seq ∧ (heardS E f).news = E.news := by
  have h := ackS_seq E f.n.toNat
  unfold heardS
  revert h
  generalize ackS E f.n.toNat = A
  intro h
  rw [if_neg (by omega)]
  exact h
theorem inv_noted {b c : Nat} {X Y : Hf} (h : Inv b c X Y) (sx : Sm X) (hj : X.E.seq < Y.E.codes.length) (hn : X.E.news.isSome = true) : Inv b c { X with E := { X.E with news := none, seq := (X.E.seq + 1) % 65536 } } Y := by
  obtain ⟨h1, h2⟩ := h
  have hs := sx.sent
  have hcl := h1.codesL
  have hm : (X.E.seq + 1) % 65536 = X.E.seq + 1 := Nat.mod_eq_of_lt (by omega)
  rcases hnw : X.E.news with _ | l
  · rw [hnw] at hn; cases hn
  · obtain ⟨n1, n2⟩ := h1.newsS l hnw
    exact ⟨⟨h1.acked, h1.got, h1.few, h1.want, h1.zero, h1.other, h1.opened, h1.codes, h1.codesL, h1.next, by show (X.E.seq + 1) % 65536 ≤ _; omega, fun _ => by show X.sent.length = (X.E.seq + 1) % 65536; omega, fun l h => (by cases h), h1.resets, h1.up, fun f hf => (h1.fr f hf).up (Nat.le_refl _) rfl rfl rfl ⟨[], by simp⟩ ⟨[], by simp⟩ (Nat.le_refl _) id⟩, ⟨h2.acked, h2.got, h2.few, h2.want, h2.zero, h2.other, h2.opened, h2.codes, h2.codesL, h2.next, h2.seq, h2.newsN, h2.newsS, h2.resets, h2.up, fun f hf => (h2.fr f hf).up (Nat.le_refl _) rfl rfl rfl ⟨[], by simp⟩ ⟨[], by simp⟩ (Nat.le_refl _) id⟩⟩
theorem inv_does {b c : Nat} {X Y : Hf} {f : Fr} (h : Inv b c X Y) (sx : Sm X) (sy : Sm Y) (hf : FrX b Y X f) (hoth : X.E.other ≠ 0) (hv : 1 ≤ f.kind ∧ f.kind ≤ 9) : ∃ c2, c ≤ c2 ∧ Inv b c2 { X with E := (doesS X.E f).1 } { Y with fly := Y.fly ++ (doesS X.E f).2 } := by
  have hw := h.fro.want hoth
  have h5 := hf.no5
  have h6 := hf.no6
  unfold doesS
  by_cases k1 : f.kind = 1
  · rw [if_pos k1]
    exact ⟨c, Nat.le_refl _, inv_send h fun g hg => by rw [List.mem_singleton] at hg; rw [hg]; exact frX_hello (.inr ⟨rfl, hoth⟩)⟩
  rw [if_neg k1]
  by_cases k2 : f.kind = 2
  · rw [if_pos k2]
    exact ⟨c, Nat.le_refl _, inv_send h fun g hg => by rw [List.mem_singleton] at hg; rw [hg]; exact frX_seen hoth hw _⟩
  rw [if_neg k2]
  by_cases k9 : f.kind = 9
  · rw [if_pos k9]
    exact ⟨c, Nat.le_refl _, inv_send (inv_keep h ⟨rfl, fun h => (by cases h)⟩) fun g hg => by cases hg⟩
  rw [if_neg k9]
  by_cases k7 : f.kind = 7
  · rw [if_pos k7]
    exact ⟨c, Nat.le_refl _, inv_heed h sy hf k7 hoth⟩
  rw [if_neg k7]
  have hh := inv_heard h sx hf (by omega)
  have ho := heardS_other X.E f
  have hfi := heardS_first X.E f
  have hsq := fun h8 : f.kind = 8 => heardS_seq X.E f h8
  dsimp only
  revert hh ho hfi hsq
  generalize heardS X.E f = E2
  intro hh ho hfi hsq
  by_cases k4 : f.kind = 4
  · rw [if_pos k4]
    obtain ⟨c2, hc, hI⟩ := inv_data (f := f) hh sy (hf.up (Nat.le_refl _) rfl rfl hfi ⟨[], by simp⟩ ⟨[], by simp⟩ (Nat.le_refl _) id) k4 (by show E2.other ≠ 0; rw [ho]; exact hoth)
    have hoth2 : (dataS E2 f).other ≠ 0 := by
      have : (dataS E2 f).other = E2.other := by unfold dataS; dsimp only; split <;> rfl
      rw [this, ho]; exact hoth
    exact ⟨c2, hc, inv_send hI fun g hg => by rw [List.mem_singleton] at hg; rw [hg]; exact frX_seen (X := { X with E := dataS E2 f }) hoth2 (hI.fro.want hoth2) _⟩
  rw [if_neg k4, if_neg h5, if_neg h6]
  by_cases k8 : f.kind = 8
  · rw [if_pos k8]
    dsimp only
    obtain ⟨j, hj, hjl⟩ := hf.seen k8
    have hsq := hsq k8
    by_cases hc : E2.news.isSome = true ∧ f.seq = E2.seq
    · rw [if_pos hc]
      refine ⟨c, Nat.le_refl _, inv_send (inv_noted hh ⟨sx.put, sx.sent, by show E2.first < M; rw [hfi]; exact sx.first⟩ ?_ hc.1) fun g hg => by cases hg⟩
      show E2.seq < Y.E.codes.length
      omega
    · rw [if_neg hc]
      exact ⟨c, Nat.le_refl _, inv_send hh fun g hg => by cases hg⟩
  · rw [if_neg k8]
    exact ⟨c, Nat.le_refl _, inv_send hh fun g hg => by cases hg⟩
theorem validF_kind {f : Fr} (h : validF f = true) : (1 ≤ f.kind ∧ f.kind ≤ 9) := by
  have := (validF_iff f).1 h
  unfold okF at this
  omega
theorem inv_take {b c : Nat} {X Y : Hf} {f : Fr} (h : Inv b c X Y) (sx : Sm X) (sy : Sm Y) (ok : EnOk Y.E) (hf : FrX b Y X f) : ∃ c2, c ≤ c2 ∧ Inv b c2 { X with E := (takeS X.E f).1 } { Y with fly := Y.fly ++ (takeS X.E f).2.1 } := by
  have hsame : ∃ c2, c ≤ c2 ∧ Inv b c2 X { Y with fly := Y.fly ++ [] } := ⟨c, Nat.le_refl _, inv_send h fun g hg => by cases hg⟩
  unfold takeS
  by_cases hv : validF f = false
  · rw [if_pos hv]; exact hsame
  rw [if_neg hv]
  have hv2 := validF_kind (by simpa using hv)
  by_cases h04 : X.E.state = 0 ∨ X.E.state = 4
  · rw [if_pos h04]; exact hsame
  rw [if_neg h04]
  by_cases hn : X.E.other = 0 ∧ (f.kind = 1 ∨ (f.kind = 2 ∧ X.E.state = 2))
  · rw [if_pos hn]
    obtain ⟨hI, hc⟩ := inv_learn h hf hn.1 (by omega) sy.first ok.num.1
    have ho : (learnS X.E f).other ≠ 0 := by
      show f.id.toNat ≠ 0
      have := ok.num.1
      rw [hf.id]
      show Y.E.num ≠ 0
      omega
    have hI2 := inv_wake hI f ho hf.known
    exact inv_does (X := { X with E := wakeS (learnS X.E f) f }) hI2 ⟨sx.put, sx.sent, by show (wakeS (learnS X.E f) f).first < M; unfold wakeS; split <;> exact sx.first⟩ sy (hf.up (Nat.le_refl _) rfl rfl (by show (wakeS (learnS X.E f) f).first = _; unfold wakeS; split <;> rfl) ⟨[], by simp⟩ ⟨[], by simp⟩ (Nat.le_refl _) id) (by show (wakeS (learnS X.E f) f).other ≠ 0; unfold wakeS; split <;> exact ho) hv2
  rw [if_neg hn]
  by_cases ho : X.E.other = 0 ∨ f.id ≠ X.E.other
  · rw [if_pos ho]; exact hsame
  rw [if_neg ho]
  have ho2 : X.E.other ≠ 0 := fun h => ho (.inl h)
  have hI2 := inv_wake h f ho2 hf.known
  exact inv_does (X := { X with E := wakeS X.E f }) hI2 ⟨sx.put, sx.sent, by show (wakeS X.E f).first < M; unfold wakeS; split <;> exact sx.first⟩ sy (hf.up (Nat.le_refl _) rfl rfl (by show (wakeS X.E f).first = _; unfold wakeS; split <;> rfl) ⟨[], by simp⟩ ⟨[], by simp⟩ (Nat.le_refl _) id) (by show (wakeS X.E f).other ≠ 0; unfold wakeS; split <;> exact ho2) hv2
theorem inv_deed {b c : Nat} {X Y : Hf} {m : Mv} (h : Inv b c X Y) (sx : Sm X) (sy : Sm Y) (ox : EnOk X.E) (oy : EnOk Y.E) (hd : m.d ≠ 4) : ∃ c2, c ≤ c2 ∧ Inv b c2 (deedX m X Y).1 (deedX m X Y).2 := by
  unfold deedX
  split
  · exact ⟨c, Nat.le_refl _, inv_put h _ _⟩
  · split
    · exact ⟨c, Nat.le_refl _, inv_read h _⟩
    · split
      · exact ⟨c, Nat.le_refl _, inv_att h _⟩
      · split
        · have hk := inv_keep h (close_keep X.E)
          refine ⟨c, Nat.le_refl _, inv_send hk fun f hf => (frX_close (c0 := c) (X := X) (Y := Y) h.fro.opened f hf).up (Nat.le_refl _) ?_ ?_ rfl ⟨[], by simp⟩ ⟨[], by simp⟩ ?_ ?_⟩
          · show (closeS X.E).1.num = _; rw [(close_keep X.E).eq]
          · show (closeS X.E).1.first = _; rw [(close_keep X.E).eq]
          · show _ ≤ (closeS X.E).1.codes.length; rw [(close_keep X.E).eq]; exact Nat.le_refl _
          · show _ → (closeS X.E).1.other ≠ 0; rw [(close_keep X.E).eq]; exact id
        · split
          · exact ⟨c, Nat.le_refl _, inv_keep h (doE_keep X.E hd)⟩
          · split
            · have hk := inv_keep h (tick_keep X.E)
              refine ⟨c, Nat.le_refl _, inv_send hk fun f hf => (frX_tick h ox f hf).up (Nat.le_refl _) ?_ ?_ rfl ⟨[], by simp⟩ ⟨[], by simp⟩ ?_ ?_⟩
              · show (tickS X.E).1.num = _; rw [(tick_keep X.E).eq]
              · show (tickS X.E).1.first = _; rw [(tick_keep X.E).eq]
              · show _ ≤ (tickS X.E).1.codes.length; rw [(tick_keep X.E).eq]; exact Nat.le_refl _
              · show _ → (tickS X.E).1.other ≠ 0; rw [(tick_keep X.E).eq]; exact id
            · split
              · exact ⟨c, Nat.le_refl _, h⟩
              · rename_i hne
                have hk : flyK m.n X.fly.length < X.fly.length := Nat.mod_lt _ (by rcases hX : X.fly with _ | ⟨_, _⟩; exact absurd hX hne; exact Nat.succ_pos _)
                have hmem := atD_mem hk
                have hsub : ∀ g ∈ flyA m.d m.n X.fly, g ∈ X.fly := fun g hg => by
                  unfold flyA at hg
                  split at hg
                  · rcases List.mem_append.1 hg with hg | hg
                    · exact List.mem_of_mem_take hg
                    · exact List.mem_of_mem_drop hg
                  · exact hg
                unfold flyE flyB
                split
                · exact ⟨c, Nat.le_refl _, inv_less h hsub⟩
                · obtain ⟨c2, hc, hI⟩ := inv_take h sx sy oy (h.fro.fr _ hmem)
                  exact ⟨c2, hc, inv_less (X := { X with E := (takeS X.E (atD X.fly (flyK m.n X.fly.length))).1 }) hI hsub⟩
end Go.Proofs.Ytpfgcchammlpgaa.V
