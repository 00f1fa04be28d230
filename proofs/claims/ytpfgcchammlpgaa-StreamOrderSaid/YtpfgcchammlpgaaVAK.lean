/- The pair: what is bounded; any deed. -/
import Derived.Test.YtpfgcchammlpgaaVAJ
namespace Go.Proofs.Ytpfgcchammlpgaa.V
open Go Go.Proofs.YtpfgcchammlpgaaV
set_option linter.unusedVariables false
set_option linter.unusedSimpArgs false
set_option maxHeartbeats 8000000
set_option maxRecDepth 4000
attribute [local irreducible] IntKind.wrap refA endA
variable {I : Imm} {w : World} {L : List Asn}
/-- What of an end is bounded. -/
structure EnB (k : Nat) (E : En) : Prop where mk ::
  codes : E.codes.length ≤ k
  quiet : E.quiet ≤ k
  age : E.state = 4 ∨ E.age ≤ 40
theorem Bd.en {k : Nat} {X : Hf} (h : Bd k X) : EnB k X.E := ⟨h.codes, h.quiet, h.age⟩
theorem EnB.up {k : Nat} {E : En} (h : EnB k E) : EnB (k + 1) E := ⟨Nat.le_succ_of_le h.codes, Nat.le_succ_of_le h.quiet, h.age⟩
theorem putS_bd {k : Nat} {E : En} (h : EnB k E) (l : By) (e : Bool) : EnB k (putS E l e).1 := by
  unfold putS
  split
  · exact h
  · split
    · exact h
    · split
      · exact h
      · exact ⟨h.codes, h.quiet, h.age⟩
theorem attendS_bd {k : Nat} {E : En} (h : EnB k E) (l : By) : EnB k (attendS E l).1 := by
  unfold attendS
  split
  · exact h
  · split
    · exact h
    · split
      · exact h
      · exact ⟨h.codes, h.quiet, h.age⟩
theorem closeS_bd {k : Nat} {E : En} (h : EnB k E) : EnB k (closeS E).1 := by
  unfold closeS
  split
  · exact h
  · exact ⟨h.codes, h.quiet, .inl rfl⟩
theorem beginS_bd {k : Nat} {E : En} (h : EnB k E) (s : Nat) : EnB k (beginS E s).1 := by
  unfold beginS
  split
  · exact h
  · rename_i h0
    refine ⟨h.codes, h.quiet, .inr ?_⟩
    rcases h.age with h4 | h4
    · exact absurd (by omega) h0
    · exact h4
theorem resetS_bd {k : Nat} {E : En} (h : EnB k E) : EnB k (resetS E).1 := by
  unfold resetS
  split
  · exact h
  · exact ⟨h.codes, h.quiet, h.age⟩
theorem tickS_bd {k : Nat} {E : En} (h : EnB k E) : EnB (k + 1) (tickS E).1 := by
  have hu := h.up
  unfold tickS
  split
  · exact hu
  · rename_i h04
    split
    · exact ⟨hu.codes, hu.quiet, .inl rfl⟩
    · rename_i hold
      have hage : E.age ≤ 40 := by rcases h.age with h4 | h4; exact absurd (.inr h4) h04; exact h4
      have ha : EnB k (ageS E) := by
        unfold ageS
        split
        · rename_i h1
          exact ⟨h.codes, h.quiet, .inr (by show E.age + 1 ≤ 40; have : ¬ 40 < E.age + 1 := fun h2 => hold ⟨h1, h2⟩; omega)⟩
        · exact h
      split
      · exact ha.up
      · split
        · exact ha.up
        · exact ⟨ha.up.codes, by show E.quiet + 1 ≤ k + 1; have := h.quiet; omega, ha.age⟩
theorem ackS_bd {k : Nat} {E : En} (h : EnB k E) (n : Nat) : EnB k (ackS E n) := by
  unfold ackS
  split
  · exact ⟨h.codes, h.quiet, h.age⟩
  · exact h
theorem EnB.room {k : Nat} {E : En} (h : EnB k E) (r : Nat) : EnB k { E with room := r } := ⟨h.codes, h.quiet, h.age⟩
theorem heardS_bd {k : Nat} {E : En} (h : EnB k E) (f : Fr) : EnB k (heardS E f) := by
  unfold heardS
  have h2 := ackS_bd h f.n.toNat
  revert h2
  generalize ackS E f.n.toNat = A
  intro h2
  split
  · exact h2.room _
  · exact h2
theorem dataS_bd {k : Nat} {E : En} (h : EnB k E) (f : Fr) : EnB k (dataS E f) := by
  unfold dataS
  dsimp only
  split
  · exact h
  · exact ⟨h.codes, h.quiet, h.age⟩
theorem heedS_bd {k : Nat} {E : En} (h : EnB k E) (f : Fr) : EnB (k + 1) (heedS E f).1 := by
  unfold heedS
  split
  · exact ⟨by show (E.codes ++ [f.data]).length ≤ k + 1; rw [List.length_append]; have := h.codes; simp; omega, h.up.quiet, h.age⟩
  · split
    · exact h.up
    · exact h.up
theorem doesS_bd {k : Nat} {E : En} (h : EnB k E) (f : Fr) : EnB (k + 1) (doesS E f).1 := by
  unfold doesS
  split
  · exact h.up
  · split
    · exact h.up
    · split
      · exact ⟨h.up.codes, h.up.quiet, .inl rfl⟩
      · split
        · exact heedS_bd h f
        · dsimp only
          have h2 := heardS_bd h.up f
          revert h2
          generalize heardS E f = A
          intro h2
          split
          · exact dataS_bd h2 f
          · split
            · split
              · exact ⟨h2.codes, h2.quiet, h2.age⟩
              · exact h2
            · split
              · dsimp only
                split
                · exact ⟨h2.codes, h2.quiet, h2.age⟩
                · exact h2
              · split
                · dsimp only
                  split
                  · exact ⟨h2.codes, h2.quiet, h2.age⟩
                  · exact h2
                · exact h2
theorem wakeS_bd {k : Nat} {E : En} (h : EnB k E) (f : Fr) : EnB k (wakeS E f) := by
  unfold wakeS
  split
  · exact ⟨h.codes, Nat.zero_le _, .inr (by show 0 ≤ 40; decide)⟩
  · exact ⟨h.codes, h.quiet, .inr (by show 0 ≤ 40; decide)⟩
theorem takeS_bd {k : Nat} {E : En} (h : EnB k E) (f : Fr) : EnB (k + 1) (takeS E f).1 := by
  unfold takeS
  split
  · exact h.up
  · split
    · exact h.up
    · split
      · exact doesS_bd (wakeS_bd (E := learnS E f) ⟨h.codes, h.quiet, h.age⟩ f) f
      · split
        · exact h.up
        · exact doesS_bd (wakeS_bd h f) f
theorem tailS_len (E : En) : (tailS E).length = 2 := rfl
theorem doesS_small (E : En) (f : Fr) : ∀ g ∈ (doesS E f).2, g.data.length ≤ 300 := by
  have hone : ∀ (g x : Fr), g ∈ [x] → x.data.length ≤ 300 → g.data.length ≤ 300 := fun g x h1 h2 => by rw [List.mem_singleton] at h1; rw [h1]; exact h2
  unfold doesS
  intro g hg
  split at hg
  · exact hone _ _ hg (Nat.zero_le _)
  · split at hg
    · exact hone _ _ hg (by show (tailS E).length ≤ 300; rw [tailS_len]; decide)
    · split at hg
      · cases hg
      · split at hg
        · unfold heedS at hg
          split at hg
          · exact hone _ _ hg (Nat.zero_le _)
          · split at hg
            · cases hg
            · exact hone _ _ hg (Nat.zero_le _)
        · dsimp only at hg
          split at hg
          · exact hone _ _ hg (by show (tailS _).length ≤ 300; rw [tailS_len]; decide)
          · split at hg
            · exact hone _ _ hg (Nat.zero_le _)
            · split at hg
              · cases hg
              · split at hg <;> cases hg
theorem takeS_small (E : En) (f : Fr) : ∀ g ∈ (takeS E f).2.1, g.data.length ≤ 300 := by
  intro g hg
  unfold takeS at hg
  split at hg
  · cases hg
  · split at hg
    · cases hg
    · split at hg
      · exact doesS_small _ _ g hg
      · split at hg
        · cases hg
        · exact doesS_small _ _ g hg
theorem sentG_small (E : En) : ∀ (g at_ : Nat) (l : List Bf), ∀ x ∈ sentG E g at_ l, x.data.length ≤ 300
  | 0, _, _, x, hx => by cases hx
  | g + 1, _, [], x, hx => by cases hx
  | g + 1, at_, y :: r, x, hx => by
    unfold sentG at hx
    dsimp only at hx
    rcases List.mem_cons.1 hx with rfl | hx
    · show (_ ++ tailS E).length ≤ 300
      rw [List.length_append, tailS_len, List.length_cons, List.length_map, List.length_take]
      have := (cutN_le (y :: r) 60).1
      omega
    · exact sentG_small E g _ _ x hx
theorem tickS_small {E : En} (ok : EnOk E) : ∀ g ∈ (tickS E).2, g.data.length ≤ 300 := by
  have hone : ∀ (g x : Fr), g ∈ [x] → x.data.length ≤ 300 → g.data.length ≤ 300 := fun g x h1 h2 => by rw [List.mem_singleton] at h1; rw [h1]; exact h2
  intro g hg
  unfold tickS at hg
  split at hg
  · cases hg
  · split at hg
    · cases hg
    · split at hg
      · cases hg
      · split at hg
        · exact hone _ _ hg (Nat.zero_le _)
        · dsimp only at hg
          rw [tickO_eq] at hg
          rcases List.mem_append.1 hg with hg | hg
          · rcases List.mem_append.1 hg with hg | hg
            · unfold tickR at hg
              split at hg
              · exact hone _ _ hg (Nat.zero_le _)
              · cases hg
            · unfold tickN at hg
              split at hg
              · rename_i b hb
                refine hone _ _ hg ?_
                have := ok.news b (by rw [← (ageS_kin E).news]; exact hb)
                show b.length ≤ 300
                omega
              · cases hg
          · unfold tickB at hg
            split at hg
            · exact sentG_small _ _ _ _ g hg
            · split at hg
              · exact hone _ _ hg (by show (tailS _).length ≤ 300; rw [tailS_len]; decide)
              · cases hg
theorem doE_bd {k : Nat} {E : En} (h : EnB k E) (d : Int) : EnB (k + 1) (doE d E) := by
  unfold doE
  split
  · exact (beginS_bd h 2).up
  · split
    · exact (beginS_bd h 1).up
    · split
      · exact (resetS_bd h).up
      · exact tickS_bd h
theorem Bd.with {k : Nat} {X : Hf} (h : Bd k X) {E : En} (he : EnB (k + 1) E) : Bd (k + 1) { X with E := E } := ⟨he.codes, he.quiet, he.age, by show X.fly.length ≤ _; have := h.fly; omega, h.flyD, by show X.put.length ≤ _; have := h.put; omega, by show X.rd.length ≤ _; have := h.rd; omega, by show X.sent.length ≤ _; have := h.sent; omega⟩
theorem Bd.up {k : Nat} {X : Hf} (h : Bd k X) : Bd (k + 1) X := h.with h.en.up
theorem Bd.flyUp {k : Nat} {X : Hf} (h : Bd k X) {l : List Fr} (hl : l.length ≤ 203) (hd : ∀ g ∈ l, g.data.length ≤ 300) : Bd (k + 1) { X with fly := X.fly ++ l } :=
  ⟨h.up.codes, h.up.quiet, h.age, by show (X.fly ++ l).length ≤ _; rw [List.length_append]; have := h.fly; omega, fun g hg => by rcases List.mem_append.1 hg with hg | hg; exact h.flyD g hg; exact hd g hg, h.up.put, h.up.rd, h.up.sent⟩
theorem deedX_bd {k : Nat} {X Y : Hf} {m : Mv} (hx : Bd k X) (hy : Bd k Y) (ok : EnOk X.E) (hm : m.data.length ≤ 300) : Bd (k + 1) (deedX m X Y).1 ∧ Bd (k + 1) (deedX m X Y).2 := by
  unfold deedX
  split
  · refine ⟨?_, hy.up⟩
    have h := hx.with (putS_bd hx.en m.data (oddB m.n)).up
    refine ⟨h.codes, h.quiet, h.age, h.fly, h.flyD, ?_, h.rd, h.sent⟩
    show (X.put ++ putN X.E m.data (oddB m.n)).length ≤ _
    have := hx.put
    rw [List.length_append]
    unfold putN
    split
    · rw [markS_len]; omega
    · simp; omega
  · split
    · refine ⟨?_, hy.up⟩
      have h := hx.with (E := { X.E with inn := X.E.inn.drop (rdK X.E m.n) }) ⟨hx.en.up.codes, hx.en.up.quiet, hx.en.age⟩
      refine ⟨h.codes, h.quiet, h.age, h.fly, h.flyD, h.put, ?_, h.sent⟩
      show (X.rd ++ X.E.inn.take _).length ≤ _
      have := hx.rd
      have := ok.inn
      rw [List.length_append, List.length_take]
      omega
    · split
      · refine ⟨?_, hy.up⟩
        have h := hx.with (attendS_bd hx.en m.data).up
        refine ⟨h.codes, h.quiet, h.age, h.fly, h.flyD, h.put, h.rd, ?_⟩
        show (X.sent ++ attN X.E m.data).length ≤ _
        have := hx.sent
        rw [List.length_append]
        unfold attN
        split <;> simp <;> omega
      · split
        · refine ⟨hx.with (closeS_bd hx.en).up, hy.flyUp ?_ ?_⟩
          · unfold closeN; split <;> simp
          · intro g hg
            unfold closeN at hg
            split at hg
            · rw [List.mem_singleton] at hg
              rw [hg]
              unfold closeS
              split <;> exact Nat.zero_le _
            · cases hg
        · split
          · exact ⟨hx.with (doE_bd hx.en m.d), hy.up⟩
          · split
            · exact ⟨hx.with (tickS_bd hx.en), hy.flyUp (Nat.le_trans (tickS_len ok.out) (by decide)) (tickS_small ok)⟩
            · split
              · exact ⟨hx.up, hy.up⟩
              · constructor
                · have he : EnB (k + 1) (flyE m.d m.n X.E X.fly) := by
                    unfold flyE
                    split
                    · exact hx.en.up
                    · exact takeS_bd hx.en _
                  have h := hx.with he
                  have hsub : ∀ g ∈ flyA m.d m.n X.fly, g ∈ X.fly := fun g hg => by
                    unfold flyA at hg
                    split at hg
                    · rcases List.mem_append.1 hg with hg | hg
                      · exact List.mem_of_mem_take hg
                      · exact List.mem_of_mem_drop hg
                    · exact hg
                  have hlen : (flyA m.d m.n X.fly).length ≤ X.fly.length := by
                    unfold flyA
                    split
                    · rw [List.length_append, List.length_take, List.length_drop]; omega
                    · exact Nat.le_refl _
                  exact ⟨h.codes, h.quiet, h.age, Nat.le_trans hlen h.fly, fun g hg => hx.flyD g (hsub g hg), h.put, h.rd, h.sent⟩
                · unfold flyB
                  split
                  · exact hy.up
                  · exact hy.flyUp (Nat.le_trans (takeS_len _ _) (by decide)) (takeS_small _ _)
/-- A deed, told from the first side. -/
def deedS (m : Mv) (X Y : Hf) : Hf × Hf := if m.a = true then ((deedX m Y X).2, (deedX m Y X).1) else deedX m X Y
theorem hf_swap {J : Imm} {x y : Sd} {X Y : Hf} {fx fy : List Fm} {P : Asn} (H : Holds J w (P :: hfQ J x X fx (hfQ J y Y fy L))) : Holds J w (P :: hfQ J y Y fy (hfQ J x X fx L)) := Holds.re [0, 6, 6, 6, 6, 6, 6, 0] H rfl
theorem deedS_bd {k : Nat} {X Y : Hf} {m : Mv} (hx : Bd k X) (hy : Bd k Y) (ox : EnOk X.E) (oy : EnOk Y.E) (hm : m.data.length ≤ 300) : Bd (k + 1) (deedS m X Y).1 ∧ Bd (k + 1) (deedS m X Y).2 := by
  unfold deedS
  split
  · exact (deedX_bd hy hx oy hm).symm
  · exact deedX_bd hx hy ox hm
/-- A deed of one side: all of them. -/
def DoGoal (I : Imm) (p : Nat) (i : Nat) (m : Mv) (v : Value) (a b : Sd) (X Y : Hf) (w : World) (L : List Asn) : Prop :=
  Rets Try.prog F_tithinglaw12_Pair_Do #[ptr p, .agg #[.int .i64 m.d, .int .i64 m.n, .bool m.a, v]] w fun u w' => ∃ J, Imm.Le I J ∧ ∃ (a2 b2 : Sd) (fa2 fb2 : List Fm), HfF J (deedX m X Y).1 fa2 ∧ HfF J (deedX m X Y).2 fb2 ∧ Holds J w' (blk p 47 (pcl i a2 b2) :: hfQ J a2 (deedX m X Y).1 fa2 (hfQ J b2 (deedX m X Y).2 fb2 L))
theorem DoX0 {p k : Nat} {a b : Sd} {X Y : Hf} {fa fb : List Fm} {m : Mv} {v : Value} (hma : m.a = false) (H : Holds I w (blk p 47 (pcl 0 a b) :: hfQ I a X fa (hfQ I b Y fb L))) (hx : Bd k X) (hy : Bd k Y) (hfx : HfF I X fa) (hfy : HfF I Y fb) (hk : k ≤ 900000) (hn : m.n ≤ 9223372036854775807) (hv : SlI I v 1 m.data.length (byL m.data)) (hl : m.data.length ≤ 300) : DoGoal I p 0 m v a b X Y w L := by
  obtain ⟨A, cap, rfl, hcap⟩ := hv.form
  obtain ⟨d, n, ma, data⟩ := m
  dsimp only at hma hv hl hn
  subst hma
  unfold DoGoal deedX
  dsimp only
  by_cases h2 : d = 2
  · subst h2
    rw [if_pos rfl]
    exact (Do0_put H hx hk hv hl).mono fun u w' ⟨a2, h⟩ => ⟨I, Imm.Le.rfl' I, a2, b, fa, fb, ⟨hfx.fly, hfx.ok⟩, hfy, h⟩
  rw [if_neg h2]
  by_cases h3 : d = 3
  · subst h3
    rw [if_pos rfl]
    exact (Do0_read H hx hk hn).mono fun u w' ⟨a2, h⟩ => ⟨I, Imm.Le.rfl' I, a2, b, fa, fb, ⟨hfx.fly, hfx.ok⟩, hfy, h⟩
  rw [if_neg h3]
  by_cases h5 : d = 5
  · subst h5
    rw [if_pos rfl]
    exact (Do0_att H hx hk hv hl).mono fun u w' ⟨J, hJ, a2, h⟩ => ⟨J, hJ, a2, b, fa, fb, ⟨hfx.fly, (hfx.mono hJ).ok⟩, hfy.mono hJ, h⟩
  rw [if_neg h5]
  by_cases h6 : d = 6
  · subst h6
    rw [if_pos rfl]
    exact (Do0_close H hy hfy hk).mono fun u w' ⟨b2, fb2, h1, h⟩ => ⟨I, Imm.Le.rfl' I, a, b2, fa, fb2, ⟨hfx.fly, hfx.ok⟩, h1, h⟩
  rw [if_neg h6]
  by_cases h7 : d < 7
  · rw [if_pos h7]
    exact (Do0_do H hx hk ⟨h2, h3, h5, h6, h7⟩).mono fun u w' ⟨J, hJ, h⟩ => ⟨J, hJ, a, b, fa, fb, ⟨hfx.fly, (hfx.mono hJ).ok⟩, hfy.mono hJ, h⟩
  rw [if_neg h7]
  by_cases h9 : d < 9
  · rw [if_pos h9]
    exact (Do0_tick H hx hy hfy hk ⟨by omega, h9⟩).mono fun u w' ⟨J, hJ, b2, fb2, h1, h⟩ => ⟨J, hJ, a, b2, fa, fb2, ⟨hfx.fly, (hfx.mono hJ).ok⟩, h1, h⟩
  rw [if_neg h9]
  by_cases he : X.fly = []
  · rw [if_pos he]
    exact (Do0_still H hfx (by omega) he).mono fun u w' h => ⟨I, Imm.Le.rfl' I, a, b, fa, fb, hfx, hfy, h⟩
  · rw [if_neg he]
    exact (Do0_fly H hx hy hfx hfy hk (by omega) he).mono fun u w' ⟨J, hJ, a2, b2, fa2, fb2, h1, h2, h⟩ => ⟨J, hJ, a2, b2, fa2, fb2, h1, h2, h⟩
theorem DoX1 {p k : Nat} {a b : Sd} {X Y : Hf} {fa fb : List Fm} {m : Mv} {v : Value} (hma : m.a = true) (H : Holds I w (blk p 47 (pcl 1 a b) :: hfQ I a X fa (hfQ I b Y fb L))) (hx : Bd k X) (hy : Bd k Y) (hfx : HfF I X fa) (hfy : HfF I Y fb) (hk : k ≤ 900000) (hn : m.n ≤ 9223372036854775807) (hv : SlI I v 1 m.data.length (byL m.data)) (hl : m.data.length ≤ 300) : DoGoal I p 1 m v a b X Y w L := by
  obtain ⟨A, cap, rfl, hcap⟩ := hv.form
  obtain ⟨d, n, ma, data⟩ := m
  dsimp only at hma hv hl hn
  subst hma
  unfold DoGoal deedX
  dsimp only
  by_cases h2 : d = 2
  · subst h2
    rw [if_pos rfl]
    exact (Do1_put H hx hk hv hl).mono fun u w' ⟨a2, h⟩ => ⟨I, Imm.Le.rfl' I, a2, b, fa, fb, ⟨hfx.fly, hfx.ok⟩, hfy, h⟩
  rw [if_neg h2]
  by_cases h3 : d = 3
  · subst h3
    rw [if_pos rfl]
    exact (Do1_read H hx hk hn).mono fun u w' ⟨a2, h⟩ => ⟨I, Imm.Le.rfl' I, a2, b, fa, fb, ⟨hfx.fly, hfx.ok⟩, hfy, h⟩
  rw [if_neg h3]
  by_cases h5 : d = 5
  · subst h5
    rw [if_pos rfl]
    exact (Do1_att H hx hk hv hl).mono fun u w' ⟨J, hJ, a2, h⟩ => ⟨J, hJ, a2, b, fa, fb, ⟨hfx.fly, (hfx.mono hJ).ok⟩, hfy.mono hJ, h⟩
  rw [if_neg h5]
  by_cases h6 : d = 6
  · subst h6
    rw [if_pos rfl]
    exact (Do1_close H hy hfy hk).mono fun u w' ⟨b2, fb2, h1, h⟩ => ⟨I, Imm.Le.rfl' I, a, b2, fa, fb2, ⟨hfx.fly, hfx.ok⟩, h1, h⟩
  rw [if_neg h6]
  by_cases h7 : d < 7
  · rw [if_pos h7]
    exact (Do1_do H hx hk ⟨h2, h3, h5, h6, h7⟩).mono fun u w' ⟨J, hJ, h⟩ => ⟨J, hJ, a, b, fa, fb, ⟨hfx.fly, (hfx.mono hJ).ok⟩, hfy.mono hJ, h⟩
  rw [if_neg h7]
  by_cases h9 : d < 9
  · rw [if_pos h9]
    exact (Do1_tick H hx hy hfy hk ⟨by omega, h9⟩).mono fun u w' ⟨J, hJ, b2, fb2, h1, h⟩ => ⟨J, hJ, a, b2, fa, fb2, ⟨hfx.fly, (hfx.mono hJ).ok⟩, h1, h⟩
  rw [if_neg h9]
  by_cases he : X.fly = []
  · rw [if_pos he]
    exact (Do1_still H hfx (by omega) he).mono fun u w' h => ⟨I, Imm.Le.rfl' I, a, b, fa, fb, hfx, hfy, h⟩
  · rw [if_neg he]
    exact (Do1_fly H hx hy hfx hfy hk (by omega) he).mono fun u w' ⟨J, hJ, a2, b2, fa2, fb2, h1, h2, h⟩ => ⟨J, hJ, a2, b2, fa2, fb2, h1, h2, h⟩
theorem Do_any {p k : Nat} {a b : Sd} {X Y : Hf} {fa fb : List Fm} {m : Mv} {v : Value} (H : Holds I w (blk p 47 (pcl 0 a b) :: hfQ I a X fa (hfQ I b Y fb L))) (hx : Bd k X) (hy : Bd k Y) (hfx : HfF I X fa) (hfy : HfF I Y fb) (hk : k ≤ 900000) (hn : m.n ≤ 9223372036854775807) (hv : SlI I v 1 m.data.length (byL m.data)) (hl : m.data.length ≤ 300) :
    Rets Try.prog F_tithinglaw12_Pair_Do #[ptr p, .agg #[.int .i64 m.d, .int .i64 m.n, .bool m.a, v]] w fun u w' => ∃ J, Imm.Le I J ∧ ∃ (a2 b2 : Sd) (fa2 fb2 : List Fm), HfF J (deedS m X Y).1 fa2 ∧ HfF J (deedS m X Y).2 fb2 ∧ Bd (k + 1) (deedS m X Y).1 ∧ Bd (k + 1) (deedS m X Y).2 ∧ Holds J w' (blk p 47 (pcl 0 a2 b2) :: hfQ J a2 (deedS m X Y).1 fa2 (hfQ J b2 (deedS m X Y).2 fb2 L)) := by
  have ox := Holds.endOk (Holds.drop H)
  have oy := Holds.endOk (Holds.re [7] H rfl)
  have hb := deedS_bd hx hy ox oy hl
  revert hb
  unfold deedS
  cases hma : m.a with
  | false =>
    rw [if_neg (by decide)]
    intro hb
    have h := DoX0 hma H hx hy hfx hfy hk hn hv hl
    unfold DoGoal at h
    rw [hma] at h
    exact h.mono fun u w' ⟨J, hJ, a2, b2, fa2, fb2, h1, h2, h3⟩ => ⟨J, hJ, a2, b2, fa2, fb2, h1, h2, hb.1, hb.2, h3⟩
  | true =>
    rw [if_pos rfl]
    intro hb
    have h := DoX1 (a := b) (b := a) hma (hf_swap H) hy hx hfy hfx hk hn hv hl
    unfold DoGoal at h
    rw [hma] at h
    exact h.mono fun u w' ⟨J, hJ, a2, b2, fa2, fb2, h1, h2, h3⟩ => ⟨J, hJ, b2, a2, fb2, fa2, h2, h1, hb.1, hb.2, hf_swap h3⟩
/-! ### Moves -/
structure Mx where mk ::
  d : Int
  n : Int
  a : Bool
  data : SlD UInt8
instance : Inhabited Mx := ⟨⟨0, 0, false, none, 0, []⟩⟩
def mxC (x : Mx) : List Value := [.int .i64 x.d, .int .i64 x.n, .bool x.a, SlD.v x.data]
theorem mxC_len (x : Mx) : (mxC x).length = 4 := rfl
def Mx.mv (x : Mx) : Mv := ⟨x.d, x.n, x.a, x.data.2.2⟩
structure MxOk (I : Imm) (x : Mx) : Prop where mk ::
  n : x.n ≤ 9223372036854775807
  data : SlI I (SlD.v x.data) 1 x.data.2.2.length (byL x.data.2.2)
def longL (l : List Mx) : Bool := l.any (fun x => decide (300 < x.data.2.2.length)) || decide (300 < l.length)
theorem MxOk.mono {J : Imm} {x : Mx} (h : MxOk I x) (hl : Imm.Le I J) : MxOk J x := ⟨h.n, h.data.mono hl⟩
theorem LongMoves_any (H : Holds I w L) {v : Value} {l : List Mx} (hv : SlI I v 4 l.length (l.flatMap mxC)) (ho : ∀ x ∈ l, MxOk I x) (hn : l.length ≤ 140737488355328) : Rets Try.prog F_tithinglaw12_LongMoves #[v] w fun u w' => u = .bool (longL l) ∧ Holds I w' L := by
  obtain ⟨A, cap, rfl, hcap⟩ := hv.form
  refine ok_tithinglaw12_LongMoves.rets rfl ?_
  repeat' (first
    | (show VcL _ _ _ _ _ _ _ _; first
      | refine VcL.pures tabOk rfl ?_
      | refine VcL.nil ?_)
    | (show Vc _ _ _ _ _ _; first
      | refine Vc.seq ?_
      | refine Vc.region ?_
      | refine Vc.block ?_)
    | (show KSeq _ _ _ _ _ _ _; refine KSeq.normal ?_))
  refine Vc.loopS [(0, _)] (fun k : Nat => [(3, .int .i64 k)]) (fun k w => k ≤ l.length ∧ (∀ j, j < k → ¬ 300 < (atD l j).data.2.2.length) ∧ Holds I w L) (fun k _ => l.length - k) 0 ⟨rfl, trivial⟩ ⟨rfl, trivial⟩ ⟨Nat.zero_le _, fun j hj => absurd hj (Nat.not_lt_zero _), H⟩ ?_
  clear H
  rintro k w ⟨hk, hno, H⟩
  by_cases hlt : k < l.length
  · obtain ⟨b2, o, rfl, hr⟩ := hv.at (by omega)
    have hx := hr.elem mxC_len (atD_get hlt)
    have hox := ho _ (atD_mem hlt)
    have hmem := atD_mem hlt
    obtain ⟨⟨d, n, a, data⟩, hxe⟩ : ∃ x, atD l k = x := ⟨_, rfl⟩
    rw [hxe] at hx hox hmem
    obtain ⟨D, dc, hd, hdc⟩ := hox.data.form
    dsimp only at hd
    have hx : RdW I L b2 (o + k * 4) [.int .i64 d, .int .i64 n, .bool a, .slice D data.2.2.length dc] := by rw [← hd]; exact RdI.toW hx
    repeat' (first
      | (show VcL _ _ _ _ _ _ _ _; first
      | refine VcL.pures tabOk rfl ?_
      | refine VcL.nil ?_
      | (show VcL _ _ _ _ (⟨_, .load _ _, _, _, _, _⟩ :: _) _ _ _; refine VcL.load1 tabOk rfl rfl rfl rfl rfl (by exact RdW.get (by assumption) rfl H) ?_)
      | (show VcL _ _ _ _ (⟨_, .indexAddr _ _ _, _, _, _, _⟩ :: _) _ _ _; refine VcL.indexAddr tabOk rfl rfl rfl rfl rfl rfl (by omega) (by omega) ?_))
      | (show Vc _ _ _ _ _ _; first
      | refine Vc.seq ?_
      | refine Vc.region ?_
      | refine Vc.ret ?_
      | refine Vc.skip ?_
      | refine Vc.block ?_
      | (refine Vc.cond rfl (fun h => ?_) (fun h => ?_) <;> first | (exfalso; simp only [decide_eq_true_eq, decide_eq_false_iff_not, Bool.not_eq_true', Bool.not_eq_false'] at h; omega) | (with_reducible have hp := of_decide_eq_true h) | (with_reducible have hp := of_decide_eq_false h)))
      | (show KSeq _ _ _ _ _ _ _; first
      | refine KSeq.normal ?_
      | refine KSeq.ret ?_)
      | (show KBlock _ _ _ _ _ _; first
      | refine KBlock.normal ?_
      | refine KBlock.ret ?_)
      | refine KLoop.ret ?_
      | (show KEnd _ _ _ _ _ _ _; refine KEnd.fin (Or.inr rfl) ⟨_, (ResL.tmp rfl ResL.nil), ?_⟩))
    · refine ⟨?_, H⟩
      have : longL l = true := by
        unfold longL
        rw [List.any_eq_true.2 ⟨_, hmem, decide_eq_true (by show 300 < data.2.2.length; omega)⟩, Bool.true_or]
      rw [this]
      rfl
    · refine KLoop.again (k + 1) ⟨got_succ rfl (by omega), trivial⟩ ⟨rfl, trivial⟩ ⟨hlt, fun j hj => ?_, H⟩ (by omega)
      rcases Nat.lt_or_ge j k with h | h
      · exact hno j h
      · obtain rfl : j = k := by omega
        rw [hxe]
        show ¬ 300 < data.2.2.length
        omega
  · obtain rfl : k = l.length := by omega
    repeat' (first
      | (show VcL _ _ _ _ _ _ _ _; first
      | refine VcL.pures tabOk rfl ?_
      | refine VcL.nil ?_)
      | (show Vc _ _ _ _ _ _; first
      | refine Vc.seq ?_
      | refine Vc.region ?_
      | refine Vc.ret ?_
      | refine Vc.exit ?_
      | (refine Vc.cond rfl (fun h => ?_) (fun h => ?_) <;> first | (exfalso; simp only [decide_eq_true_eq, decide_eq_false_iff_not, Bool.not_eq_true', Bool.not_eq_false'] at h; omega) | (with_reducible have hp := of_decide_eq_false h)))
      | (show KSeq _ _ _ _ _ _ _; first
      | refine KSeq.normal ?_
      | refine KSeq.exit ?_)
      | (show KBlock _ _ _ _ _ _; refine KBlock.here ?_)
      | refine KLoop.exit ?_
      | (show KEnd _ _ _ _ _ _ _; refine KEnd.fin (Or.inr rfl) ⟨_, (ResL.tmp rfl ResL.nil), ?_⟩))
    refine ⟨?_, H⟩
    have : l.any (fun x => decide (300 < x.data.2.2.length)) = false := by
      rw [List.any_eq_false]
      intro x hx
      obtain ⟨j, hj, rfl⟩ := mem_atD hx
      simpa using hno j hj
    unfold longL
    rw [this, Bool.false_or]
    show Value.bool (decide ((300 : Int) < (l.length : Nat))) = _
    congr 1
    exact decide_eq_decide.2 (by omega)
end Go.Proofs.Ytpfgcchammlpgaa.V
