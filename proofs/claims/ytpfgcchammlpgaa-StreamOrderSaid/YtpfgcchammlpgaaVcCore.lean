/- A walk over partial frames: which slots are known, and what is then known of a run. -/
import Derived.Tactics
import Derived.TacticsIn
import Derived.RangeFuncCalls
import Derived.OrdersHeld
import Derived.KernelRfl
set_option linter.unusedVariables false
set_option linter.unusedSimpArgs false
namespace Go.Proofs.YtpfgcchammlpgaaV
open Go

abbrev Env := List (Nat × Value)

def Env.get : Env → Nat → Option Value
  | [], _ => none
  | (k, v) :: r, t => bif Nat.beq k t then some v else Env.get r t

def Env.put (env : Env) (d : Option Nat) (v : Value) : Env := match d with | some t => (t, v) :: env | none => env

/-- A frame: how many slots; the round that it is of (a loop over a function), or none; what is done when it ends. -/
structure Fi where
  size : Nat
  round : Option Nat
  marks : List Deferred
def Fi.fence (n : Fi) : Fence := { Fence.wide with round := n.round }

/-- What is known of a frame of at least n slots. -/
structure Ag (n : Fi) (env : Env) (a : Act) : Prop where
  size : n.size ≤ a.tmps.size
  defers : a.defers = n.marks
  get : ∀ t v, env.get t = some v → a.tmps.getD t undef = v

def inN (n : Fi) : Option Nat → Bool
  | some t => Nat.blt t n.size
  | none => true

theorem Ag.put {n : Fi} {env : Env} {a : Act} (h : Ag n env a) {d : Option Nat} (hd : inN n d = true) (v : Value) : Ag n (env.put d v) (a.put d v) := by
  cases d with
  | none => exact h
  | some t =>
    have ht : t < n.size := by simpa [inN, Nat.blt_eq] using hd
    refine ⟨by simpa [Act.put] using h.size, h.defers, fun u x hx => ?_⟩
    simp only [Env.put, Env.get] at hx
    cases hb : Nat.beq t u with
    | true =>
      have e : t = u := Nat.eq_of_beq_eq_true hb
      subst e
      rw [hb] at hx
      simp only [cond_true, Option.some.injEq] at hx
      subst hx
      have := h.size
      simp [Act.put, show t < a.tmps.size by omega]
    | false =>
      rw [hb] at hx
      have e : t ≠ u := fun e => by subst e; simp at hb
      have := h.get u x hx
      simpa [Act.put, Array.getElem?_setIfInBounds_ne e] using this

/-- Less is known. -/
theorem Ag.less {n : Fi} {env env' : Env} {a : Act} (h : Ag n env a) (hs : ∀ t v, env'.get t = some v → env.get t = some v) : Ag n env' a :=
  ⟨h.size, h.defers, fun t v ht => h.get t v (hs t v ht)⟩

def opv (env : Env) : Operand → Option Value
  | .tmp t => env.get t
  | .const v => some v
  | .global g => some (.pointer (some ⟨g, 0, none⟩))
  | .func f => some (.func (.func f) #[] #[])

theorem opv_sound {n : Fi} {env : Env} {a : Act} (h : Ag n env a) {x : Operand} {v : Value} (hx : opv env x = some v) : a.eval x = v := by
  cases x with
  | tmp t => exact h.get t v hx
  | const u => simpa [opv, Act.eval] using hx
  | global g => simpa [opv, Act.eval] using hx
  | func f => simpa [opv, Act.eval] using hx

abbrev Kont := Fi → Exit → Env → World → Prop

/-- What is asked of an end, of all frames of which so much is known: no panic, no want of room. -/
def lift (r : Option Nat) (K : Kont) : Exit → Act → World → Prop
  | .panic _, _, _ => False
  | .outgrown, _, _ => False
  | e, a, w => ∃ n env, n.round = r ∧ Ag n env a ∧ K n e env w

theorem lift_normal {n : Fi} {K : Kont} {env : Env} {a : Act} {w : World} (h : Ag n env a) (hk : K n .normal env w) : lift n.round K .normal a w := ⟨n, env, rfl, h, hk⟩
theorem lift_mono {r : Option Nat} {K K' : Kont} (hk : ∀ n e env w, K n e env w → K' n e env w) {e : Exit} {a : Act} {w : World} (h : lift r K e a w) : lift r K' e a w := by
  cases e <;> first | exact h.elim | (obtain ⟨n, env, hr, hg, h⟩ := h; exact ⟨n, env, hr, hg, hk _ _ _ _ h⟩)

structure Vc (P : Program) (n : Fi) (c : Code) (K : Kont) (env : Env) (w : World) : Prop where mk ::
  out : ∀ a, Ag n env a → c.wpIn n.fence 0 P (lift n.round K) a w

/-- Guards that are decided: a slot and what it holds (none: nothing, it was skipped). -/
abbrev Gds := List (Nat × Option Bool)
def gval : Option Bool → Value
  | some b => .bool b
  | none => undef
def AgG (G : Gds) (a : Act) : Prop := ∀ p ∈ G, a.tmps.getD p.1 undef = gval p.2

structure VcL (P : Program) (n : Fi) (ops : Array Oper) (K : Kont) (rest : List Oper) (G : Gds) (env : Env) (w : World) : Prop where mk ::
  out : ∀ a, Ag n env a → AgG G a → wpListIn n.fence 0 P ops (lift n.round K) rest a w

structure KSeq (P : Program) (y : Code) (K : Kont) (n : Fi) (e : Exit) (env : Env) (w : World) : Prop where mk ::
  out : match e with | .normal => Vc P n y K env w | e => K n e env w

structure KBlock (id : Nat) (K : Kont) (n : Fi) (e : Exit) (env : Env) (w : World) : Prop where mk ::
  out : match e with | .exit i => bif Nat.beq i id then K n .normal env w else K n (.exit i) env w | e => K n e env w

section
variable {P : Program} {n : Fi} {K : Kont} {env : Env} {w : World}

theorem Vc.mono {c : Code} {K' : Kont} (h : Vc P n c K env w) (hk : ∀ n e env w, K n e env w → K' n e env w) : Vc P n c K' env w :=
  ⟨fun a ha => wpIn_mono (h.out a ha) fun e a' w' => lift_mono hk⟩

theorem Vc.skip (h : K n .normal env w) : Vc P n .skip K env w := ⟨fun a ha => wpIn_skip ⟨n, env, rfl, ha, h⟩⟩
theorem Vc.label {l : Nat} (h : K n .normal env w) : Vc P n (.label l) K env w := ⟨fun a ha => wpIn_label ⟨n, env, rfl, ha, h⟩⟩
theorem Vc.exit {i : Nat} (h : K n (.exit i) env w) : Vc P n (.exit i) K env w := ⟨fun a ha => wpIn_exit ⟨n, env, rfl, ha, h⟩⟩
theorem Vc.ret (h : K n .ret env w) : Vc P n .ret K env w := ⟨fun a ha => wpIn_ret ⟨n, env, rfl, ha, h⟩⟩

theorem fence_round {n m : Fi} (h : m.round = n.round) : m.fence = n.fence := by unfold Fi.fence; rw [h]

theorem Vc.seq {x y : Code} (h : Vc P n x (KSeq P y K) env w) : Vc P n (.seq x y) K env w := ⟨fun a ha => by
  refine wpIn_seq (wpIn_mono (h.out a ha) ?_)
  rintro e a' w' hl
  cases e with
  | normal =>
    obtain ⟨m, env', hr, hg, hK⟩ := hl
    have := hK.out.out a' hg
    rw [fence_round hr, hr] at this
    exact this
  | exit i => obtain ⟨m, env', hr, hg, hK⟩ := hl; exact ⟨m, env', hr, hg, hK.out⟩
  | goto l => obtain ⟨m, env', hr, hg, hK⟩ := hl; exact ⟨m, env', hr, hg, hK.out⟩
  | ret => obtain ⟨m, env', hr, hg, hK⟩ := hl; exact ⟨m, env', hr, hg, hK.out⟩
  | panic c => exact hl.elim
  | outgrown => exact hl.elim⟩

theorem KSeq.normal {y : Code} (h : Vc P n y K env w) : KSeq P y K n .normal env w := ⟨h⟩
theorem KSeq.exit {y : Code} {i : Nat} (h : K n (.exit i) env w) : KSeq P y K n (.exit i) env w := ⟨h⟩
theorem KSeq.ret {y : Code} (h : K n .ret env w) : KSeq P y K n .ret env w := ⟨h⟩

theorem Vc.block {id : Nat} {c : Code} (h : Vc P n c (KBlock id K) env w) : Vc P n (.block id c) K env w := ⟨fun a ha => by
  refine wpIn_block (wpIn_mono (h.out a ha) ?_)
  rintro e a' w' hl
  cases e with
  | exit i =>
    obtain ⟨m, env', hr, hg, hK⟩ := hl
    have hK := hK.out
    simp only [Exit.inBlock]
    dsimp only at hK
    by_cases hi : i = id
    · subst hi
      rw [if_pos rfl]
      rw [show Nat.beq i i = true by simp] at hK
      exact ⟨m, env', hr, hg, hK⟩
    · rw [if_neg hi]
      rw [show Nat.beq i id = false from Bool.eq_false_iff.2 fun h => hi (Nat.eq_of_beq_eq_true h)] at hK
      exact ⟨m, env', hr, hg, hK⟩
  | normal => obtain ⟨m, env', hr, hg, hK⟩ := hl; exact ⟨m, env', hr, hg, hK.out⟩
  | goto l => obtain ⟨m, env', hr, hg, hK⟩ := hl; exact ⟨m, env', hr, hg, hK.out⟩
  | ret => obtain ⟨m, env', hr, hg, hK⟩ := hl; exact ⟨m, env', hr, hg, hK.out⟩
  | panic c => exact hl.elim
  | outgrown => exact hl.elim⟩

theorem KBlock.normal {id : Nat} (h : K n .normal env w) : KBlock id K n .normal env w := ⟨h⟩
theorem KBlock.here {id : Nat} (h : K n .normal env w) : KBlock id K n (.exit id) env w := ⟨by dsimp only; rw [show Nat.beq id id = true by simp]; exact h⟩
theorem KBlock.on {id i : Nat} (hi : Nat.beq i id = false) (h : K n (.exit i) env w) : KBlock id K n (.exit i) env w := ⟨by dsimp only; rw [hi]; exact h⟩
theorem KBlock.ret {id : Nat} (h : K n .ret env w) : KBlock id K n .ret env w := ⟨h⟩

theorem Vc.condT {c : Operand} {x y : Code} (hc : opv env c = some (.bool true)) (h : Vc P n x K env w) : Vc P n (.cond c x y) K env w :=
  ⟨fun a ha => wpIn_cond_true (opv_sound ha hc) (h.out a ha)⟩
theorem Vc.condF {c : Operand} {x y : Code} (hc : opv env c = some (.bool false)) (h : Vc P n y K env w) : Vc P n (.cond c x y) K env w :=
  ⟨fun a ha => wpIn_cond_false (opv_sound ha hc) (h.out a ha)⟩
/-- A test that is open: both ways. -/
theorem Vc.cond {t : Nat} {b : Bool} {x y : Code} (hc : env.get t = some (.bool b)) (hx : b = true → Vc P n x K ((t, .bool true) :: env) w)
    (hy : b = false → Vc P n y K ((t, .bool false) :: env) w) : Vc P n (.cond (.tmp t) x y) K env w := ⟨fun a ha => by
  have hb := ha.get t _ hc
  have key : ∀ c, b = c → Ag n ((t, Value.bool c) :: env) a := fun c e => ⟨ha.size, ha.defers, fun u v hu => by
    simp only [Env.get] at hu
    cases hq : Nat.beq t u with
    | true => rw [hq] at hu; simp only [cond_true, Option.some.injEq] at hu; subst hu; rw [← Nat.eq_of_beq_eq_true hq, hb, e]
    | false => rw [hq] at hu; exact ha.get u v hu⟩
  refine wpIn_cond_split (t := b) hb (fun e => ?_) (fun e => ?_)
  · exact (hx e).out a (key _ e)
  · exact (hy e).out a (key _ e)⟩

theorem Vc.region {id : Nat} {l : List Oper} (h : VcL P n l.toArray K l [] env w) : Vc P n (.region id l.toArray false) K env w :=
  ⟨fun a ha => wpIn_region_lit (h.out a ha (by simp [AgG]))⟩

/-- What is known at a head of a loop: the slots f says, and of the others those that the body does not write. -/
theorem Vc.loop {σ : Type} {c : Code} (f : σ → Env) (I : σ → World → Prop) (μ : σ → World → Nat) (env0 : Env) (s : σ)
    (h0 : ∀ t v, (f s ++ env0).get t = some v → env.get t = some v) (hI : I s w)
    (hr : ∀ s w, I s w → Vc P n c (fun n' e env' w' => match e with
      | .normal => n' = n ∧ ∃ s', (∀ t v, (f s' ++ env0).get t = some v → Env.get env' t = some v) ∧ I s' w' ∧ μ s' w' < μ s w
      | e => K n' e env' w') (f s ++ env0) w) : Vc P n (.loop c) K env w := ⟨fun a ha => by
  intro b k cs hro hb hrm
  have key : ∀ m s (a : Act) (w : World), μ s w = m → Ag n (f s ++ env0) a → I s w →
      ∃ e a' w', lift n.round K e a' w' ∧ ArrivesIn (Machine.fenced P n.fence) P (lone (b.atR a (.code c :: .inLoop c :: k)) cs w) b k cs e a' w' := by
    intro m
    induction m using Nat.strongRecOn with
    | _ m ih =>
      intro s a w hm hg hi
      obtain ⟨e, a', w', hl, harr⟩ := (hr s w hi).out a hg b (.inLoop c :: k) cs hro hb hrm
      cases e with
      | normal =>
        obtain ⟨n', env', hrd, hg', hn, s', hs', hi', hlt⟩ := hl
        subst hn
        obtain ⟨e₂, a₂, w₂, hq₂, harr₂⟩ := ih (μ s' w') (hm ▸ hlt) s' a' w' rfl (hg'.less hs') hi'
        exact ⟨e₂, a₂, w₂, hq₂, .of_steps (StepsIn.trans harr (.one (fenced_calm hb hrm rfl) stepR_inLoop)) harr₂⟩
      | exit i => obtain ⟨n', env', hrd, hg', hq⟩ := hl; exact ⟨.exit i, a', w', ⟨n', env', hrd, hg', hq⟩, .pass (x := .inLoop c) rfl (fun _ _ => .inl (by simp)) harr⟩
      | goto l => obtain ⟨n', env', hrd, hg', hq⟩ := hl; exact ⟨.goto l, a', w', ⟨n', env', hrd, hg', hq⟩, .pass (x := .inLoop c) rfl (fun _ _ => .inl (by simp)) harr⟩
      | ret => obtain ⟨n', env', hrd, hg', hq⟩ := hl; exact ⟨.ret, a', w', ⟨n', env', hrd, hg', hq⟩, .pass (x := .inLoop c) rfl (fun _ _ => .inl (by simp)) harr⟩
      | panic ch => exact hl.elim
      | outgrown => exact hl.elim
  obtain ⟨e, a', w', hq, harr⟩ := key _ s a w rfl (ha.less h0) hI
  exact ⟨e, a', w', hq, .of_steps (.one (fenced_calm hb hrm rfl) stepR_loop) harr⟩⟩

/-- Each slot holds what is said. -/
def Agr : Env → Env → Prop
  | [], _ => True
  | (t, v) :: r, env => Env.get env t = some v ∧ Agr r env
theorem Agr.get : ∀ {l env : Env}, Agr l env → ∀ {t : Nat} {v : Value}, l.get t = some v → env.get t = some v
  | [], _, _, t, v, h => by cases h
  | (k, u) :: r, env, hl, t, v, h => by
    simp only [Env.get] at h
    cases hq : Nat.beq k t with
    | true => rw [hq] at h; simp only [cond_true, Option.some.injEq] at h; rw [← Nat.eq_of_beq_eq_true hq, ← h]; exact hl.1
    | false => rw [hq] at h; exact Agr.get hl.2 h
theorem Env.get_append : ∀ (l m : Env) (t : Nat), Env.get (l ++ m) t = match Env.get l t with | some v => some v | none => Env.get m t
  | [], m, t => rfl
  | (k, u) :: r, m, t => by
    simp only [List.cons_append, Env.get]
    cases Nat.beq k t with
    | true => rfl
    | false => exact Env.get_append r m t
theorem Agr.both {l m env : Env} (h1 : Agr l env) (h2 : Agr m env) (t : Nat) (v : Value) (h : Env.get (l ++ m) t = some v) : Env.get env t = some v := by
  rw [Env.get_append] at h
  cases hl : Env.get l t with
  | some u => rw [hl] at h; simp only [Option.some.injEq] at h; subst h; exact h1.get hl
  | none => rw [hl] at h; exact h2.get h

structure KLoop {σ : Type} (f : σ → Env) (I : σ → World → Prop) (μ : σ → World → Nat) (env0 : Env) (m : Nat) (n0 : Fi) (K : Kont) (n : Fi) (e : Exit) (env : Env) (w : World) : Prop where mk ::
  out : match e with
    | .normal => n = n0 ∧ ∃ s, Agr (f s) env ∧ Agr env0 env ∧ I s w ∧ μ s w < m
    | e => K n e env w
theorem KLoop.again {σ : Type} {f : σ → Env} {I : σ → World → Prop} {μ : σ → World → Nat} {env0 : Env} {m : Nat} (s : σ) (h1 : Agr (f s) env) (h0 : Agr env0 env) (hI : I s w) (hm : μ s w < m) : KLoop f I μ env0 m n K n .normal env w := ⟨rfl, s, h1, h0, hI, hm⟩
theorem KLoop.exit {σ : Type} {f : σ → Env} {I : σ → World → Prop} {μ : σ → World → Nat} {env0 : Env} {m i : Nat} {n0 : Fi} (h : K n (.exit i) env w) : KLoop f I μ env0 m n0 K n (.exit i) env w := ⟨h⟩
theorem KLoop.ret {σ : Type} {f : σ → Env} {I : σ → World → Prop} {μ : σ → World → Nat} {env0 : Env} {m : Nat} {n0 : Fi} (h : K n .ret env w) : KLoop f I μ env0 m n0 K n .ret env w := ⟨h⟩

/-- A loop: what changes of round to round is f of a state; env0 is what is read and does not change. -/
theorem Vc.loopS {σ : Type} {c : Code} (env0 : Env) (f : σ → Env) (I : σ → World → Prop) (μ : σ → World → Nat) (s : σ) (h1 : Agr (f s) env) (h0 : Agr env0 env) (hI : I s w)
    (hr : ∀ s w, I s w → Vc P n c (KLoop f I μ env0 (μ s w) n K) (f s ++ env0) w) : Vc P n (.loop c) K env w :=
  Vc.loop f I μ env0 s (h1.both h0) hI fun s w hi => (hr s w hi).mono fun n e env w hk => by
    have := hk.out
    cases e with
    | normal => obtain ⟨hn, s', a1, a2, a3, a4⟩ := this; exact ⟨hn, s', a1.both a2, a3, a4⟩
    | _ => exact this

structure KCut {σ : Type} (f : σ → Env) (J : σ → World → Prop) (env0 : Env) (n0 : Fi) (K : Kont) (n : Fi) (e : Exit) (env : Env) (w : World) : Prop where mk ::
  out : match e with
    | .normal => n = n0 ∧ ∃ s, Agr (f s) env ∧ Agr env0 env ∧ J s w
    | e => K n e env w
theorem KCut.join {σ : Type} {f : σ → Env} {J : σ → World → Prop} {env0 : Env} (s : σ) (h1 : Agr (f s) env) (h0 : Agr env0 env) (hJ : J s w) : KCut f J env0 n K n .normal env w := ⟨rfl, s, h1, h0, hJ⟩
theorem KCut.exit {σ : Type} {f : σ → Env} {J : σ → World → Prop} {env0 : Env} {i : Nat} {n0 : Fi} (h : K n (.exit i) env w) : KCut f J env0 n0 K n (.exit i) env w := ⟨h⟩
theorem KCut.ret {σ : Type} {f : σ → Env} {J : σ → World → Prop} {env0 : Env} {n0 : Fi} (h : K n .ret env w) : KCut f J env0 n0 K n .ret env w := ⟨h⟩

/-- Ways that meet again: what is known where they meet. -/
theorem Vc.cut {σ : Type} {x y : Code} (env0 : Env) (f : σ → Env) (J : σ → World → Prop) (hx : Vc P n x (KCut f J env0 n K) env w) (hy : ∀ s w, J s w → Vc P n y K (f s ++ env0) w) : Vc P n (.seq x y) K env w :=
  Vc.seq (hx.mono fun n' e env w hk => ⟨by
    have := hk.out
    cases e with
    | normal =>
      obtain ⟨hn, s, a1, a2, a3⟩ := this
      subst hn
      exact ⟨fun a ha => (hy s w a3).out a (ha.less (a1.both a2))⟩
    | _ => exact this⟩)
end
end Go.Proofs.YtpfgcchammlpgaaV
