import Derived.Test.YtpfgcchammlpgaaVcPv
set_option linter.unusedVariables false
set_option linter.unusedSimpArgs false
namespace Go.Proofs.YtpfgcchammlpgaaV
open Go Go.RowKit Go.BigFrame

def Gds.get : Gds → Nat → Option (Option Bool)
  | [], _ => none
  | (k, v) :: r, t => bif Nat.beq k t then some v else Gds.get r t
theorem Gds.get_mem : ∀ {G : Gds} {t : Nat} {b : Option Bool}, G.get t = some b → (t, b) ∈ G
  | [], _, _, h => by cases h
  | (k, v) :: r, t, b, h => by
    unfold Gds.get at h
    cases hq : Nat.beq k t with
    | true => rw [hq] at h; simp only [cond_true, Option.some.injEq] at h; subst h; rw [Nat.eq_of_beq_eq_true hq]; exact List.mem_cons_self
    | false => rw [hq] at h; exact List.mem_cons_of_mem _ (Gds.get_mem h)
def nthO : List Oper → Nat → Option Oper
  | [], _ => none
  | v :: _, 0 => some v
  | _ :: r, n + 1 => nthO r n
theorem nthO_eq : ∀ (l : List Oper) (n : Nat), nthO l n = l[n]?
  | [], _ => rfl
  | v :: _, 0 => rfl
  | _ :: r, n + 1 => by simp [nthO, nthO_eq r n]

/-- Whether an operation is wanted, as far as that is known. -/
def gres (ops : Array Oper) (G : Gds) (o : Oper) : Option Bool := match o.guard with
  | none => some true
  | some (j, want) => match nthO ops.toList j with
    | some o' => match o'.dst with
      | some d => match G.get d, want with
        | some (some true), true => some true
        | some (some false), false => some true
        | some (some true), false => some false
        | some (some false), true => some false
        | some none, _ => some false
        | none, _ => none
      | none => none
    | none => none

theorem gres_sound {ops : Array Oper} {G : Gds} {o : Oper} {n : Fi} {env : Env} {a : Act} (ha : Ag n env a) (hg : AgG G a) {b : Bool} (h : gres ops G o = some b) : Region.wanted o (yielded ops a.tmps) = b := by
  unfold gres at h
  unfold Region.wanted
  split at h
  · rename_i he; rw [he]; simpa using h
  · rename_i j want he
    rw [he]
    dsimp only
    split at h
    · rename_i o' ho
      rw [nthO_eq, Array.getElem?_toList] at ho
      split at h
      · rename_i d hd
        have key : ∀ c, G.get d = some c → yielded ops a.tmps j = c := fun c hc => by
          have := hg _ (Gds.get_mem hc)
          dsimp only at this
          unfold yielded
          rw [ho]
          simp only [Option.bind_some, hd]
          rw [Array.getD_eq_getD_getElem?] at this
          cases hx : a.tmps[d]? with
          | none => cases c with
            | none => rfl
            | some c => rw [hx] at this; cases this
          | some x =>
            rw [hx] at this
            simp only [Option.getD_some] at this
            subst this
            cases c <;> rfl
        split at h <;> first | (cases h; done) | skip
        all_goals (rename_i hc; rw [key _ hc]; first | (cases h; rfl) | (cases h; cases want <;> rfl))
      · cases h
    · cases h

def outG (G : Gds) : Option Nat → Bool
  | none => true
  | some t => match Gds.get G t with
    | none => true
    | some _ => false
theorem AgG.put {G : Gds} {a : Act} (h : AgG G a) {d : Option Nat} (hd : outG G d = true) (v : Value) : AgG G (a.put d v) := by
  cases d with
  | none => exact h
  | some t =>
    intro p hp
    have hne : t ≠ p.1 := by
      intro e
      subst e
      unfold outG at hd
      dsimp only at hd
      have key : ∀ {G : Gds}, p ∈ G → ∃ b, G.get p.1 = some b := by
        intro G
        induction G with
        | nil => intro h; cases h
        | cons q r ih =>
          intro h
          obtain ⟨k, u⟩ := q
          unfold Gds.get
          cases hq : Nat.beq k p.1 with
          | true => exact ⟨u, rfl⟩
          | false =>
            simp only [cond_false]
            rcases List.mem_cons.1 h with h | h
            · rw [h] at hq; simp at hq
            · exact ih h
      obtain ⟨b, hb⟩ := key hp
      rw [hb] at hd
      cases hd
    have := h p hp
    simpa [Act.put, Array.getElem?_setIfInBounds_ne hne] using this

/-- One operation that needs nothing of memory. -/
def stepP (T : Tab) (ops : Array Oper) (n : Fi) (G : Gds) (env : Env) (o : Oper) : Option (Gds × Env) := match gres ops G o with
  | some true => match pv T env o, inN n o.dst, outG G o.dst with
    | some v, true, true => match o.dst with
      | some t => some (G, (t, v) :: env)
      | none => some (G, env)
    | _, _, _ => none
  | some false => match inN n o.dst, outG G o.dst with
    | true, true => match o.dst with
      | some t => some ((t, none) :: G, (t, undef) :: env)
      | none => some (G, env)
    | _, _ => none
  | none => none

theorem stepP_sound {P : Program} {T : Tab} (hT : TabOk P T) {ops : Array Oper} {n : Fi} {G G' : Gds} {env env' : Env} {o : Oper} (h : stepP T ops n G env o = some (G', env')) :
    ∃ v, (∀ a, Ag n env a → AgG G a → (Region.wanted o (yielded ops a.tmps) = true ∧ ∀ w, (execOp a.eval o).run P w = .ok (.value v) w) ∨ (Region.wanted o (yielded ops a.tmps) = false ∧ v = undef)) ∧
      (∀ a, Ag n env a → AgG G a → Ag n env' (a.put o.dst v) ∧ AgG G' (a.put o.dst v)) := by
  unfold stepP at h
  split at h
  · rename_i hg
    split at h
    · rename_i v hv hn ho
      refine ⟨v, fun a ha hG => .inl ⟨gres_sound ha hG hg, fun w => pv_sound hT ha hv w⟩, fun a ha hG => ?_⟩
      have h1 := ha.put hn v
      have h2 := hG.put ho v
      cases hd : o.dst <;> rw [hd] at h <;> simp only [Option.some.injEq, Prod.mk.injEq] at h <;> obtain ⟨rfl, rfl⟩ := h <;> rw [hd] at h1 h2 <;> exact ⟨h1, h2⟩
    · cases h
  · rename_i hg
    split at h
    · rename_i hn ho
      refine ⟨undef, fun a ha hG => .inr ⟨gres_sound ha hG hg, rfl⟩, fun a ha hG => ?_⟩
      have h1 := ha.put hn undef
      have h2 := hG.put ho undef
      cases hd : o.dst with
      | none => rw [hd] at h h1 h2; simp only [Option.some.injEq, Prod.mk.injEq] at h; obtain ⟨rfl, rfl⟩ := h; exact ⟨h1, h2⟩
      | some t =>
        rw [hd] at h h1 h2
        simp only [Option.some.injEq, Prod.mk.injEq] at h
        obtain ⟨rfl, rfl⟩ := h
        refine ⟨h1, fun p hp => ?_⟩
        rcases List.mem_cons.1 hp with hp | hp
        · subst hp
          exact h1.get t undef (by simp [Env.put, Env.get])
        · exact h2 p hp
    · cases h
  · cases h

inductive Run (α : Type) where
  | at (G : Gds) (env : Env) (l : α)
  | bad

def pvs (T : Tab) (ops : Array Oper) (n : Fi) : Gds → Env → List Oper → Run (List Oper)
  | G, env, [] => .at G env []
  | G, env, o :: r => match stepP T ops n G env o with
    | some (G', e) => pvs T ops n G' e r
    | none => .at G env (o :: r)

def pvs1 (T : Tab) (ops : Array Oper) (n : Fi) (G : Gds) (env : Env) : List Oper → Run (List Oper)
  | [] => .bad
  | o :: r => match stepP T ops n G env o with
    | some (G', e) => pvs T ops n G' e r
    | none => .bad

theorem not_defer {P : Program} {ρ : Operand → Value} {o : Oper} {w w' : World} {x : Next} (h : (execOp ρ o).run P w = .ok x w') (hx : ∀ d, x ≠ .defer d) : ∀ c, o.op ≠ .defer c := by
  intro c hc
  unfold execOp at h
  rw [hc] at h
  dsimp only at h
  rw [Sem.run_bind] at h
  cases hr : (resolve ρ c o.type).run P w with
  | ok d w1 =>
    rw [hr] at h
    simp only [Result.andThen, Sem.run_pure, Result.ok.injEq] at h
    exact hx _ h.1.symm
  | halt s w1 => rw [hr] at h; cases h
section
variable {P : Program} {n : Fi} {o : Oper} {a : Act} {w w' : World} {next : Act → World → Prop} {Q : Exit → Act → World → Prop}
theorem wpIn_value {v : Value} (h : (execOp a.eval o).run P w = .ok (.value v) w') (k : next (a.put o.dst v) w') : o.wpIn n.fence 0 P a w next Q := ⟨fun _ _ => trivial, by
  rw [Oper.semAt_eq _ _ _ (not_defer h fun d e => by cases e), h]
  exact k⟩
theorem wpIn_skips (h : (execOp a.eval o).run P w = .ok .skip w') (k : next (a.put o.dst undef) w') : o.wpIn n.fence 0 P a w next Q := ⟨fun _ _ => trivial, by
  rw [Oper.semAt_eq _ _ _ (not_defer h fun d e => by cases e), h]
  exact k⟩
theorem wpIn_enter {f : Nat} {args : Array Value} (h : (execOp a.eval o).run P w = .ok (.enter f args) w') (k : Calls P f args w' fun
    | .returned v, w'' => next (a.put o.dst v) w''
    | .panicked chain, w'' => Q (.panic chain) a w''
    | .outgrown, _ => LetsOut Q) : o.wpIn n.fence 0 P a w next Q := ⟨fun _ _ => trivial, by
  rw [Oper.semAt_eq _ _ _ (not_defer h fun d e => by cases e), h]
  exact ⟨fun h => (by cases h), callsIn_wide.2 k⟩⟩
end
section
variable {P : Program} {T : Tab} {n : Fi} {ops : Array Oper} {K : Kont} {G : Gds} {env : Env} {w : World} {rest : List Oper} {o : Oper}

theorem VcL.nil (h : K n .normal env w) : VcL P n ops K [] G env w := ⟨fun a ha _ => lift_normal ha h⟩

theorem VcL.stepP {G' : Gds} {env' : Env} (hT : TabOk P T) (h : stepP T ops n G env o = some (G', env')) (k : VcL P n ops K rest G' env' w) : VcL P n ops K (o :: rest) G env w := ⟨fun a ha hG => by
  obtain ⟨v, h1, h2⟩ := stepP_sound hT h
  obtain ⟨h3, h4⟩ := h2 a ha hG
  have hk := k.out _ h3 h4
  unfold wpListIn
  rcases h1 a ha hG with ⟨hw, hv⟩ | ⟨hw, rfl⟩
  · rw [if_pos hw]
    exact wpIn_value (hv w) hk
  · rw [hw]
    exact ⟨fun _ _ => trivial, hk⟩⟩

theorem VcL.pvs_ok (hT : TabOk P T) : ∀ (l : List Oper) {G G' : Gds} {env env' : Env} {l' : List Oper}, pvs T ops n G env l = .at G' env' l' → VcL P n ops K l' G' env' w → VcL P n ops K l G env w
  | [], G, G', env, env', l', h, k => by simp only [pvs, Run.at.injEq] at h; rw [h.1, h.2.1, h.2.2]; exact k
  | o :: r, G, G', env, env', l', h, k => by
    unfold pvs at h
    cases hs : Go.Proofs.YtpfgcchammlpgaaV.stepP T ops n G env o with
    | none => rw [hs] at h; simp only [Run.at.injEq] at h; rw [h.1, h.2.1, h.2.2]; exact k
    | some e => obtain ⟨g, e⟩ := e; rw [hs] at h; exact VcL.stepP hT hs (VcL.pvs_ok hT r h k)

/-- As many operations as need nothing of memory. -/
theorem VcL.pures (hT : TabOk P T) {G' : Gds} {env' : Env} {l l' : List Oper} (h : pvs1 T ops n G env l = .at G' env' l') (k : VcL P n ops K l' G' env' w) : VcL P n ops K l G env w := by
  cases l with
  | nil => cases h
  | cons o r =>
    unfold pvs1 at h
    dsimp only at h
    cases hs : Go.Proofs.YtpfgcchammlpgaaV.stepP T ops n G env o with
    | none => rw [hs] at h; cases h
    | some e =>
      obtain ⟨g, e⟩ := e
      rw [hs] at h
      exact VcL.stepP hT hs (VcL.pvs_ok hT r h k)

/-- A guard that is open: both ways. -/
theorem VcL.guard {j d : Nat} {want b : Bool} {o' : Oper} (hg : o.guard = some (j, want)) (hj : nthO ops.toList j = some o') (hd : o'.dst = some d) (hb : env.get d = some (.bool b))
    (hx : b = true → VcL P n ops K (o :: rest) ((d, some true) :: G) ((d, .bool true) :: env) w) (hy : b = false → VcL P n ops K (o :: rest) ((d, some false) :: G) ((d, .bool false) :: env) w) : VcL P n ops K (o :: rest) G env w := ⟨fun a ha hG => by
  have hv := ha.get d _ hb
  have key : ∀ c, b = c → Ag n ((d, Value.bool c) :: env) a := fun c e => ⟨ha.size, ha.defers, fun u v hu => by
    simp only [Env.get] at hu
    cases hq : Nat.beq d u with
    | true => rw [hq] at hu; simp only [cond_true, Option.some.injEq] at hu; subst hu; rw [← Nat.eq_of_beq_eq_true hq, hv, e]
    | false => rw [hq] at hu; exact ha.get u v hu⟩
  have keyG : ∀ c, b = c → AgG ((d, some c) :: G) a := fun c e p hp => by
    rcases List.mem_cons.1 hp with hp | hp
    · rw [hp, ← e]; exact hv
    · exact hG p hp
  cases b with
  | true => exact (hx rfl).out a (key _ rfl) (keyG _ rfl)
  | false => exact (hy rfl).out a (key _ rfl) (keyG _ rfl)⟩

/-- What an operation does in a world, whatever the frame's unknown slots hold. -/
structure OpV (P : Program) (n : Fi) (env : Env) (o : Oper) (w : World) (v : Value) (w' : World) : Prop where mk ::
  out : ∀ a, Ag n env a → (execOp a.eval o).run P w = .ok (.value v) w' ∨ (v = undef ∧ (execOp a.eval o).run P w = .ok .skip w')

theorem VcL.val {v : Value} {w' : World} (hg : gres ops G o = some true) (hn : inN n o.dst = true) (ho : outG G o.dst = true) (h : OpV P n env o w v w')
    (k : VcL P n ops K rest G (env.put o.dst v) w') : VcL P n ops K (o :: rest) G env w := ⟨fun a ha hG => by
  have hk := k.out _ (ha.put hn v) (hG.put ho v)
  unfold wpListIn
  rw [if_pos (gres_sound ha hG hg)]
  rcases h.out a ha with h1 | ⟨hv, h1⟩
  · exact wpIn_value h1 hk
  · subst hv; exact wpIn_skips h1 hk⟩

/-- A call of a Go function. -/
structure OpC (P : Program) (n : Fi) (env : Env) (o : Oper) (w : World) (f : Nat) (args : Array Value) : Prop where mk ::
  out : ∀ a, Ag n env a → (execOp a.eval o).run P w = .ok (.enter f args) w

/-- What a call returns. -/
structure Rets (P : Program) (f : Nat) (args : Array Value) (w : World) (R : Value → World → Prop) : Prop where mk ::
  out : Calls P f args w fun e w' => ∃ v, e = .returned v ∧ R v w'
theorem Rets.mono {f : Nat} {args : Array Value} {R R' : Value → World → Prop} (h : Rets P f args w R) (hr : ∀ v w', R v w' → R' v w') : Rets P f args w R' :=
  ⟨Calls.mono h.out fun e w' ⟨v, e1, h1⟩ => ⟨v, e1, hr v w' h1⟩⟩

theorem VcL.call {f : Nat} {args : Array Value} (hg : gres ops G o = some true) (hn : inN n o.dst = true) (ho : outG G o.dst = true) (h : OpC P n env o w f args)
    (k : Rets P f args w fun v w' => VcL P n ops K rest G (env.put o.dst v) w') : VcL P n ops K (o :: rest) G env w := ⟨fun a ha hG => by
  unfold wpListIn
  rw [if_pos (gres_sound ha hG hg)]
  refine wpIn_enter (h.out a ha) (Calls.mono k.out ?_)
  rintro e w' ⟨v, rfl, hk⟩
  exact hk.out _ (ha.put hn v) (hG.put ho v)⟩
end

/-! ### A region that draws its order -/

/-- What holds of the world: one thing throughout; or one up to a certain operation, another behind it. -/
inductive Phase where
  | one (S : World → Prop)
  | till (S : World → Prop) (s : Nat) (r : Phase)
def Phase.S : Phase → World → Prop
  | .one S => S
  | .till S _ _ => S
instance : CoeFun Phase (fun _ => World → Prop) := ⟨Phase.S⟩
def Phase.next : Phase → Nat → Phase
  | .one S, _ => .one S
  | .till S s r, i => bif Nat.beq i s then r else .till S s r
def Phase.ends : Phase → List Nat
  | .one _ => []
  | .till _ s r => s :: r.ends
def endsNext : List Nat → Nat → List Nat
  | [], _ => []
  | s :: r, i => bif Nat.beq i s then r else s :: r
theorem Phase.ends_next (S : Phase) (i : Nat) : (S.next i).ends = endsNext S.ends i := by
  cases S with
  | one => rfl
  | till S s r =>
    simp only [Phase.next, Phase.ends, endsNext]
    cases Nat.beq i s <;> rfl

/-- Whatever comes up from here on, with what holds behind each. -/
def wpAnyP (P : Program) (ops : Array Oper) (Q : Exit → Act → World → Prop) : Nat → Phase → Array Bool → Act → World → Prop
  | 0, _, listed, a, w => Region.ready .any ops listed = [] ∧ Q .normal a w
  | fuel + 1, S, listed, a, w =>
    (Region.ready .any ops listed = [] → Q .normal a w) ∧
    ∀ i ∈ Region.ready .any ops listed, wpOp P ops Q i (fun a' w' => (S.next i) w' ∧ wpAnyP P ops Q fuel (S.next i) (listed.setIfInBounds i true) a' w') a w
theorem wpAnyP_any {P : Program} {ops : Array Oper} {Q : Exit → Act → World → Prop} : ∀ (fuel : Nat) (S : Phase) (listed : Array Bool) (a : Act) (w : World), wpAnyP P ops Q fuel S listed a w → wpAny P .any ops Q fuel listed a w
  | 0, _, _, _, _, h => h
  | fuel + 1, S, _, _, _, h => ⟨h.1, fun i hi => wpOp_mono (fun a' w' h' => wpAnyP_any fuel (S.next i) _ a' w' h'.2) (h.2 i hi)⟩
/-- Good: a property of phases that stays while nothing comes up that waits for i, and lets the operation yield. -/
theorem wpAnyP_first {P : Program} {ops : Array Oper} {Q : Exit → Act → World → Prop} {i : Nat} {oi : Oper} {v : Value} {R : World → Prop} (Good : Phase → Prop) (hR : ∀ S w, Good S → S.S w → R w)
    (hstep : ∀ S j oj, Good S → ops[j]? = some oj → j ≠ i → (∀ e ∈ oj.after, Region.binds .any e = true → e.on ≠ i) → Good (S.next j)) (hself : ∀ S, Good S → S.next i = S)
    (hi : ops[i]? = some oi) (hsel : ∀ (j : Nat) (o : Oper) cs b, ops[j]? = some o → o.op ≠ .select cs b)
    (hQ : ∀ c a w, Q (.panic c) (a.put oi.dst v) w → Q (.panic c) a w) :
    ∀ (fuel : Nat) (S : Phase) (listed : Array Bool) (a : Act) (w : World), Good S →
      (∀ j oj, ops[j]? = some oj → j ≠ i → listed.getD j true = false → (∀ e ∈ oj.after, Region.binds .any e = true → e.on ≠ i) → oi.apart ops oj = true) →
      i ∈ Region.ready .any ops listed → YieldsIf P ops R oi v a → S.S w →
      wpAnyP P ops Q fuel S (listed.setIfInBounds i true) (a.put oi.dst v) w → wpAnyP P ops Q (fuel + 1) S listed a w := by
  intro fuel
  induction fuel with
  | zero =>
    intro S listed a w hg _ hr hy hS H
    refine ⟨fun h => (by rw [h] at hr; cases hr), fun j hj => ?_⟩
    by_cases hji : j = i
    · subst hji
      rw [hself S hg]
      exact hy.wpOp hi (hR S w hg hS) ⟨hS, H⟩
    · have := ready_mono hj hji
      rw [H.1] at this
      cases this
  | succ fuel ih =>
    intro S listed a w hg hfree hr hy hS H
    refine ⟨fun h => (by rw [h] at hr; cases hr), fun j hj => ?_⟩
    by_cases hji : j = i
    · subst hji
      rw [hself S hg]
      exact hy.wpOp hi (hR S w hg hS) ⟨hS, H⟩
    · have h1 := H.2 j (ready_mono hj hji)
      obtain ⟨hjun, oj, hoj, hall⟩ := mem_ready.1 hj
      have hun : listed.getD i true = false := (mem_ready.1 hr).1
      have hnot : ∀ e ∈ oj.after, Region.binds .any e = true → e.on ≠ i := fun e he hb heq => by
        have h2 := hall e he hb
        rw [heq] at h2
        rcases Nat.lt_or_ge i listed.size with h' | h'
        · simp [h'] at hun h2; rw [hun] at h2; cases h2
        · simp [Array.getElem?_eq_none h'] at h2
      have hg2 := hstep S j oj hg hoj hji hnot
      have h2 := wpOp_putIf hoj (hfree j oj hoj hji hjun hnot) (fun cs b => hsel i oi cs b hi) (fun cs b => hsel j oj cs b hoj) hQ hy h1
      have hfree' : ∀ k ok, ops[k]? = some ok → k ≠ i → (listed.setIfInBounds j true).getD k true = false →
          (∀ e ∈ ok.after, Region.binds .any e = true → e.on ≠ i) → oi.apart ops ok = true := fun k ok hk hki hkun hno => by
        refine hfree k ok hk hki ?_ hno
        by_cases hjk : j = k
        · subst hjk; exact hjun
        · rw [getD_set_ne true hjk] at hkun; exact hkun
      refine wpOp_mono (fun a' w' h3 => ⟨h3.2.1, ih (S.next j) (listed.setIfInBounds j true) a' w' hg2 hfree' (ready_mono hr (Ne.symm hji)) h3.1 h3.2.1 ?_⟩) h2
      rw [Array.setIfInBounds_comm _ _ hji]
      exact h3.2.2

/-- In which order: an operation that needs nothing of memory; a load, taken first; the only one to come; either of two. -/
inductive Plan where
  | done
  | pure (i : Nat) (p : Plan)
  | take (i : Nat) (p : Plan)
  | only (i : Nat) (p : Plan)
  | two (i j : Nat) (p q : Plan)

/-- Where the phase ends, what is taken comes before. -/
def waitsFor (ops : Array Oper) : List Nat → Nat → Bool
  | [], _ => true
  | s :: _, i => !(Nat.beq i s) && match ops[s]? with
    | some o => o.after.any (fun e => Region.binds .any e && e.on == i)
    | none => false
def notEnd : List Nat → Nat → Bool
  | [], _ => true
  | s :: _, i => !(Nat.beq i s)
def planOk (ops : Array Oper) : Plan → List Nat → Array Bool → Bool
  | .done, _, l => (Region.ready .any ops l).isEmpty
  | .pure i p, E, l => Region.free .any ops l i && (Region.ready .any ops l).contains i && E.all (fun s => !(Nat.beq i s)) && planOk ops p E (l.setIfInBounds i true)
  | .take i p, E, l => Region.free .any ops l i && (Region.ready .any ops l).contains i && waitsFor ops E i && planOk ops p E (l.setIfInBounds i true)
  | .only i p, E, l => Region.ready .any ops l == [i] && planOk ops p (endsNext E i) (l.setIfInBounds i true)
  | .two i j p q, E, l => Region.ready .any ops l == [i, j] && planOk ops p (endsNext E i) (l.setIfInBounds i true) && planOk ops q (endsNext E j) (l.setIfInBounds j true)

def Plan.len : Plan → Nat
  | .done => 0
  | .pure _ p => p.len + 1
  | .take _ p => p.len + 1
  | .only _ p => p.len + 1
  | .two _ _ p q => max p.len q.len + 1

structure VcD (P : Program) (n : Fi) (ops : Array Oper) (S : Phase) (K : Kont) (p : Plan) (G : Gds) (env : Env) (w : World) : Prop where mk ::
  out : ∀ l fuel, planOk ops p S.ends l = true → p.len ≤ fuel → Region.noSelect ops = true → ∀ a, Ag n env a → AgG G a → S.S w → wpAnyP P ops (lift n.round K) fuel S l a w

section
variable {P : Program} {T : Tab} {n : Fi} {ops : Array Oper} {S : Phase} {K : Kont} {G : Gds} {env : Env} {w : World} {p : Plan}

theorem VcD.done (h : K n .normal env w) : VcD P n ops S K .done G env w := ⟨fun l fuel hp hf hs a ha hG hS => by
  have hr : Region.ready .any ops l = [] := by simpa [planOk] using hp
  cases fuel with
  | zero => exact ⟨hr, lift_normal ha h⟩
  | succ m => exact ⟨fun _ => lift_normal ha h, by rw [hr]; simp⟩⟩

theorem phase_next_ne {S : Phase} {i : Nat} (h : ∀ s r S', S = .till S' s r → Nat.beq i s = false) : S.next i = S := by
  cases S with
  | one => rfl
  | till S' s r => simp only [Phase.next, h s r S' rfl, cond_false]
/-- A load, taken first. -/
theorem VcD.takeY {i : Nat} {o : Oper} {v : Value} {G' : Gds} {env' : Env} (hi : nthO ops.toList i = some o)
    (hy : ∀ a, Ag n env a → AgG G a → YieldsIf P ops S.S o v a) (he : ∀ a, Ag n env a → AgG G a → Ag n env' (a.put o.dst v) ∧ AgG G' (a.put o.dst v))
    (k : VcD P n ops S K p G' env' w) : VcD P n ops S K (.take i p) G env w := ⟨fun l fuel hp hf hs a ha hG hS => by
  simp only [planOk, Bool.and_eq_true] at hp
  obtain ⟨⟨⟨h1, h2⟩, h3⟩, h4⟩ := hp
  have hf' : p.len + 1 ≤ fuel := hf
  obtain ⟨m, rfl⟩ : ∃ m, fuel = m + 1 := ⟨fuel - 1, by omega⟩
  rw [nthO_eq, Array.getElem?_toList] at hi
  obtain ⟨h5, h6⟩ := he a ha hG
  have hne : ∀ s r S', S = .till S' s r → Nat.beq i s = false ∧ ∃ os, ops[s]? = some os ∧ ∃ e ∈ os.after, Region.binds .any e = true ∧ e.on = i := fun s r S' e => by
    subst e
    simp only [Phase.ends, waitsFor, Bool.and_eq_true, Bool.not_eq_true'] at h3
    refine ⟨h3.1, ?_⟩
    cases ho : ops[s]? with
    | none => rw [ho] at h3; cases h3.2
    | some os =>
      rw [ho] at h3
      obtain ⟨e, he1, he2⟩ := Array.any_eq_true'.1 h3.2
      simp only [Bool.and_eq_true, beq_iff_eq] at he2
      exact ⟨os, rfl, e, he1, he2⟩
  refine wpAnyP_first (R := S.S) (fun S' => S' = S) (fun S' w e h => by subst e; exact h) (fun S' j oj e hj hji hno => ?_) (fun S' e => ?_) hi (Region.noSelect_spec hs) (fun c a w h => h.elim) m S l a w rfl (Region.free_spec hi h1) (by simpa using h2) (hy a ha hG) hS (k.out _ m h4 (by omega) hs _ h5 h6 hS)
  · subst e
    refine phase_next_ne fun s r S'' e => ?_
    obtain ⟨_, os, h7, e', h8, h9, h10⟩ := hne s r S'' e
    rw [← Bool.not_eq_true]
    intro hb
    have := Nat.eq_of_beq_eq_true hb
    subst this
    rw [hj] at h7
    injection h7 with h7
    subst h7
    exact hno e' h8 h9 h10
  · subst e
    exact phase_next_ne fun s r S'' e => (hne s r S'' e).1⟩
/-- One that yields its value in whatever world. -/
theorem VcD.pureY {i : Nat} {o : Oper} {v : Value} {G' : Gds} {env' : Env} (hi : nthO ops.toList i = some o)
    (hy : ∀ a, Ag n env a → AgG G a → YieldsIf P ops (fun _ => True) o v a) (he : ∀ a, Ag n env a → AgG G a → Ag n env' (a.put o.dst v) ∧ AgG G' (a.put o.dst v))
    (k : VcD P n ops S K p G' env' w) : VcD P n ops S K (.pure i p) G env w := ⟨fun l fuel hp hf hs a ha hG hS => by
  simp only [planOk, Bool.and_eq_true] at hp
  obtain ⟨⟨⟨h1, h2⟩, h3⟩, h4⟩ := hp
  have hf' : p.len + 1 ≤ fuel := hf
  obtain ⟨m, rfl⟩ : ∃ m, fuel = m + 1 := ⟨fuel - 1, by omega⟩
  rw [nthO_eq, Array.getElem?_toList] at hi
  obtain ⟨h5, h6⟩ := he a ha hG
  rw [List.all_eq_true] at h3
  have hmem : ∀ (S' : Phase) (j : Nat), ∀ s ∈ (S'.next j).ends, s ∈ S'.ends := fun S' j s hm => by
    rw [Phase.ends_next] at hm
    cases he : S'.ends with
    | nil => rw [he] at hm; exact hm
    | cons q r =>
      rw [he] at hm
      simp only [endsNext] at hm
      cases hb : Nat.beq j q <;> rw [hb] at hm
      · exact hm
      · exact List.mem_cons_of_mem _ hm
  refine wpAnyP_first (R := fun _ => True) (fun S' => ∀ s ∈ S'.ends, s ∈ S.ends) (fun _ _ _ _ => trivial) (fun S' j oj hg _ _ _ s hm => hg s (hmem S' j s hm)) (fun S' hg => ?_) hi (Region.noSelect_spec hs) (fun c a w h => h.elim) m S l a w (fun _ h => h) (Region.free_spec hi h1) (by simpa using h2) (hy a ha hG) hS (k.out _ m h4 (by omega) hs _ h5 h6 hS)
  refine phase_next_ne fun s r S'' e => ?_
  have := h3 s (hg s (by rw [e]; exact List.mem_cons_self))
  simpa using this⟩

theorem VcD.stepP {i : Nat} {o : Oper} {G' : Gds} {env' : Env} (hT : TabOk P T) (hi : nthO ops.toList i = some o) (h : Go.Proofs.YtpfgcchammlpgaaV.stepP T ops n G env o = some (G', env'))
    (k : VcD P n ops S K p G' env' w) : VcD P n ops S K (.pure i p) G env w := by
  obtain ⟨v, h1, h2⟩ := stepP_sound hT h
  exact VcD.pureY hi (fun a ha hG => (h1 a ha hG).imp (fun ⟨hw, hv⟩ => ⟨hw, fun w _ => hv w⟩) id) h2 k

def pvd (T : Tab) (ops : Array Oper) (n : Fi) : Gds → Env → Plan → Run Plan
  | G, env, .pure i p => match nthO ops.toList i with
    | some o => match Go.Proofs.YtpfgcchammlpgaaV.stepP T ops n G env o with
      | some (G', e) => pvd T ops n G' e p
      | none => .at G env (.pure i p)
    | none => .bad
  | G, env, .done => .at G env .done
  | G, env, .take i p => .at G env (.take i p)
  | G, env, .only i p => .at G env (.only i p)
  | G, env, .two i j p q => .at G env (.two i j p q)

def pvd1 (T : Tab) (ops : Array Oper) (n : Fi) (G : Gds) (env : Env) : Plan → Run Plan
  | .pure i p => match nthO ops.toList i with
    | some o => match Go.Proofs.YtpfgcchammlpgaaV.stepP T ops n G env o with
      | some (G', e) => pvd T ops n G' e p
      | none => .bad
    | none => .bad
  | _ => .bad

theorem VcD.pvd_ok (hT : TabOk P T) : ∀ (p : Plan) {G G' : Gds} {env env' : Env} {p' : Plan}, pvd T ops n G env p = .at G' env' p' → VcD P n ops S K p' G' env' w → VcD P n ops S K p G env w
  | .pure i p, G, G', env, env', p', h, k => by
    unfold pvd at h
    cases hi : nthO ops.toList i with
    | none => rw [hi] at h; cases h
    | some o =>
      rw [hi] at h
      dsimp only at h
      cases hs : Go.Proofs.YtpfgcchammlpgaaV.stepP T ops n G env o with
      | none => rw [hs] at h; simp only [Run.at.injEq] at h; rw [h.1, h.2.1, h.2.2]; exact k
      | some e => obtain ⟨g, e⟩ := e; rw [hs] at h; exact VcD.stepP hT hi hs (VcD.pvd_ok hT p h k)
  | .take _ _, G, G', env, env', p', h, k => by simp only [pvd, Run.at.injEq] at h; rw [h.1, h.2.1, h.2.2]; exact k
  | .done, G, G', env, env', p', h, k => by simp only [pvd, Run.at.injEq] at h; rw [h.1, h.2.1, h.2.2]; exact k
  | .only _ _, G, G', env, env', p', h, k => by simp only [pvd, Run.at.injEq] at h; rw [h.1, h.2.1, h.2.2]; exact k
  | .two _ _ _ _, G, G', env, env', p', h, k => by simp only [pvd, Run.at.injEq] at h; rw [h.1, h.2.1, h.2.2]; exact k

theorem VcD.pures (hT : TabOk P T) {G' : Gds} {env' : Env} {p' : Plan} (h : pvd1 T ops n G env p = .at G' env' p') (k : VcD P n ops S K p' G' env' w) : VcD P n ops S K p G env w := by
  unfold pvd1 at h
  split at h
  · rename_i i q
    split at h
    · rename_i o hi
      split at h
      · rename_i g e hs
        exact VcD.stepP hT hi hs (VcD.pvd_ok hT _ h k)
      · cases h
    · cases h
  · cases h

/-- A load: it yields its value in every world that meets S. -/
theorem VcD.val {i : Nat} {o : Oper} {v : Value} (hi : nthO ops.toList i = some o) (hg : gres ops G o = some true) (hn : inN n o.dst = true) (ho : outG G o.dst = true)
    (h : ∀ w, S.S w → OpV P n env o w v w) (hu : v ≠ undef) (k : VcD P n ops S K p G (env.put o.dst v) w) : VcD P n ops S K (.take i p) G env w :=
  VcD.takeY hi (fun a ha hG => .inl ⟨gres_sound ha hG hg, fun w hw => ((h w hw).out a ha).resolve_right fun h => hu h.1⟩) (fun a ha hG => ⟨ha.put hn v, hG.put ho v⟩) k
/-- One that reads no memory. -/
theorem VcD.valP {i : Nat} {o : Oper} {v : Value} (hi : nthO ops.toList i = some o) (hg : gres ops G o = some true) (hn : inN n o.dst = true) (ho : outG G o.dst = true)
    (h : ∀ w, OpV P n env o w v w) (hu : v ≠ undef) (k : VcD P n ops S K p G (env.put o.dst v) w) : VcD P n ops S K (.pure i p) G env w :=
  VcD.pureY hi (fun a ha hG => .inl ⟨gres_sound ha hG hg, fun w _ => ((h w).out a ha).resolve_right fun h => hu h.1⟩) (fun a ha hG => ⟨ha.put hn v, hG.put ho v⟩) k

/-- What an operation does that changes the world: S is to be shown anew. -/
structure EfO (P : Program) (n : Fi) (ops : Array Oper) (S : World → Prop) (G : Gds) (env : Env) (w : World) (i : Nat) (k : Gds → Env → World → Prop) : Prop where mk ::
  out : ∀ (Q : Exit → Act → World → Prop) (Kc : Act → World → Prop) a, Ag n env a → AgG G a → (∀ G' env' a' w', Ag n env' a' → AgG G' a' → k G' env' w' → S w' → Kc a' w') → wpOp P ops Q i Kc a w

theorem EfO.val {S : World → Prop} {i : Nat} {o : Oper} {v : Value} {w' : World} {k : Gds → Env → World → Prop} (hi : nthO ops.toList i = some o) (hg : gres ops G o = some true) (hn : inN n o.dst = true) (ho : outG G o.dst = true)
    (h : OpV P n env o w v w') (hS : S w') (hk : k G (env.put o.dst v) w') : EfO P n ops S G env w i k := ⟨fun Q Kc a ha hG hK => by
  rw [nthO_eq, Array.getElem?_toList] at hi
  unfold wpOp
  rw [hi]
  dsimp only
  rw [if_pos (gres_sound ha hG hg)]
  refine .inl ?_
  unfold Oper.wp
  have hk' := hK G _ _ w' (ha.put hn v) (hG.put ho v) hk hS
  rcases h.out a ha with h1 | ⟨hv, h1⟩
  · rw [h1]; exact hk'
  · rw [h1]; subst hv; exact hk'⟩

theorem EfO.call {S : World → Prop} {i : Nat} {o : Oper} {f : Nat} {args : Array Value} {k : Gds → Env → World → Prop} (hi : nthO ops.toList i = some o) (hg : gres ops G o = some true) (hn : inN n o.dst = true) (ho : outG G o.dst = true)
    (h : OpC P n env o w f args) (hk : Rets P f args w fun v w' => S w' ∧ k G (env.put o.dst v) w') : EfO P n ops S G env w i k := ⟨fun Q Kc a ha hG hK => by
  rw [nthO_eq, Array.getElem?_toList] at hi
  unfold wpOp
  rw [hi]
  dsimp only
  rw [if_pos (gres_sound ha hG hg)]
  refine .inl ?_
  unfold Oper.wp
  rw [h.out a ha, Oper.upon_enter]
  refine Calls.mono hk.out ?_
  rintro e w' ⟨v, rfl, hS, hk⟩
  exact hK G _ _ w' (ha.put hn v) (hG.put ho v) hk hS⟩

/-- One that is not wanted. -/
theorem EfO.skip {S : World → Prop} {i : Nat} {o : Oper} {k : Gds → Env → World → Prop} {G' : Gds} {env' : Env} (hi : nthO ops.toList i = some o) (hg : gres ops G o = some false) (h : Go.Proofs.YtpfgcchammlpgaaV.stepP [] ops n G env o = some (G', env'))
    (hS : S w) (hk : k G' env' w) : EfO P n ops S G env w i k := ⟨fun Q Kc a ha hG hK => by
  rw [nthO_eq, Array.getElem?_toList] at hi
  obtain ⟨v, h1, h2⟩ := stepP_sound (P := P) TabOk.nil h
  have hw := gres_sound ha hG hg
  unfold wpOp
  rw [hi]
  dsimp only
  rw [hw]
  obtain ⟨h3, h4⟩ := h2 a ha hG
  rcases h1 a ha hG with h5 | ⟨_, rfl⟩
  · rw [hw] at h5; cases h5.1
  · exact hK _ _ _ w h3 h4 hk hS⟩

theorem VcD.only {i : Nat} (h : EfO P n ops (S.next i).S G env w i fun G' env' w' => VcD P n ops (S.next i) K p G' env' w') : VcD P n ops S K (.only i p) G env w := ⟨fun l fuel hp hf hs a ha hG hS => by
  simp only [planOk, Bool.and_eq_true, beq_iff_eq] at hp
  have hf' : p.len + 1 ≤ fuel := hf
  obtain ⟨m, rfl⟩ : ∃ m, fuel = m + 1 := ⟨fuel - 1, by omega⟩
  refine ⟨fun h0 => by rw [h0] at hp; simp at hp, fun j hj => ?_⟩
  rw [hp.1] at hj
  obtain rfl : j = i := by simpa using hj
  have h2 := hp.2
  rw [← Phase.ends_next] at h2
  exact h.out _ _ a ha hG fun G' env' a' w' h1 h2' h3 h4 => ⟨h4, h3.out _ m h2 (by omega) hs a' h1 h2' h4⟩⟩

theorem VcD.two {i j : Nat} {q : Plan} (h : EfO P n ops (S.next i).S G env w i fun G' env' w' => VcD P n ops (S.next i) K p G' env' w') (h' : EfO P n ops (S.next j).S G env w j fun G' env' w' => VcD P n ops (S.next j) K q G' env' w') :
    VcD P n ops S K (.two i j p q) G env w := ⟨fun l fuel hp hf hs a ha hG hS => by
  simp only [planOk, Bool.and_eq_true, beq_iff_eq] at hp
  have hf' : max p.len q.len + 1 ≤ fuel := hf
  obtain ⟨m, rfl⟩ : ∃ m, fuel = m + 1 := ⟨fuel - 1, by omega⟩
  refine ⟨fun h0 => by rw [h0] at hp; simp at hp, fun x hx => ?_⟩
  rw [hp.1.1] at hx
  have h2 := hp.1.2
  have h2b := hp.2
  rw [← Phase.ends_next] at h2 h2b
  rcases List.mem_cons.1 hx with rfl | hx
  · exact h.out _ _ a ha hG fun G' env' a' w' h1 h2' h3 h4 => ⟨h4, h3.out _ m h2 (by omega) hs a' h1 h2' h4⟩
  · obtain rfl : x = j := by simpa using hx
    exact h'.out _ _ a ha hG fun G' env' a' w' h1 h2' h3 h4 => ⟨h4, h3.out _ m h2b (by omega) hs a' h1 h2' h4⟩⟩

/-- A guard that is open: both ways. -/
theorem VcD.guard {i j d : Nat} {want b : Bool} {o o' : Oper} (hi : nthO ops.toList i = some o) (hg : o.guard = some (j, want)) (hj : nthO ops.toList j = some o') (hd : o'.dst = some d) (hb : env.get d = some (.bool b))
    (hx : b = true → VcD P n ops S K p ((d, some true) :: G) ((d, .bool true) :: env) w) (hy : b = false → VcD P n ops S K p ((d, some false) :: G) ((d, .bool false) :: env) w) : VcD P n ops S K p G env w := ⟨fun l fuel hp hf hs a ha hG hS => by
  have hv := ha.get d _ hb
  have key : ∀ c, b = c → Ag n ((d, Value.bool c) :: env) a := fun c e => ⟨ha.size, ha.defers, fun u v hu => by
    simp only [Env.get] at hu
    cases hq : Nat.beq d u with
    | true => rw [hq] at hu; simp only [cond_true, Option.some.injEq] at hu; subst hu; rw [← Nat.eq_of_beq_eq_true hq, hv, e]
    | false => rw [hq] at hu; exact ha.get u v hu⟩
  have keyG : ∀ c, b = c → AgG ((d, some c) :: G) a := fun c e p hp => by
    rcases List.mem_cons.1 hp with hp | hp
    · rw [hp, ← e]; exact hv
    · exact hG p hp
  cases b with
  | true => exact (hx rfl).out l fuel hp hf hs a (key _ rfl) (keyG _ rfl) hS
  | false => exact (hy rfl).out l fuel hp hf hs a (key _ rfl) (keyG _ rfl) hS⟩

/-- The beginning. -/
theorem Vc.drawn {id : Nat} {os : List Oper} (p : Plan) (S : Phase) (hm : P.follows .mixedOrders = true) (hp : (planOk os.toArray p S.ends (Array.replicate os.toArray.size false) && Region.noSelect os.toArray && Nat.ble p.len os.toArray.size) = true)
    (hS : S.S { w with drawn := w.drawn + 1 }) (k : VcD P n os.toArray S K p [] env { w with drawn := w.drawn + 1 }) (hro : n.round = none := by rfl) : Vc P n (.region id os.toArray true) K env w := ⟨fun a ha => by
  simp only [Bool.and_eq_true] at hp
  have hf : n.fence = Fence.wide := by unfold Fi.fence; rw [hro]; rfl
  rw [hf]
  exact wpIn_wide.2 (wp_region_any hm (wpAnyP_any _ _ _ _ _ (k.out _ _ hp.1.1 (Nat.le_of_ble_eq_true hp.2) hp.1.2 a ha (by simp [AgG]) hS)))⟩
end
end Go.Proofs.YtpfgcchammlpgaaV
