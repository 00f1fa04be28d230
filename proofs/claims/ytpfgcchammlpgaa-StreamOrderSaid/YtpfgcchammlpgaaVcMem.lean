import Derived.Test.YtpfgcchammlpgaaVcList
import Derived.Below
import Derived.RangeFuncLeaves
import Derived.RangeFuncRecord
set_option linter.unusedVariables false
set_option linter.unusedSimpArgs false
namespace Go.Proofs.YtpfgcchammlpgaaV
open Go Go.RowKit Go.BigFrame

/-! ### Loads -/

theorem run_loadCellsFrom {P : Program} {w : World} {a : Addr} : ∀ (vs : List Value) (i : Nat) (acc : Array Value), (∀ j v, vs[j]? = some v → w.cell? (a.add (i + j)) = some v) →
    (loadCellsFrom a i vs.length acc).run P w = .ok (acc ++ vs.toArray) w
  | [], i, acc, h => by simp [loadCellsFrom, go_sem]
  | v :: r, i, acc, h => by
    have h0 : w.cell? (a.add i) = some v := h 0 v rfl
    simp only [List.length_cons, loadCellsFrom]
    have e : (load (a.add i)).run P w = .ok v w := by simp [load, Sem.run, h0]
    rw [run_bind e, run_loadCellsFrom r (i + 1) (acc.push v) (fun j u hj => by have := h (j + 1) u (by simpa using hj); rwa [show i + 1 + j = i + (j + 1) by omega])]
    congr 1
    rw [← Array.append_singleton, Array.append_assoc]
    simp

structure LoadV (P : Program) (w : World) (t : Nat) (a : Addr) (v : Value) : Prop where mk ::
  out : (loadVar t a).run P w = .ok v w

def isAggT (T : Tab) (t : Nat) : Option Bool := match T.get t with
  | some i => some (aggT i.desc)
  | none => none
def sizeT (T : Tab) (t : Nat) : Option Nat := match T.get t with
  | some i => some i.size
  | none => none

theorem isAggT_sound {P : Program} {T : Tab} (hT : TabOk P T) {t : Nat} {b : Bool} (h : isAggT T t = some b) (w : World) : (isAgg t).run P w = .ok b w := by
  unfold isAggT at h
  split at h
  · rename_i i hi
    simp only [Option.some.injEq] at h
    subst h
    exact (hT.out t i hi).run_isAgg w
  · cases h
theorem sizeT_sound {P : Program} {T : Tab} (hT : TabOk P T) {t n : Nat} (h : sizeT T t = some n) (w : World) : (sizeOf t).run P w = .ok n w := by
  unfold sizeT at h
  split at h
  · rename_i i hi
    simp only [Option.some.injEq] at h
    subst h
    exact (hT.out t i hi).run_size w
  · cases h

theorem LoadV.one {P : Program} {T : Tab} (hT : TabOk P T) {w : World} {t : Nat} {a : Addr} {v : Value} (ht : isAggT T t = some false) (h : w.cell? a = some v) : LoadV P w t a v := ⟨by
  unfold loadVar
  rw [run_bind (isAggT_sound hT ht w)]
  simp [load, Sem.run, h]⟩

theorem LoadV.agg {P : Program} {T : Tab} (hT : TabOk P T) {w : World} {t b o : Nat} {vs : List Value} (ht : isAggT T t = some true) (hn : sizeT T t = some vs.length)
    (h : ∀ j v, vs[j]? = some v → w.cell? ⟨b, o + j, none⟩ = some v) : LoadV P w t ⟨b, o, none⟩ (.agg vs.toArray) := ⟨by
  unfold loadVar
  rw [run_bind (isAggT_sound hT ht w)]
  simp only [if_true]
  rw [run_bind (sizeT_sound hT hn w)]
  have := run_loadCellsFrom (P := P) (w := w) (a := ⟨b, o, none⟩) vs 0 #[] (fun j v hj => by rw [Addr.add_mk, Nat.zero_add]; exact h j v hj)
  unfold loadCells
  rw [run_bind this]
  simp [go_sem]⟩

theorem OpV.load {P : Program} {n : Fi} {env : Env} {o : Oper} {w : World} {v : Value} {t : Nat} {x : Operand} {a : Addr} (ho : o.op = .load t x) (hx : opv env x = some (.pointer (some a))) (h : LoadV P w t a v) : OpV P n env o w v w := ⟨fun ac ha => .inl (by
  unfold execOp
  rw [ho]
  dsimp only
  rw [opv_sound ha hx]
  exact run_v h.out)⟩

/-! ### Results -/

inductive ResL (P : Program) (env : Env) (w : World) : List ResultVar → List Value → Prop where
  | nil : ResL P env w [] []
  | tmp {t : Nat} {v : Value} {rs : List ResultVar} {vs : List Value} (h : env.get t = some v) (k : ResL P env w rs vs) : ResL P env w (.tmp t :: rs) (v :: vs)
  | cell {t ty : Nat} {a : Addr} {v : Value} {rs : List ResultVar} {vs : List Value} (h : env.get t = some (.pointer (some a))) (hl : LoadV P w ty a v) (k : ResL P env w rs vs) : ResL P env w (.cell t ty :: rs) (v :: vs)

def resVal : List Value → Value
  | [v] => v
  | vs => .tuple vs.toArray

/-- What a loop over a function leaves to be done at the end. -/
abbrev markD (D : Nat) : Deferred := { target := .collected D, args := #[] }
structure KEnd (P : Program) (rs : List ResultVar) (R : Value → World → Prop) (n : Fi) (e : Exit) (env : Env) (w : World) : Prop where mk ::
  how : e = .normal ∨ e = .ret
  out : (n.marks = [] ∧ ∃ vs, ResL P env w rs vs ∧ R (resVal vs) w) ∨ ∃ D w', n.marks = [markD D] ∧ (Instr.takeDeferred D).run P w = .ok [] w' ∧ ∃ vs, ResL P env w' rs vs ∧ R (resVal vs) w'
theorem KEnd.fin {P : Program} {rs : List ResultVar} {R : Value → World → Prop} {n : Fi} {e : Exit} {env : Env} {w : World} (how : e = .normal ∨ e = .ret) (out : ∃ vs, ResL P env w rs vs ∧ R (resVal vs) w) (hm : n.marks = [] := by rfl) : KEnd P rs R n e env w := ⟨how, .inl ⟨hm, out⟩⟩

theorem resL_run {P : Program} {env : Env} {w : World} {n : Fi} {a : Act} (ha : Ag n env a) {rs : List ResultVar} {vs : List Value} (h : ResL P env w rs vs) :
    (rs.mapM (fun (r : ResultVar) => (match r with
      | .tmp t => pure (a.tmps.getD t undef)
      | .cell u t => do loadVar t (← asAddr (a.tmps.getD u undef)) : Sem Value))).run P w = .ok vs w := by
  induction h with
  | nil => simp [go_sem]
  | tmp h k ih =>
    rw [List.mapM_cons]
    dsimp only
    rw [ha.get _ _ h, pure_bind, run_bind ih]
    rfl
  | cell h hl k ih =>
    rw [List.mapM_cons]
    dsimp only
    rw [ha.get _ _ h]
    rw [show ∀ a : Addr, asAddr (.pointer (some a)) = pure a from fun _ => rfl, pure_bind, run_bind hl.out, run_bind ih]
    rfl

theorem results_run {P : Program} {fn : Func} {env : Env} {w : World} {n : Fi} {a : Act} (ha : Ag n env a) {rs : List ResultVar} {vs : List Value} (hr : fn.results = rs.toArray) (h : ResL P env w rs vs) :
    (results fn a.tmps).run P w = .ok (resVal vs) w := by
  have h1 := resL_run ha h
  unfold results
  rw [hr]
  have e : (rs.toArray.mapM (fun (r : ResultVar) => (match r with
      | .tmp t => pure (a.tmps.getD t undef)
      | .cell u t => do loadVar t (← asAddr (a.tmps.getD u undef)) : Sem Value))).run P w = .ok vs.toArray w := by
    rw [List.mapM_toArray, map_eq_pure_bind, run_bind h1]
    rfl
  have e2 := run_bind (f := fun vs : Array Value => (pure (if h : vs.size = 1 then vs[0] else .tuple vs) : Sem Value)) e
  refine Eq.trans e2 ?_
  show Result.ok _ w = _
  congr 1
  match vs with
  | [] => rfl
  | [v] => rfl
  | v :: u :: r => simp [resVal]

def envOf : Nat → List Value → Env
  | _, [] => []
  | k, v :: r => (k, v) :: envOf (k + 1) r

theorem envOf_get : ∀ (l : List Value) (k t : Nat) (v : Value), (envOf k l).get t = some v → k ≤ t ∧ l[t - k]? = some v
  | [], _, _, _, h => by cases h
  | u :: r, k, t, v, h => by
    simp only [envOf, Env.get] at h
    cases hq : Nat.beq k t with
    | true =>
      rw [hq] at h
      simp only [cond_true, Option.some.injEq] at h
      have := Nat.eq_of_beq_eq_true hq
      subst this; subst h
      simp
    | false =>
      rw [hq] at h
      obtain ⟨h1, h2⟩ := envOf_get r (k + 1) t v h
      refine ⟨by omega, ?_⟩
      rw [show t - k = (t - (k + 1)) + 1 by omega]
      simpa using h2

/-- A function of the program: its text, its results, how many slots. -/
structure FnOk (P : Program) (f n : Nat) (rs : List ResultVar) (c : Code) : Prop where
  enter : ∀ args w, (callFunc f args).run P w = .ok (.enter f args) w
  text : ∃ fn, P.funcs[f]? = some fn ∧ fn.body = some c ∧ fn.ntmps = n ∧ fn.results = rs.toArray

theorem FnOk.rets {P : Program} {f n : Nat} {rs : List ResultVar} {c : Code} (hf : FnOk P f n rs c) {args : Array Value} {w : World} {R : Value → World → Prop} (hn : Nat.ble args.toList.length n = true)
    (h : Vc P ⟨n, none, []⟩ c (KEnd P rs R) (envOf 0 args.toList) w) : Rets P f args w R := by
  obtain ⟨fn, h1, h2, h3, h4⟩ := hf.text
  have hn' : args.size ≤ n := by simpa using Nat.le_of_ble_eq_true hn
  refine ⟨callsIn_wide.1 (callsIn_of_wp_marks (F := Fence.wide) (n := 0) h1 h2 trivial ?_)⟩
  have hag : Ag ⟨n, none, []⟩ (envOf 0 args.toList) { tmps := args ++ Array.replicate (fn.ntmps - args.size) undef, defers := [] } := by
    refine ⟨by show n ≤ _; rw [h3]; simp; omega, rfl, fun t v ht => ?_⟩
    obtain ⟨_, h5⟩ := envOf_get _ _ _ _ ht
    simp only [Nat.sub_zero, Array.getElem?_toList] at h5
    obtain ⟨h6, h7⟩ := Array.getElem?_eq_some_iff.1 h5
    rw [Array.getD_eq_getD_getElem?, Array.getElem?_append_left h6, h5]
    rfl
  refine wpIn_mono (h.out _ hag) ?_
  intro e a w' hl
  have key : ∀ (m : Fi) (env : Env), Ag m env a → ((m.marks = [] ∧ ∃ vs, ResL P env w' rs vs ∧ R (resVal vs) w') ∨ ∃ D w2, m.marks = [markD D] ∧ (Instr.takeDeferred D).run P w' = .ok [] w2 ∧ ∃ vs, ResL P env w2 rs vs ∧ R (resVal vs) w2) →
      LeavesInM Fence.wide 0 P fn a.tmps (fun e w' => ∃ v, e = .returned v ∧ R v w') a.defers .returning w' := by
    rintro m env hg (⟨hm, vs, hres, hR⟩ | ⟨D, w2, hm, ht, vs, hres, hR⟩)
    · rw [hg.defers, hm]
      exact ⟨_, results_run hg h4 hres, _, rfl, hR⟩
    · rw [hg.defers, hm]
      exact ⟨by simp, .inl ⟨D, w2, rfl, ht, _, results_run hg h4 hres, _, rfl, hR⟩⟩
  cases e with
  | normal => obtain ⟨m, env, hr, hg, ⟨_, hk⟩⟩ := hl; exact key m env hg hk
  | ret => obtain ⟨m, env, hr, hg, ⟨_, hk⟩⟩ := hl; exact key m env hg hk
  | exit i => obtain ⟨m, env, hr, hg, ⟨h, _⟩⟩ := hl; rcases h with h | h <;> cases h
  | goto i => obtain ⟨m, env, hr, hg, ⟨h, _⟩⟩ := hl; rcases h with h | h <;> cases h
  | panic c => exact hl.elim
  | outgrown => exact hl.elim

/-! ### Calls -/

theorem OpC.call {P : Program} {n : Fi} {f m : Nat} {rs : List ResultVar} {c : Code} (hf : FnOk P f m rs c) {env : Env} {w : World} {dst : Option Nat} {xs : Array Operand} {ats : Array Nat} {ty : Nat} {pos : String} {after : Array Edge} {gd : Option (Nat × Bool)} {vs : List Value}
    (hx : opvs env xs.toList = some vs) : OpC P n env { dst, op := .call { callee := .value (.func f), args := xs, argTypes := ats }, type := ty, pos, after, guard := gd } w f vs.toArray := ⟨fun a ha => by
  rw [execOp_call_go, map_opvs ha hx]
  simp only [Array.append_empty, Array.empty_append]
  exact hf.enter _ w⟩

/-- A call of a function value. -/
theorem OpC.callV {P : Program} {n : Fi} {f m : Nat} {rs : List ResultVar} {c : Code} (hf : FnOk P f m rs c) {env : Env} {w : World} {dst : Option Nat} {t : Nat} {xs : Array Operand} {ats : Array Nat} {ty : Nat} {pos : String} {after : Array Edge} {gd : Option (Nat × Bool)} {vs : List Value} {p q : Array Value}
    (ht : env.get t = some (.func (.func f) p q)) (hx : opvs env xs.toList = some vs) : OpC P n env { dst, op := .call { callee := .value (.tmp t), args := xs, argTypes := ats }, type := ty, pos, after, guard := gd } w f (p ++ vs.toArray ++ q) := ⟨fun a ha => by
  show (do let d ← resolve a.eval { callee := .value (.tmp t), args := xs, argTypes := ats } ty; invoke d.target d.args : Sem Next).run P w = _
  have e : resolve a.eval { callee := .value (.tmp t), args := xs, argTypes := ats } ty = pure { target := .fn (.func f) q, args := p ++ vs.toArray } := by
    unfold resolve
    dsimp only
    rw [map_opvs ha hx, show a.eval (.tmp t) = _ from ha.get t _ ht]
    rfl
  rw [e, pure_bind]
  exact hf.enter _ w⟩

/-! ### What lies in memory: parts that do not meet -/

abbrev HL := List (Nat × Obj)
abbrev Asn := HL → Prop

/-- What never changes: some blocks, the outside. -/
structure Imm where
  blk : Nat → Option Obj
  os : Os
  tape : Nat → Question → Nat
  output : Array (Nat × ByteArray)

def Imm.of (w : World) : Imm := ⟨fun b => w.heap[b]?, w.os, w.tape, w.output⟩

def Sat : List Asn → HL → Prop
  | [], _ => True
  | A :: L, h => ∃ h1 h2, h = h1 ++ h2 ∧ A h1 ∧ Sat L h2

structure Own (I : Imm) (w : World) (h : HL) : Prop where
  nodup : (h.map (·.1)).Nodup
  here : ∀ p ∈ h, w.heap[p.1]? = some p.2 ∧ I.blk p.1 = none

structure Holds (I : Imm) (w : World) (L : List Asn) : Prop where
  os : w.os = I.os
  tape : w.tape = I.tape
  output : w.output = I.output
  imm : ∀ b o, I.blk b = some o → w.heap[b]? = some o
  fit : ∃ h, Sat L h ∧ Own I w h

theorem Sat.perm : ∀ {L L' : List Asn}, L.Perm L' → ∀ {h : HL}, Sat L h → ∃ h', h.Perm h' ∧ Sat L' h' := by
  intro L L' p
  induction p with
  | nil => exact fun {h} hs => ⟨h, List.Perm.refl _, hs⟩
  | cons A p ih =>
    rintro h ⟨h1, h2, rfl, ha, hs⟩
    obtain ⟨h', hp, hs'⟩ := ih hs
    exact ⟨h1 ++ h', List.Perm.append_left _ hp, h1, h', rfl, ha, hs'⟩
  | swap A B L =>
    rintro h ⟨h1, h2, rfl, ha, h3, h4, rfl, hb, hs⟩
    refine ⟨h3 ++ (h1 ++ h4), ?_, h3, _, rfl, hb, h1, h4, rfl, ha, hs⟩
    rw [← List.append_assoc, ← List.append_assoc]
    exact List.Perm.append_right _ List.perm_append_comm
  | trans p q ih1 ih2 =>
    intro h hs
    obtain ⟨h', hp, hs'⟩ := ih1 hs
    obtain ⟨h'', hq, hs''⟩ := ih2 hs'
    exact ⟨h'', hp.trans hq, hs''⟩

theorem Own.perm {I : Imm} {w : World} {h h' : HL} (o : Own I w h) (p : h.Perm h') : Own I w h' :=
  ⟨(p.map _).nodup_iff.1 o.nodup, fun q hq => o.here q (p.mem_iff.2 hq)⟩

theorem Holds.perm {I : Imm} {w : World} {L L' : List Asn} (h : Holds I w L) (p : L.Perm L') : Holds I w L' := by
  obtain ⟨k, hs, ho⟩ := h.fit
  obtain ⟨k', hp, hs'⟩ := Sat.perm p hs
  exact ⟨h.os, h.tape, h.output, h.imm, k', hs', ho.perm hp⟩

/-- Number i comes to the front. -/
def pick : List Asn → Nat → Option (Asn × List Asn)
  | [], _ => none
  | A :: L, 0 => some (A, L)
  | A :: L, n + 1 => match pick L n with
    | some (B, M) => some (B, A :: M)
    | none => none
theorem pick_perm : ∀ {L : List Asn} {n : Nat} {A : Asn} {M : List Asn}, pick L n = some (A, M) → L.Perm (A :: M)
  | [], _, _, _, h => by cases h
  | B :: L, 0, A, M, h => by simp only [pick, Option.some.injEq, Prod.mk.injEq] at h; rw [h.1, h.2]
  | B :: L, n + 1, A, M, h => by
    unfold pick at h
    split at h
    · rename_i C N hc
      simp only [Option.some.injEq, Prod.mk.injEq] at h
      obtain ⟨rfl, rfl⟩ := h
      exact ((pick_perm hc).cons B).trans (List.Perm.swap _ _ _)
    · cases h
theorem Holds.front {I : Imm} {w : World} {L M : List Asn} {A : Asn} (h : Holds I w L) (n : Nat) (hp : pick L n = some (A, M)) : Holds I w (A :: M) := h.perm (pick_perm hp)
theorem Holds.swap {I : Imm} {w : World} {L : List Asn} {A B : Asn} (h : Holds I w (A :: B :: L)) : Holds I w (B :: A :: L) := h.perm (List.Perm.swap _ _ _)

theorem Holds.drop {I : Imm} {w : World} {L : List Asn} {A : Asn} (h : Holds I w (A :: L)) : Holds I w L := by
  obtain ⟨k, ⟨h1, h2, rfl, _, hs⟩, ho⟩ := h.fit
  refine ⟨h.os, h.tape, h.output, h.imm, h2, hs, ?_, fun p hp => ho.here p (List.mem_append_right _ hp)⟩
  have := ho.nodup
  rw [List.map_append] at this
  exact (List.nodup_append.1 this).2.1

theorem Holds.weaken {I : Imm} {w : World} {L : List Asn} {A B : Asn} (h : Holds I w (A :: L)) (hab : ∀ k, A k → B k) : Holds I w (B :: L) := by
  obtain ⟨k, ⟨h1, h2, rfl, ha, hs⟩, ho⟩ := h.fit
  exact ⟨h.os, h.tape, h.output, h.imm, h1 ++ h2, ⟨h1, h2, rfl, hab _ ha, hs⟩, ho⟩

/-- Two parts as one. -/
def star (A B : Asn) : Asn := fun h => ∃ h1 h2, h = h1 ++ h2 ∧ A h1 ∧ B h2
def ex {α : Type} (f : α → Asn) : Asn := fun h => ∃ x, f x h
def fact (p : Prop) (A : Asn) : Asn := fun h => p ∧ A h
def emp : Asn := fun h => h = []

theorem Holds.star {I : Imm} {w : World} {L : List Asn} {A B : Asn} : Holds I w (star A B :: L) ↔ Holds I w (A :: B :: L) := by
  constructor
  · rintro ⟨h1, h2, h3, h4, k, ⟨_, k3, rfl, ⟨k1, k2, rfl, ha, hb⟩, hs⟩, ho⟩
    exact ⟨h1, h2, h3, h4, k1 ++ (k2 ++ k3), ⟨k1, _, rfl, ha, k2, k3, rfl, hb, hs⟩, by rw [← List.append_assoc]; exact ho⟩
  · rintro ⟨h1, h2, h3, h4, k, ⟨k1, _, rfl, ha, k2, k3, rfl, hb, hs⟩, ho⟩
    exact ⟨h1, h2, h3, h4, (k1 ++ k2) ++ k3, ⟨_, k3, rfl, ⟨k1, k2, rfl, ha, hb⟩, hs⟩, by rw [List.append_assoc]; exact ho⟩
theorem Holds.ex {I : Imm} {w : World} {L : List Asn} {α : Type} {f : α → Asn} : Holds I w (ex f :: L) ↔ ∃ x, Holds I w (f x :: L) := by
  constructor
  · rintro ⟨h1, h2, h3, h4, k, ⟨k1, k2, rfl, ⟨x, hx⟩, hs⟩, ho⟩
    exact ⟨x, h1, h2, h3, h4, k1 ++ k2, ⟨k1, k2, rfl, hx, hs⟩, ho⟩
  · rintro ⟨x, h1, h2, h3, h4, k, ⟨k1, k2, rfl, hx, hs⟩, ho⟩
    exact ⟨h1, h2, h3, h4, k1 ++ k2, ⟨k1, k2, rfl, ⟨x, hx⟩, hs⟩, ho⟩
theorem Holds.fact {I : Imm} {w : World} {L : List Asn} {p : Prop} {A : Asn} : Holds I w (fact p A :: L) ↔ p ∧ Holds I w (A :: L) := by
  constructor
  · rintro ⟨h1, h2, h3, h4, k, ⟨k1, k2, rfl, ⟨hp, hx⟩, hs⟩, ho⟩
    exact ⟨hp, h1, h2, h3, h4, k1 ++ k2, ⟨k1, k2, rfl, hx, hs⟩, ho⟩
  · rintro ⟨hp, h1, h2, h3, h4, k, ⟨k1, k2, rfl, hx, hs⟩, ho⟩
    exact ⟨h1, h2, h3, h4, k1 ++ k2, ⟨k1, k2, rfl, ⟨hp, hx⟩, hs⟩, ho⟩
theorem Holds.emp {I : Imm} {w : World} {L : List Asn} : Holds I w (emp :: L) ↔ Holds I w L := by
  constructor
  · exact Holds.drop
  · rintro ⟨h1, h2, h3, h4, k, hs, ho⟩
    exact ⟨h1, h2, h3, h4, k, ⟨[], k, rfl, rfl, hs⟩, ho⟩

/-- A block of cells. -/
structure blk (b : Nat) (e : Nat) (cs : List Value) (h : HL) : Prop where mk ::
  out : ∃ fr : Nat × Nat, (∀ i, i < cs.length → ¬ (fr.1 ≤ i ∧ i < fr.2)) ∧ h = [(b, .cells cs.toArray e fr)]
/-- A block of whatever kind. -/
structure pt (b : Nat) (o : Obj) (h : HL) : Prop where mk ::
  out : h = [(b, o)]

theorem Holds.pt {I : Imm} {w : World} {L : List Asn} {b : Nat} {o : Obj} (h : Holds I w (pt b o :: L)) : w.heap[b]? = some o := by
  obtain ⟨k, ⟨h1, h2, rfl, ⟨rfl⟩, hs⟩, ho⟩ := h.fit
  exact (ho.here (b, o) (by simp)).1

/-- A block is put anew. -/
theorem Holds.put {I : Imm} {w w' : World} {L : List Asn} {b : Nat} {o o' : Obj} (h : Holds I w (Go.Proofs.YtpfgcchammlpgaaV.pt b o :: L)) (h1 : w'.os = w.os) (h2 : w'.tape = w.tape) (h3 : w'.output = w.output)
    (hb : w'.heap[b]? = some o') (hk : ∀ c, c ≠ b → w'.heap[c]? = w.heap[c]?) : Holds I w' (Go.Proofs.YtpfgcchammlpgaaV.pt b o' :: L) := by
  obtain ⟨k, ⟨k1, k2, rfl, ⟨rfl⟩, hs⟩, ho⟩ := h.fit
  have hbn := (ho.here (b, o) (by simp)).2
  have hnd := ho.nodup
  simp only [List.singleton_append, List.map_cons, List.nodup_cons] at hnd
  refine ⟨h1.trans h.os, h2.trans h.tape, h3.trans h.output, fun c x hc => ?_, [(b, o')] ++ k2, ⟨_, k2, rfl, ⟨rfl⟩, hs⟩, ?_, fun p hp => ?_⟩
  · rw [hk c (fun e => by subst e; rw [hbn] at hc; cases hc)]; exact h.imm c x hc
  · simpa using hnd
  · rcases List.mem_append.1 hp with hp | hp
    · simp only [List.mem_singleton] at hp; subst hp; exact ⟨hb, hbn⟩
    · obtain ⟨h5, h6⟩ := ho.here p (List.mem_append_right _ hp)
      refine ⟨?_, h6⟩
      rw [hk p.1 (fun e => hnd.1 (e ▸ List.mem_map_of_mem hp))]; exact h5

theorem Holds.blk_pt {I : Imm} {w : World} {L : List Asn} {b e : Nat} {cs : List Value} (h : Holds I w (blk b e cs :: L)) : ∃ fr : Nat × Nat, (∀ i, i < cs.length → ¬ (fr.1 ≤ i ∧ i < fr.2)) ∧ Holds I w (Go.Proofs.YtpfgcchammlpgaaV.pt b (.cells cs.toArray e fr) :: L) := by
  obtain ⟨h1, h2, h3, h4, k, ⟨k1, k2, rfl, ⟨fr, hf, hx⟩, hs⟩, ho⟩ := h
  exact ⟨fr, hf, h1, h2, h3, h4, k1 ++ k2, ⟨k1, k2, rfl, ⟨hx⟩, hs⟩, ho⟩
theorem Holds.of_pt {I : Imm} {w : World} {L : List Asn} {b e : Nat} {cs : List Value} {fr : Nat × Nat} (hf : ∀ i, i < cs.length → ¬ (fr.1 ≤ i ∧ i < fr.2)) (h : Holds I w (Go.Proofs.YtpfgcchammlpgaaV.pt b (.cells cs.toArray e fr) :: L)) : Holds I w (blk b e cs :: L) := by
  obtain ⟨h1, h2, h3, h4, k, ⟨k1, k2, rfl, ⟨hx⟩, hs⟩, ho⟩ := h
  exact ⟨h1, h2, h3, h4, k1 ++ k2, ⟨k1, k2, rfl, ⟨fr, hf, hx⟩, hs⟩, ho⟩

theorem Holds.cell {I : Imm} {w : World} {L : List Asn} {b e i : Nat} {cs : List Value} {v : Value} (h : Holds I w (blk b e cs :: L)) (hi : cs[i]? = some v) : w.cell? ⟨b, i, none⟩ = some v := by
  obtain ⟨fr, _, h'⟩ := h.blk_pt
  simp [World.cell?, h'.pt, hi]
theorem Holds.thaw {I : Imm} {w : World} {L : List Asn} {b e i : Nat} {cs : List Value} (h : Holds I w (blk b e cs :: L)) (hi : i < cs.length) : w.frozen? ⟨b, i, none⟩ = false := by
  obtain ⟨fr, hf, h'⟩ := h.blk_pt
  have := hf i hi
  simp only [World.frozen?, h'.pt, Bool.and_eq_false_iff, decide_eq_false_iff_not]
  omega
theorem Holds.block_lt {I : Imm} {w : World} {L : List Asn} {b : Nat} {o : Obj} (h : Holds I w (Go.Proofs.YtpfgcchammlpgaaV.pt b o :: L)) : b < w.heap.size := (Array.getElem?_eq_some_iff.1 h.pt).1

theorem Holds.set {I : Imm} {w : World} {L : List Asn} {b e i : Nat} {cs : List Value} (h : Holds I w (blk b e cs :: L)) (hi : i < cs.length) (v : Value) : Holds I (w.setCell ⟨b, i, none⟩ v) (blk b e (cs.set i v) :: L) := by
  obtain ⟨fr, hf, h'⟩ := h.blk_pt
  refine Holds.of_pt (fr := fr) (fun j hj => hf j (by simpa using hj)) (h'.put rfl rfl rfl ?_ fun c hc => ?_)
  · simp [World.setCell, Array.getElem?_modify, h'.pt]
  · exact Below.heap_setCell _ _ _ _ hc

theorem Holds.alloc {I : Imm} {w : World} {L : List Asn} (h : Holds I w L) (o : Obj) : Holds I (w.alloc o) (Go.Proofs.YtpfgcchammlpgaaV.pt w.heap.size o :: L) := by
  obtain ⟨k, hs, ho⟩ := h.fit
  have hlt : ∀ b x, w.heap[b]? = some x → b < w.heap.size := fun b x hx => (Array.getElem?_eq_some_iff.1 hx).1
  refine ⟨h.os, h.tape, h.output, fun b x hx => ?_, [(w.heap.size, o)] ++ k, ⟨_, k, rfl, ⟨rfl⟩, hs⟩, ?_, fun p hp => ?_⟩
  · rw [Below.heap_alloc _ _ _ (hlt b x (h.imm b x hx))]; exact h.imm b x hx
  · simp only [List.singleton_append, List.map_cons, List.nodup_cons]
    refine ⟨fun hm => ?_, ho.nodup⟩
    obtain ⟨p, hp, he⟩ := List.mem_map.1 hm
    have := hlt p.1 p.2 (ho.here p hp).1
    omega
  · rcases List.mem_append.1 hp with hp | hp
    · simp only [List.mem_singleton] at hp
      subst hp
      refine ⟨by show (w.heap.push o)[w.heap.size]? = some o; simp, ?_⟩
      cases hi : I.blk w.heap.size with
      | none => rfl
      | some x => have := hlt _ _ (h.imm _ _ hi); omega
    · obtain ⟨h5, h6⟩ := ho.here p hp
      refine ⟨?_, h6⟩
      rw [Below.heap_alloc _ _ _ (hlt _ _ h5)]; exact h5

theorem Holds.allocBlk {I : Imm} {w : World} {L : List Asn} (h : Holds I w L) (cs : List Value) (e : Nat) : Holds I (w.alloc (.cells cs.toArray e)) (blk w.heap.size e cs :: L) :=
  Holds.of_pt (by intro i _; simp) (h.alloc _)

theorem Holds.drew {I : Imm} {w : World} {L : List Asn} (h : Holds I w L) (d : Nat) : Holds I { w with drawn := d } L :=
  ⟨h.os, h.tape, h.output, h.imm, h.fit.imp fun k hk => ⟨hk.1, hk.2.nodup, hk.2.here⟩⟩

/-- At the beginning of a call from outside. -/
theorem Holds.begin (w : World) : Holds (Imm.of w) w [] := ⟨rfl, rfl, rfl, fun _ _ h => h, [], trivial, by simp, by simp⟩
theorem Holds.below {w w' : World} {L : List Asn} (h : Holds (Imm.of w) w' L) : Below w.heap.size w w' := by
  have hb : ∀ k, k < w.heap.size → w'.heap[k]? = w.heap[k]? := fun k hk => by
    have h1 : w.heap[k]? = some w.heap[k] := Array.getElem?_eq_getElem hk
    rw [h1]
    exact h.imm k _ h1
  refine ⟨h.os, h.tape, h.output, ?_, hb⟩
  rcases Nat.eq_zero_or_pos w.heap.size with h0 | h0
  · omega
  · have := hb (w.heap.size - 1) (by omega)
    rw [Array.getElem?_eq_getElem (show w.heap.size - 1 < w.heap.size by omega)] at this
    obtain ⟨h3, _⟩ := Array.getElem?_eq_some_iff.1 this
    omega
/-- A block that never changes reads as it did. -/
theorem Holds.immCell {I : Imm} {w : World} {L : List Asn} (h : Holds I w L) {b : Nat} {cs : Array Value} {e : Nat} {fr : Nat × Nat} (hb : I.blk b = some (.cells cs e fr)) {i : Nat} {v : Value} (hi : cs[i]? = some v) : w.cell? ⟨b, i, none⟩ = some v := by
  simp [World.cell?, h.imm _ _ hb, hi]

theorem cell_of_heap {w w' : World} (h : w'.heap = w.heap) {a : Addr} : w'.cell? a = w.cell? a := by unfold World.cell?; rw [h]

theorem LoadV.aggH {P : Program} {T : Tab} (hT : TabOk P T) {I : Imm} {w : World} {L : List Asn} {t b o e : Nat} {cs vs : List Value} (ht : isAggT T t = some true) {m : Nat} (hn : sizeT T t = some m)
    (H : Holds I w (blk b e cs :: L)) (hs : sub cs o m = some vs) : LoadV P w t ⟨b, o, none⟩ (.agg vs.toArray) := by
  have h1 := sub_eq hs
  have h2 : vs.length = m := by
    unfold sub at hs
    cases hd : dropF cs o with
    | none => rw [hd] at hs; cases hs
    | some r =>
      rw [hd] at hs
      obtain ⟨h3, h4⟩ := takeF_eq hs
      rw [h3, List.length_take]; omega
  subst h2
  refine LoadV.agg hT ht hn fun j v hj => H.cell ?_
  rw [h1, List.getElem?_take] at hj
  split at hj
  · rwa [List.getElem?_drop] at hj
  · cases hj
theorem Holds.f1 {I : Imm} {w : World} {L : List Asn} {A B : Asn} (h : Holds I w (A :: B :: L)) : Holds I w (B :: A :: L) := h.front 1 rfl
theorem Holds.f2 {I : Imm} {w : World} {L : List Asn} {A B C : Asn} (h : Holds I w (A :: B :: C :: L)) : Holds I w (C :: A :: B :: L) := h.front 2 rfl
theorem Holds.f3 {I : Imm} {w : World} {L : List Asn} {A B C D : Asn} (h : Holds I w (A :: B :: C :: D :: L)) : Holds I w (D :: A :: B :: C :: L) := h.front 3 rfl
theorem Holds.f4 {I : Imm} {w : World} {L : List Asn} {A B C D E : Asn} (h : Holds I w (A :: B :: C :: D :: E :: L)) : Holds I w (E :: A :: B :: C :: D :: L) := h.front 4 rfl
theorem Holds.f5 {I : Imm} {w : World} {L : List Asn} {A B C D E F : Asn} (h : Holds I w (A :: B :: C :: D :: E :: F :: L)) : Holds I w (F :: A :: B :: C :: D :: E :: L) := h.front 5 rfl
theorem Holds.f6 {I : Imm} {w : World} {L : List Asn} {A B C D E F G : Asn} (h : Holds I w (A :: B :: C :: D :: E :: F :: G :: L)) : Holds I w (G :: A :: B :: C :: D :: E :: F :: L) := h.front 6 rfl
theorem Holds.f7 {I : Imm} {w : World} {L : List Asn} {A B C D E F G J : Asn} (h : Holds I w (A :: B :: C :: D :: E :: F :: G :: J :: L)) : Holds I w (J :: A :: B :: C :: D :: E :: F :: G :: L) := h.front 7 rfl
theorem Holds.f8 {I : Imm} {w : World} {L : List Asn} {A B C D E F G J K : Asn} (h : Holds I w (A :: B :: C :: D :: E :: F :: G :: J :: K :: L)) : Holds I w (K :: A :: B :: C :: D :: E :: F :: G :: J :: L) := h.front 8 rfl
theorem Holds.drop1 {I : Imm} {w : World} {L : List Asn} {A X : Asn} (h : Holds I w (A :: X :: L)) : Holds I w (A :: L) := h.f1.drop
theorem Holds.drop2 {I : Imm} {w : World} {L : List Asn} {A B X : Asn} (h : Holds I w (A :: B :: X :: L)) : Holds I w (A :: B :: L) := h.f2.drop
theorem Holds.drop3 {I : Imm} {w : World} {L : List Asn} {A B C X : Asn} (h : Holds I w (A :: B :: C :: X :: L)) : Holds I w (A :: B :: C :: L) := h.f3.drop
theorem Holds.drop4 {I : Imm} {w : World} {L : List Asn} {A B C D X : Asn} (h : Holds I w (A :: B :: C :: D :: X :: L)) : Holds I w (A :: B :: C :: D :: L) := h.f4.drop
end Go.Proofs.YtpfgcchammlpgaaV
