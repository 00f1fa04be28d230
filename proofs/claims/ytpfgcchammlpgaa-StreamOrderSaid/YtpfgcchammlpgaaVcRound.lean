import Derived.Test.YtpfgcchammlpgaaVcRow
import Derived.RangeFuncSeq
import Derived.RangeFuncIn
set_option linter.unusedVariables false
set_option linter.unusedSimpArgs false
/- Loops over a function: rounds, and what calls them. -/
namespace Go.Proofs.YtpfgcchammlpgaaV
open Go Go.RowKit Go.BigFrame

theorem Holds.putPt {I : Imm} {w : World} {L : List Asn} {b : Nat} {o : Obj} (o' : Obj) (H : Holds I w (Go.Proofs.YtpfgcchammlpgaaV.pt b o :: L)) : Holds I (w.putObj b o') (Go.Proofs.YtpfgcchammlpgaaV.pt b o' :: L) :=
  H.put rfl rfl rfl (World.putObj_heap_same H.block_lt) fun r hr => World.putObj_heap_other hr

theorem Holds.left {I : Imm} {w : World} {L : List Asn} : ∀ {U : List Asn}, Holds I w (L ++ U) → Holds I w L := fun {U} h => by
  have h2 : Holds I w (U ++ L) := h.perm List.perm_append_comm
  clear h
  induction U with
  | nil => exact h2
  | cons A U ih => exact ih h2.drop

/-- What a round tells who called it: whether to go on. -/
structure Turns (P : Program) (l : Nat) (args : Array Value) (w : World) (R : Bool → World → Prop) : Prop where mk ::
  out : YieldAt Fence.wide 0 P l args w fun e w' => ∃ b, e = .returned (.bool b) ∧ R b w'
theorem yieldAt_mono {F : Fence} {m : Nat} {P : Program} {l : Nat} {args : Array Value} {W : World} {R R' : Ending → World → Prop} (h : YieldAt F m P l args W R) (hr : ∀ e w, R e w → R' e w) : YieldAt F m P l args W R' := by
  obtain ⟨fn, tmps, assign, body, h1, h2⟩ := h
  exact ⟨fn, tmps, assign, body, h1, h2.mono hr⟩
theorem Turns.mono {P : Program} {l : Nat} {args : Array Value} {w : World} {R R' : Bool → World → Prop} (h : Turns P l args w R) (hr : ∀ b w', R b w' → R' b w') : Turns P l args w R' :=
  ⟨yieldAt_mono h.out fun e w' ⟨b, e1, h1⟩ => ⟨b, e1, hr b w' h1⟩⟩

section
variable {P : Program} {T : Tab} {n : Fi} {ops : Array Oper} {K : Kont} {G : Gds} {env : Env} {w : World} {rest : List Oper} {dst : Nat} {ty : Nat} {pos : String} {after : Array Edge} {gd : Option (Nat × Bool)}

/-- The call of a round. -/
theorem VcL.yield {t l : Nat} {xs : Array Operand} {ats : Array Nat} {vs : List Value} (hr : n.round = none) (ht : env.get t = some (.func (.yield l) #[] #[])) (hx : opvs env xs.toList = some vs)
    (hg : gres ops G ⟨some dst, .call { callee := .value (.tmp t), args := xs, argTypes := ats }, ty, pos, after, gd⟩ = some true) (hn : inN n (some dst) = true) (ho : outG G (some dst) = true)
    (k : Turns P l vs.toArray w fun b w' => VcL P n ops K rest G ((dst, .bool b) :: env) w') : VcL P n ops K (⟨some dst, .call { callee := .value (.tmp t), args := xs, argTypes := ats }, ty, pos, after, gd⟩ :: rest) G env w := ⟨fun a ha hG => by
  unfold wpListIn
  rw [if_pos (gres_sound ha hG hg)]
  obtain ⟨fn, tmps, assign, body, hy, hR⟩ := k.out
  have hf : n.fence = Fence.wide := by unfold Fi.fence; rw [hr]; rfl
  have e : (execOp a.eval ⟨some dst, .call { callee := .value (.tmp t), args := xs, argTypes := ats }, ty, pos, after, gd⟩).run P w = .ok (.round l fn tmps assign body) w := by
    show (do let d ← resolve a.eval { callee := .value (.tmp t), args := xs, argTypes := ats } ty; invoke d.target d.args : Sem Next).run P w = _
    have e : resolve a.eval { callee := .value (.tmp t), args := xs, argTypes := ats } ty = pure { target := .fn (.yield l) #[], args := #[] ++ vs.toArray } := by
      unfold resolve
      dsimp only
      rw [map_opvs ha hx, show a.eval (.tmp t) = _ from ha.get t _ ht]
      rfl
    rw [e, pure_bind]
    have e2 : (#[] ++ vs.toArray ++ #[] : Array Value) = vs.toArray := by simp
    show (Instr.yield l (#[] ++ vs.toArray ++ #[])).run P w = _
    rw [e2]
    exact hy
  refine ⟨fun _ _ => trivial, ?_⟩
  rw [Oper.semAt_eq _ _ _ (fun c hc => by cases hc), e, hf]
  refine ⟨fun h => (by cases h), hR.mono ?_⟩
  rintro e w' ⟨b, rfl, hk⟩
  have := hk.out _ (ha.put hn (.bool b)) (hG.put ho (.bool b))
  rw [hf] at this
  exact this⟩
end

/-- Behind the assignments of a round: whatever the record of the loop is then, the body. -/
structure KAsg (P : Program) (body : Code) (R : List Asn → Kont) (U : List Asn) (n : Fi) (e : Exit) (env : Env) (w : World) : Prop where mk ::
  out : e = .normal ∧ ∃ I L, Holds I w (L ++ U) ∧ ∀ U' w', Holds I w' (L ++ U') → Vc P n body (R U') env w'
/-- Behind a round. -/
structure KRound {σ : Type} (Im : σ → Imm) (X : σ → List Asn) (φ ψ : σ → Prop) (U : List Asn) (n : Fi) (e : Exit) (env : Env) (w : World) : Prop where mk ::
  out : match e with
    | .normal => ∃ s, φ s ∧ Holds (Im s) w (X s ++ U)
    | .ret => ∃ s, ψ s ∧ Holds (Im s) w (X s ++ U)
    | _ => False
section
variable {P : Program} {σ : Type} {Im : σ → Imm} {X : σ → List Asn} {φ ψ : σ → Prop} {U : List Asn} {n : Fi} {env : Env} {w : World}
theorem KRound.normal (s : σ) (h : φ s) (H : Holds (Im s) w (X s ++ U)) : KRound Im X φ ψ U n .normal env w := ⟨s, h, H⟩
theorem KRound.ret (s : σ) (h : ψ s) (H : Holds (Im s) w (X s ++ U)) : KRound Im X φ ψ U n .ret env w := ⟨s, h, H⟩
theorem KAsg.go {body : Code} {R : List Asn → Kont} {I : Imm} {L : List Asn} (H : Holds I w (L ++ U)) (h : ∀ U' w', Holds I w' (L ++ U') → Vc P n body (R U') env w') : KAsg P body R U n .normal env w := ⟨rfl, I, L, H, h⟩

def zipE : List Nat → List Value → Env → Env
  | p :: ps, v :: vs, env => zipE ps vs ((p, v) :: env)
  | _, _, env => env
theorem zipE_ag {n : Fi} : ∀ (ps : List Nat) (vs : List Value) (env : Env) (a : Act), Ag n env a → (ps.all fun p => Nat.blt p n.size) = true →
    Ag n (zipE ps vs env) { a with tmps := (ps.zip vs).foldl (fun t (p, v) => t.setIfInBounds p v) a.tmps }
  | [], vs, env, a, h, hp => by
    cases vs <;> exact h
  | p :: ps, [], env, a, h, hp => h
  | p :: ps, v :: vs, env, a, h, hp => by
    rw [List.all_cons, Bool.and_eq_true] at hp
    have h2 := h.put (d := some p) hp.1 v
    exact zipE_ag ps vs _ _ h2 hp.2

/-- A loop over a function: what is known ahead of each round, and what is left behind them. -/
theorem Vc.range {K : Kont} {t f N : Nat} {caps : Array Value} {ps : List Nat} {assign body : Code} {args : Nat → List Value} (φ : Nat → σ → Prop) (ψ : σ → Prop) (Im : σ → Imm) (X : σ → List Asn) (s0 : σ)
    (hr : n.round = none) (hm : n.marks = []) (hg : env.get t = some (.func (.func f) #[] caps)) (hf : ∀ args w, (callFunc f args).run P w = .ok (.enter f args) w)
    (hps : (ps.all fun p => Nat.blt p n.size) = true) (hlen : ∀ k, (args k).length = ps.length)
    (h0 : φ 0 s0) (H : Holds (Im s0) w (X s0))
    (hit : ∀ (l : Nat) (J : Nat → World → Prop) (Jx : World → Prop) w1, (∀ k w, J k w → ∃ s U, φ k s ∧ Holds (Im s) w (X s ++ U)) → (∀ k w, k < N → J k w → Turns P l (args k).toArray w fun b w' => if b then J (k + 1) w' else Jx w') → J 0 w1 →
      Rets P f (#[.func (.yield l) #[] #[]] ++ caps) w1 fun _ w' => J N w' ∨ Jx w')
    (hround : ∀ l k s U w, k < N → φ k s → Holds (Im s) w (X s ++ U) → Vc P ⟨n.size, some l, []⟩ assign (KAsg P body (fun U => KRound Im X (φ (k + 1)) ψ U) U) (zipE ps (args k) env) w)
    (hdone : ∀ D s w, φ N s → Holds (Im s) w (Go.Proofs.YtpfgcchammlpgaaV.pt D (.deferred (some [])) :: X s) → K ⟨n.size, none, [markD D]⟩ .normal env w)
    (hstop : ∀ D s w, ψ s → Holds (Im s) w (Go.Proofs.YtpfgcchammlpgaaV.pt D (.deferred (some [])) :: X s) → K ⟨n.size, none, [markD D]⟩ .ret env w) :
    Vc P n (.rangeFunc (.tmp t) ps.toArray assign body) K env w := ⟨fun a ha => by
  have hfe : n.fence = Fence.wide := by unfold Fi.fence; rw [hr]; rfl
  rw [hfe, hr]
  refine wpIn_rangeFunc fun fn hfn => ?_
  have hgv := ha.get t _ hg
  obtain ⟨rec, hrec⟩ : ∃ rec : LoopState → Option Code → Loop, rec = fun st pe => { state := st, pending := pe, fn, tmps := a.tmps, params := ps.toArray, assign, body, defers := w.heap.size } := ⟨_, rfl⟩
  obtain ⟨B, hB⟩ : ∃ B : LoopState → Option Code → List Asn, B = fun st pe => [Go.Proofs.YtpfgcchammlpgaaV.pt (w.heap.size + 1) (.loop (rec st pe)), Go.Proofs.YtpfgcchammlpgaaV.pt w.heap.size (.deferred (some []))] := ⟨_, rfl⟩
  have hH1 : Holds (Im s0) ((w.alloc (.deferred (some []))).alloc (.loop (rec .ready none))) (X s0 ++ B .ready none) := by
    have h1 := (H.alloc (.deferred (some []))).alloc (.loop (rec .ready none))
    rw [World.size_alloc] at h1
    rw [hB]
    exact h1.perm (List.perm_append_comm (l₁ := [_, _]))
  refine ⟨w.heap.size + 1, [markD w.heap.size], (w.alloc (.deferred (some []))).alloc (.loop (rec .ready none)), { target := .fn (.func f) caps, args := #[.func (.yield (w.heap.size + 1)) #[] #[]] }, (w.alloc (.deferred (some []))).alloc (.loop (rec .ready none)), f,
    #[.func (.yield (w.heap.size + 1)) #[] #[]] ++ caps, (w.alloc (.deferred (some []))).alloc (.loop (rec .ready none)), ?_, ?_, fun f' _ => trivial, ?_, fun h => (by cases h), ?_⟩
  · rw [hrec]
    exact run_enterLoop_outer _ _ _ _ _
  · have : a.eval (.tmp t) = .func (.func f) #[] caps := hgv
    simp only [resolve, this]
    simp [go_sem, Act.eval]
  · simp [invoke, go_sem, hf]
  · have hl : ∀ {I L w'} st pe, Holds I w' (L ++ B st pe) → w'.heap[w.heap.size + 1]? = some (.loop (rec st pe)) := fun {I L w'} st pe h => by
      rw [hB] at h
      exact (h.perm (List.perm_append_comm (l₂ := [_, _]))).pt
    have hp : ∀ {I L w'} st pe st' pe', Holds I w' (L ++ B st pe) → Holds I (w'.putObj (w.heap.size + 1) (.loop (rec st' pe'))) (L ++ B st' pe') := fun {I L w'} st pe st' pe' h => by
      rw [hB] at h ⊢
      exact ((h.perm (List.perm_append_comm (l₂ := [_, _]))).putPt _).perm (List.perm_append_comm (l₁ := [_, _]))
    refine callsIn_wide.2 (Calls.mono (hit (w.heap.size + 1) (fun k W => ∃ s, φ k s ∧ Holds (Im s) W (X s ++ B .ready none)) (fun W => ∃ s, ψ s ∧ Holds (Im s) W (X s ++ B .done (some .ret))) _
      (fun k W ⟨s, h1, h2⟩ => ⟨s, _, h1, h2⟩) ?_ ⟨s0, h0, hH1⟩).out ?_)
    · rintro k W hk ⟨s, hs, HW⟩
      refine ⟨fn, (ps.zip (args k)).foldl (fun t (p, v) => t.setIfInBounds p v) a.tmps, assign, body, ?_, ?_⟩
      · have := run_yield (P := P) (args := (args k).toArray) (hl _ _ HW) (by rw [hrec]; simp [hlen])
        rw [hrec] at this
        dsimp only at this
        rw [List.zip_toArray, List.foldl_toArray] at this
        exact this
      · refine roundIn_of_wpIn hfn ?_
        have hag : Ag ⟨n.size, some (w.heap.size + 1), []⟩ env { tmps := a.tmps, defers := [] } := ⟨ha.size, rfl, ha.get⟩
        have hz := zipE_ag ps (args k) env _ hag hps
        have hv := (hround (w.heap.size + 1) k s _ W hk hs HW).out _ hz
        refine wpIn_mono hv ?_
        rintro e a1 W1 hlft
        cases e with
        | normal =>
          obtain ⟨m, env1, hmr, hag1, ⟨_, I', L', HW1, hb⟩⟩ := hlft
          refine ⟨_, run_beginRound (hl _ _ HW1) (by rw [hrec]), ?_⟩
          have HW2 := hp .ready none .busy none HW1
          have hv2 := (hb _ _ HW2).out _ hag1
          have hfe2 : m.fence = Fence.wide.inRound (w.heap.size + 1) := by unfold Fi.fence; rw [hmr]; rfl
          rw [hfe2] at hv2
          have hbeg : { rec .ready none with state := .busy } = rec .busy none := by rw [hrec]
          rw [hbeg]
          refine wpIn_mono hv2 ?_
          rintro e a2 W3 hlft2
          cases e with
          | normal =>
            obtain ⟨m2, env2, _, _, ⟨s', hs', HW3⟩⟩ := hlft2
            refine ⟨_, _, run_endRound none (hl _ _ HW3), true, rfl, ?_⟩
            have := hp .busy none .ready none HW3
            exact ⟨s', hs', by rw [hrec] at this ⊢; exact this⟩
          | ret =>
            obtain ⟨m2, env2, _, _, ⟨s', hs', HW3⟩⟩ := hlft2
            refine ⟨_, _, run_endRound (some .ret) (hl _ _ HW3), false, rfl, ?_⟩
            have := hp .busy none .done (some .ret) HW3
            exact ⟨s', hs', by rw [hrec] at this ⊢; exact this⟩
          | exit i => obtain ⟨m2, env2, _, _, ⟨h⟩⟩ := hlft2; exact h.elim
          | goto i => obtain ⟨m2, env2, _, _, ⟨h⟩⟩ := hlft2; exact h.elim
          | panic c => exact hlft2.elim
          | outgrown => exact hlft2.elim
        | exit i => obtain ⟨m, env1, hmr, hag1, ⟨h, _⟩⟩ := hlft; cases h
        | goto i => obtain ⟨m, env1, hmr, hag1, ⟨h, _⟩⟩ := hlft; cases h
        | ret => obtain ⟨m, env1, hmr, hag1, ⟨h, _⟩⟩ := hlft; cases h
        | panic c => exact hlft.elim
        | outgrown => exact hlft.elim
    · rintro e W2 ⟨v, rfl, hk⟩
      have hag2 : Ag ⟨n.size, none, [markD w.heap.size]⟩ env { a with defers := [markD w.heap.size] ++ a.defers } := ⟨ha.size, by show [markD w.heap.size] ++ a.defers = _; rw [ha.defers, hm]; rfl, ha.get⟩
      have fin : ∀ {st pe s W}, Holds (Im s) W (X s ++ B st pe) → Holds (Im s) W (Go.Proofs.YtpfgcchammlpgaaV.pt w.heap.size (.deferred (some [])) :: X s) := fun {st pe s W} h => by
        rw [hB] at h
        exact (h.perm (List.perm_append_comm (l₂ := [_, _]))).drop
      rcases hk with ⟨s, hs, HW⟩ | ⟨s, hs, HW⟩
      · refine ⟨none, _, by have := run_endLoop (P := P) (hl _ _ HW) (by rw [hrec]; simp); rw [hrec] at this; exact this, ?_⟩
        have h2 := hp .ready none .exhausted none HW
        rw [hrec] at h2
        exact ⟨_, env, rfl, hag2, hdone _ s _ hs (fin h2)⟩
      · refine ⟨some .ret, _, by have := run_endLoop (P := P) (hl _ _ HW) (by rw [hrec]; simp); rw [hrec] at this; exact this, ?_⟩
        have h2 := hp .done (some .ret) .exhausted (some .ret) HW
        rw [hrec] at h2
        exact wpIn_ret ⟨_, env, rfl, hag2, hstop _ s _ hs (fin h2)⟩⟩
/-- The end of a function with a loop over a function. -/
theorem KEnd.fin2 {I : Imm} {L : List Asn} {rs : List ResultVar} {R : Value → World → Prop} {e : Exit} {D : Nat} (hm : n.marks = [markD D]) (H : Holds I w (Go.Proofs.YtpfgcchammlpgaaV.pt D (.deferred (some [])) :: L)) (how : e = .normal ∨ e = .ret)
    (out : ∀ w, Holds I w L → ∃ vs, ResL P env w rs vs ∧ R (resVal vs) w) : KEnd P rs R n e env w :=
  ⟨how, .inr ⟨D, _, hm, run_takeDeferred H.pt, out _ (H.putPt _).drop⟩⟩
end
end Go.Proofs.YtpfgcchammlpgaaV
