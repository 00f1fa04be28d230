import Derived.Test.YtpfgcchammlpgaaVcPure
import Derived.BigCall
set_option linter.unusedVariables false
set_option linter.unusedSimpArgs false
namespace Go.Proofs.YtpfgcchammlpgaaV
open Go Go.RowKit Go.BigFrame

/-- Cells laid over others. -/
def setF : List Value → Nat → Value → Option (List Value)
  | [], _, _ => none
  | _ :: r, 0, v => some (v :: r)
  | x :: r, n + 1, v => match setF r n v with
    | some l => some (x :: l)
    | none => none
theorem setF_eq : ∀ {l : List Value} {n : Nat} {v : Value} {l' : List Value}, setF l n v = some l' → l' = l.set n v ∧ n < l.length
  | [], _, _, _, h => by cases h
  | _ :: r, 0, v, l', h => by simp [setF] at h; simp [← h]
  | x :: r, n + 1, v, l', h => by
    unfold setF at h
    cases h1 : setF r n v with
    | none => rw [h1] at h; cases h
    | some l => rw [h1] at h; simp only [Option.some.injEq] at h; subst h; have := setF_eq h1; simp [this.1, this.2]
def layF : List Value → Nat → List Value → Option (List Value)
  | l, _, [] => some l
  | l, o, v :: r => match setF l o v with
    | some l => layF l (o + 1) r
    | none => none
theorem layF_foldl : ∀ {vs : List Value} {l : List Value} {o k : Nat} {l' : List Value}, layF l (o + k) vs = some l' →
    (vs.zipIdx k).foldl (fun (cs : Array Value) (p : Value × Nat) => cs.setIfInBounds (o + p.2) p.1) l.toArray = l'.toArray ∧ l'.length = l.length ∧ (vs = [] ∨ o + k + vs.length ≤ l.length)
  | [], l, o, k, l', h => by simp [layF] at h; simp [h]
  | v :: r, l, o, k, l', h => by
    unfold layF at h
    cases h1 : setF l (o + k) v with
    | none => rw [h1] at h; cases h
    | some m =>
      rw [h1] at h
      dsimp only at h
      obtain ⟨h2, h3⟩ := setF_eq h1
      obtain ⟨h4, h5, h6⟩ := layF_foldl (k := k + 1) h
      refine ⟨?_, ?_, .inr ?_⟩
      · rw [List.zipIdx_cons, List.foldl_cons, ← h4]
        congr 1
        simp [h2]
      · rw [h5, h2]; simp
      · have h7 : m.length = l.length := by rw [h2]; simp
        rcases h6 with h6 | h6
        · subst h6; simp; omega
        · simp only [List.length_cons]; omega

def layParts (T : Tab) (fs : List Field) (env : Env) : List Value → List (Nat × Operand) → Option (List Value)
  | l, [] => some l
  | l, (i, x) :: r => match fs[i]?, opv env x with
    | some fd, some v => match T.get fd.type with
      | some ti => match v.cells.toList, Nat.beq v.cells.toList.length ti.size with
        | c :: cs, true => match layF l fd.offset (c :: cs) with
          | some l => layParts T fs env l r
          | none => none
        | _, _ => none
      | none => none
    | _, _ => none

theorem layParts_sound {P : Program} {T : Tab} (hT : TabOk P T) {fs : List Field} {places : Array (Nat × Nat)} (hp : ∀ (i : Nat) (fd : Field) (ti : TI), fs[i]? = some fd → T.get fd.type = some ti → places[i]? = some (fd.offset, ti.size)) {n : Fi} {env : Env} {a : Act} (ha : Ag n env a) :
    ∀ {ps : List (Nat × Operand)} {l l' : List Value}, layParts T fs env l ps = some l' → Instr.fill (places[·]?) l.toArray (ps.map fun p => (p.1, a.eval p.2)) = some l'.toArray
  | [], l, l', h => by simp [layParts] at h; simp [Instr.fill, h]
  | (i, x) :: r, l, l', h => by
    unfold layParts at h
    cases h1 : fs[i]? with
    | none => rw [h1] at h; cases h
    | some fd =>
      cases h2 : opv env x with
      | none => rw [h1, h2] at h; cases h
      | some v =>
        rw [h1, h2] at h
        dsimp only at h
        cases h3 : T.get fd.type with
        | none => rw [h3] at h; cases h
        | some ti =>
          rw [h3] at h
          dsimp only at h
          split at h
          · rename_i c cs hc hs
            cases h4 : layF l fd.offset (c :: cs) with
            | none => rw [h4] at h; cases h
            | some m =>
              rw [h4] at h
              dsimp only at h
              obtain ⟨h5, h6, h7⟩ := layF_foldl (k := 0) (o := fd.offset) (by simpa using h4)
              have h8 : v.cells.size = ti.size := by simpa using Nat.eq_of_beq_eq_true hs
              have h9 : v.cells.toList = c :: cs := hc
              simp only [List.map_cons, Instr.fill, hp i fd ti h1 h3, opv_sound ha h2]
              have h10 : v.cells.size = (c :: cs).length := by rw [← h9]; simp
              rw [if_neg]
              · rw [← layParts_sound hT hp ha h, ← h5]
                congr 1
                rw [← Array.foldl_toList]
                simp [Array.toList_zipIdx, h9]
              · simp only [Bool.or_eq_true, decide_eq_true_eq, not_or]
                have : fd.offset + (c :: cs).length ≤ l.length := by
                  rcases h7 with h7 | h7
                  · cases h7
                  · simpa using h7
                constructor
                · simp [h8]
                · simp only [List.size_toArray]; omega
          · cases h

def buildV (T : Tab) (t : Nat) (env : Env) (ps : List (Nat × Operand)) : Option Value := match T.get t with
  | some ti => match ti.desc with
    | .struct fs => match (fs.toList.all fun f => (T.get f.type).isSome), layParts T fs.toList env ti.zero.cells.toList ps with
      | true, some l => some (.agg l.toArray)
      | _, _ => none
    | _ => none
  | none => none

theorem mapM_sizes {P : Program} {T : Tab} (hT : TabOk P T) (w : World) : ∀ (fs : List Field), fs.all (fun f => (T.get f.type).isSome) = true →
    ∃ ps : List (Nat × Nat), (fs.mapM (fun (f : Field) => (do pure (f.offset, ← sizeOf f.type) : Sem (Nat × Nat)))).run P w = .ok ps w ∧ ps.length = fs.length ∧ ∀ (i : Nat) (fd : Field) (ti : TI), fs[i]? = some fd → T.get fd.type = some ti → ps[i]? = some (fd.offset, ti.size)
  | [], _ => ⟨[], by simp [go_sem], rfl, fun i fd ti h => by simp at h⟩
  | f :: r, h => by
    simp only [List.all_cons, Bool.and_eq_true] at h
    obtain ⟨ti, hti⟩ := Option.isSome_iff_exists.1 h.1
    obtain ⟨ps, h1, h2, h3⟩ := mapM_sizes hT w r h.2
    refine ⟨(f.offset, ti.size) :: ps, ?_, by simp [h2], fun i fd tj hi hj => ?_⟩
    · rw [List.mapM_cons]
      have e : (do pure (f.offset, ← sizeOf f.type) : Sem (Nat × Nat)).run P w = .ok (f.offset, ti.size) w := by
        rw [run_bind ((hT.out _ _ hti).run_size w)]; rfl
      rw [run_bind e, run_bind h1]
      rfl
    · cases i with
      | zero => simp at hi; subst hi; rw [hti] at hj; cases hj; rfl
      | succ i => simpa using h3 i fd tj (by simpa using hi) hj

theorem buildV_sound {P : Program} {T : Tab} (hT : TabOk P T) {n : Fi} {env : Env} {a : Act} (ha : Ag n env a) {t : Nat} {ps : Array (Nat × Operand)} {v : Value} (h : buildV T t env ps.toList = some v) (w : World) :
    (Instr.build t (ps.map fun (i, x) => (i, a.eval x))).run P w = .ok v w := by
  unfold buildV at h
  cases hi : T.get t with
  | none => rw [hi] at h; cases h
  | some ti =>
    rw [hi] at h
    dsimp only at h
    have ht := hT.out t ti hi
    split at h
    · rename_i fs hd
      split at h
      · rename_i l hall hl
        simp only [Option.some.injEq] at h
        subst h
        obtain ⟨qs, h1, h2, h3⟩ := mapM_sizes hT w fs.toList hall
        unfold Instr.build
        rw [run_bind (ht.run_zero w), run_bind (ht.run_under w), hd]
        dsimp only
        rw [Array.mapM_eq_mapM_toList]
        have e : (List.toArray <$> fs.toList.mapM (fun (f : Field) => (do pure (f.offset, ← sizeOf f.type) : Sem (Nat × Nat)))).run P w = .ok qs.toArray w := by
          rw [map_eq_pure_bind, run_bind h1]; rfl
        rw [run_bind e]
        have := layParts_sound hT (places := qs.toArray) (fun i fd ti h4 h5 => by simpa using h3 i fd ti h4 h5) ha hl
        simp only [Array.toArray_toList, Array.toList_map] at this ⊢
        rw [this]
        rfl
      · cases h
    · cases h

def convV (T : Tab) (s d : Nat) (x : Value) : Option Value := match T.get s, T.get d with
  | some i, some j => match i.desc, j.desc, x with
    | .int _, .int k, .int _ n => some (.int k (k.wrap n))
    | .string, .string, .string s => some (.string s)
    | _, _, _ => none
  | _, _ => none

theorem convV_sound {P : Program} {T : Tab} (hT : TabOk P T) {s d : Nat} {x v : Value} (h : convV T s d x = some v) (w : World) : (convert s d x).run P w = .ok v w := by
  unfold convV at h
  cases h1 : T.get s with
  | none => rw [h1] at h; cases h
  | some i =>
    cases h2 : T.get d with
    | none => rw [h1, h2] at h; cases h
    | some j =>
      rw [h1, h2] at h
      dsimp only at h
      unfold convert
      rw [run_bind ((hT.out _ _ h1).run_under w), run_bind ((hT.out _ _ h2).run_under w)]
      split at h
      · rename_i hi hj; simp only [Option.some.injEq] at h; subst h; rw [hi, hj]; rfl
      · rename_i hi hj; simp only [Option.some.injEq] at h; subst h; rw [hi, hj]; rfl
      · cases h

def lenV (T : Tab) (t : Nat) (x : Value) : Option Value := match T.get t with
  | some i => match i.desc, x with
    | .string, .string s => some (.int .i64 s.size)
    | .slice _, .slice _ n _ => some (.int .i64 n)
    | .array n _, _ => some (.int .i64 n)
    | _, _ => none
  | none => none

def callV (T : Tab) (c : Call) (env : Env) : Option Value := match c.callee with
  | .builtin .len => match c.args.toList, c.argTypes.toList with
    | [x], [t] => match opv env x with
      | some v => lenV T t v
      | none => none
    | _, _ => none
  | .builtin .cap => match c.args.toList, c.argTypes.toList with
    | [x], [t] => match opv env x, T.get t with
      | some (.slice _ _ c), some ⟨.slice _, _, _, _⟩ => some (.int .i64 c)
      | _, _ => none
    | _, _ => none
  | .builtin .min => match c.args.toList with
    | [x, y] => match opv env x, opv env y with
      | some (.int k a), some (.int k' b) => bif kindEq k k' then some (.int k (min a b)) else none
      | _, _ => none
    | _ => none
  | .builtin .max => match c.args.toList with
    | [x, y] => match opv env x, opv env y with
      | some (.int k a), some (.int k' b) => bif kindEq k k' then some (.int k (max a b)) else none
      | _, _ => none
    | _ => none
  | _ => none

def nilV : Value → Option Value
  | .pointer (some a) => some (.pointer (some a))
  | .func (.func f) p q => some (.func (.func f) p q)
  | _ => none

def pv (T : Tab) (env : Env) (o : Oper) : Option Value :=
  match o.op with
  | .move x => opv env x
  | .assign x => opv env x
  | .pick c x y => match opv env c with
    | some (.bool b) => pickV b (opv env x) (opv env y)
    | _ => none
  | .binOp op t x y _ => match divShift op with
    | true => match opv env x, y with
      | some (.int k a), .const (.int k' b) => match op with
        | .shl | .shr => intConst op k a b
        | _ => bif kindEq k k' then intConst op k a b else none
      | _, _ => none
    | false => binV T op t (opv env x) (opv env y)
  | .unOp op _ x => match op, opv env x with
    | .not, some (.bool b) => some (.bool (!b))
    | .neg, some (.int k n) => some (.int k (k.wrap (0 - n)))
    | _, _ => none
  | .convert s d x => match opv env x with
    | some v => convV T s d v
    | none => none
  | .fieldAddr t x f => match opv env x with
    | some (.pointer (some a)) => addrV T t f a
    | _ => none
  | .field t x f => match opv env x, fieldOf T t f with
    | some (.agg cs), some fd => partV T fd.type cs.toList fd.offset
    | _, _ => none
  | .extract x i => match opv env x with
    | some (.tuple vs) => nth vs.toList i
    | _ => none
  | .nilCheck x => match opv env x with
    | some v => nilV v
    | none => none
  | .makeFunc fn p q => match opvs env p.toList, opvs env q.toList with
    | some l, some m => some (.func fn l.toArray m.toArray)
    | _, _ => none
  | .build t ps => buildV T t env ps.toList
  | .call c => callV T c env
  | _ => none

theorem run_v {P : Program} {s : Sem Value} {v : Value} {w w' : World} (h : s.run P w = .ok v w') : (do pure (Next.value (← s)) : Sem Next).run P w = .ok (.value v) w' := by
  rw [run_bind h]; rfl

theorem map_opvs {n : Fi} {env : Env} {a : Act} (ha : Ag n env a) {xs : Array Operand} {l : List Value} (h : opvs env xs.toList = some l) : xs.map a.eval = l.toArray := by
  rw [← opvs_sound ha h, ← Array.toList_map]

theorem pickV_at {b : Bool} {x y : Option Value} {u v : Value} (h : pickV b x y = some v) (hu : (if b then x else y) = some u) : u = v := by
  cases b
  · have h' : y = some v := h
    have hu' : y = some u := hu
    rw [h'] at hu'; simpa using hu'.symm
  · have h' : x = some v := h
    have hu' : x = some u := hu
    rw [h'] at hu'; simpa using hu'.symm

theorem run_strOp {P : Program} {op : BinOp} {t : Nat} {x y : Operand} {a b : ByteArray} {v : Value} (h : strOp op a b = some v) (w : World) :
    (eqGuard op t x y (.string a) (.string b)).run P w = .ok () w ∧ (Go.binOp op t (.string a) (.string b)).run P w = .ok v w := by
  constructor
  · unfold eqGuard; split <;> simp [go_sem]
  · cases op <;> simp only [strOp, Option.some.injEq, reduceCtorEq] at h <;> subst h <;> rfl

theorem binV_sound {P : Program} {T : Tab} (hT : TabOk P T) {op : BinOp} {t : Nat} {xo yo : Operand} {x y v : Value} (h : binV T op t (some x) (some y) = some v) (w : World) :
    (eqGuard op t xo yo x y).run P w = .ok () w ∧ (Go.binOp op t x y).run P w = .ok v w := by
  unfold binV at h
  split at h
  · rename_i e1 e2
    cases e1; cases e2
    cases hk : kindEq _ _ <;> rw [hk] at h <;> simp only [cond_true, cond_false, reduceCtorEq] at h
    have := kindEq_eq hk
    subst this
    exact run_int h w
  · rename_i e1 e2
    cases e1; cases e2
    exact run_strOp h w
  · rename_i e1 e2
    cases e1; cases e2
    split at h
    · rename_i i hi
      exact run_rest (hT.out t i hi) h w
    · cases h
  · cases h

theorem binV_none {T : Tab} {op : BinOp} {t : Nat} {x y : Option Value} {v : Value} (h : binV T op t x y = some v) : ∃ u u', x = some u ∧ y = some u' := by
  unfold binV at h
  split at h <;> first | exact ⟨_, _, rfl, rfl⟩ | cases h

theorem pv_sound {P : Program} {T : Tab} (hT : TabOk P T) {n : Fi} {env : Env} {a : Act} (ha : Ag n env a) {o : Oper} {v : Value} (h : pv T env o = some v) (w : World) :
    (execOp a.eval o).run P w = .ok (.value v) w := by
  obtain ⟨dst, op, ty, pos, after, guard⟩ := o
  cases op with
  | move x => show Result.ok (Next.value (a.eval x)) w = _; rw [opv_sound ha h]
  | assign x => show Result.ok (Next.value (a.eval x)) w = _; rw [opv_sound ha h]
  | pick c x y =>
    dsimp only [pv] at h
    split at h
    · rename_i b hc
      obtain ⟨h1, h2⟩ := pickV_none h
      show (do pure (Next.value (if ← asBool (a.eval c) then a.eval x else a.eval y)) : Sem Next).run P w = _
      rw [opv_sound ha hc]
      cases b with
      | true =>
        obtain ⟨u, hu⟩ := h1 rfl
        have := pickV_at h hu
        subst this
        rw [opv_sound ha hu]; rfl
      | false =>
        obtain ⟨u, hu⟩ := h2 rfl
        have := pickV_at h hu
        subst this
        rw [opv_sound ha hu]; rfl
    · cases h
  | binOp op t x y yt =>
    dsimp only [pv] at h
    split at h
    · rename_i hd
      split at h
      · rename_i _ k aa k' b hx
        have hk : intConst op k aa b = some v ∧ (k = k' ∨ op = .shl ∨ op = .shr) := by
          split at h
          · exact ⟨h, .inr (.inl rfl)⟩
          · exact ⟨h, .inr (.inr rfl)⟩
          · cases hk : kindEq k k' <;> rw [hk] at h <;> simp only [cond_true, cond_false, reduceCtorEq] at h
            exact ⟨h, .inl (kindEq_eq hk)⟩
        obtain ⟨h1, h2⟩ := run_const (P := P) (t := t) (x := x) (y := .const (.int k' b)) hk.1 hk.2 w
        show (do let r ← (do eqGuard op t x (.const (.int k' b)) (a.eval x) (a.eval (.const (.int k' b))); Go.binOp op t (a.eval x) (a.eval (.const (.int k' b))) : Sem Value); pure (Next.value r) : Sem Next).run P w = _
        rw [opv_sound ha hx]
        refine run_v (w' := w) ?_
        show (do eqGuard op t x (.const (.int k' b)) (.int k aa) (.int k' b); Go.binOp op t (.int k aa) (.int k' b) : Sem Value).run P w = _
        rw [run_bind h1]
        exact h2
      · cases h
    · obtain ⟨u, u', hu, hu'⟩ := binV_none h
      rw [hu, hu'] at h
      obtain ⟨h1, h2⟩ := binV_sound (xo := x) (yo := y) hT h w
      show (do let r ← (do eqGuard op t x y (a.eval x) (a.eval y); Go.binOp op t (a.eval x) (a.eval y) : Sem Value); pure (Next.value r) : Sem Next).run P w = _
      rw [opv_sound ha hu, opv_sound ha hu']
      refine run_v (w' := w) ?_
      rw [run_bind h1]
      exact h2
  | unOp op t x =>
    dsimp only [pv] at h
    split at h
    · rename_i b hx
      simp only [Option.some.injEq] at h; subst h
      show (do pure (Next.value (← Op.unary .not (a.eval x))) : Sem Next).run P w = _
      rw [opv_sound ha hx]; rfl
    · rename_i k m hx
      simp only [Option.some.injEq] at h; subst h
      show (do pure (Next.value (← Op.unary .neg (a.eval x))) : Sem Next).run P w = _
      rw [opv_sound ha hx]; rfl
    · cases h
  | convert s d x =>
    dsimp only [pv] at h
    split at h
    · rename_i u hx
      show (do pure (Next.value (← convert s d (a.eval x))) : Sem Next).run P w = _
      rw [opv_sound ha hx]
      exact run_v (convV_sound hT h w)
    · cases h
  | fieldAddr t x f =>
    dsimp only [pv] at h
    split at h
    · rename_i u hx
      show (do pure (Next.value (← Instr.fieldAt t (a.eval x) f)) : Sem Next).run P w = _
      rw [opv_sound ha hx]
      exact run_v (addrV_sound hT h w)
    · cases h
  | field t x f =>
    dsimp only [pv] at h
    split at h
    · rename_i cs fd hx hf
      obtain ⟨fs, h1, h2⟩ := fieldOf_sound hT hf
      show (do pure (Next.value (← Instr.field t (a.eval x) f)) : Sem Next).run P w = _
      rw [opv_sound ha hx]
      refine run_v (w' := w) ?_
      unfold Instr.field
      rw [run_bind (run_underlying h1 w)]
      simp only [h2, asAgg, pure_bind]
      have := partV_sound hT h w
      simpa using this
    · cases h
  | extract x i =>
    dsimp only [pv] at h
    split at h
    · rename_i vs hx
      show (do pure (Next.value (← Instr.extract (a.eval x) i)) : Sem Next).run P w = _
      rw [opv_sound ha hx]
      refine run_v (w' := w) ?_
      rw [nth_eq] at h
      unfold Instr.extract
      simp only [Array.getElem?_toList] at h
      dsimp only
      rw [h]; rfl
    · cases h
  | nilCheck x =>
    dsimp only [pv] at h
    split at h
    · rename_i u hx
      have he := opv_sound ha hx
      unfold nilV at h
      split at h
      · simp only [Option.some.injEq] at h; subst h
        simp only [execOp, he]; rfl
      · simp only [Option.some.injEq] at h; subst h
        simp only [execOp, he]; rfl
      · cases h
    · cases h
  | makeFunc fn p q =>
    dsimp only [pv] at h
    split at h
    · rename_i l m hl hm
      simp only [Option.some.injEq] at h; subst h
      show (do pure (Next.value (← Instr.makeFunc fn (p.map a.eval) (q.map a.eval))) : Sem Next).run P w = _
      rw [map_opvs ha hl, map_opvs ha hm]; rfl
    · cases h
  | build t ps =>
    exact run_v (buildV_sound hT ha h w)
  | call c =>
    dsimp only [pv] at h
    obtain ⟨cal, args, ats⟩ := c
    unfold callV at h
    split at h
    · rename_i hc
      dsimp only at hc
      subst hc
      split at h
      · rename_i x t hargs hats
        dsimp only at hargs hats
        split at h
        · rename_i u hu
          have e1 : args = #[x] := by rw [← Array.toArray_toList (xs := args), hargs]
          have e2 : ats = #[t] := by rw [← Array.toArray_toList (xs := ats), hats]
          subst e1; subst e2
          rw [execOp_builtin, builtin_len]
          simp only [List.map_toArray, List.map_cons, List.map_nil]
          rw [opv_sound ha hu]
          refine run_v (w' := w) ?_
          unfold lenV at h
          cases hi : T.get t with
          | none => rw [hi] at h; cases h
          | some i =>
            rw [hi] at h
            dsimp only at h
            have hr := (hT.out t i hi).run_under w
            show (do let d ← underlying t; _ : Sem Value).run P w = _
            rw [run_bind hr]
            split at h
            · rename_i hd; simp only [Option.some.injEq] at h; subst h; rw [hd]; rfl
            · rename_i hd; simp only [Option.some.injEq] at h; subst h; rw [hd]; rfl
            · rename_i hd; simp only [Option.some.injEq] at h; subst h; rw [hd]; rfl
            · cases h
        · cases h
      · cases h
    · rename_i hc
      dsimp only at hc
      subst hc
      split at h
      · rename_i x t hargs hats
        dsimp only at hargs hats
        split at h
        · rename_i aa m c e s1 b1 z1 hu hi
          have e1 : args = #[x] := by rw [← Array.toArray_toList (xs := args), hargs]
          have e2 : ats = #[t] := by rw [← Array.toArray_toList (xs := ats), hats]
          subst e1; subst e2
          rw [execOp_builtin, builtin_cap]
          simp only [List.map_toArray, List.map_cons, List.map_nil]
          rw [opv_sound ha hu]
          refine run_v (w' := w) ?_
          simp only [Option.some.injEq] at h
          subst h
          have hr := (hT.out t _ hi).run_under w
          show (do let d ← underlying t; _ : Sem Value).run P w = _
          rw [run_bind hr]
          rfl
        · cases h
      · cases h
    · rename_i hc
      dsimp only at hc
      subst hc
      split at h
      · rename_i x y hargs
        dsimp only at hargs
        split at h
        · rename_i k aa k' b hx hy
          have e1 : args = #[x, y] := by rw [← Array.toArray_toList (xs := args), hargs]
          subst e1
          rw [execOp_builtin, builtin_min]
          simp only [List.map_toArray, List.map_cons, List.map_nil]
          rw [opv_sound ha hx, opv_sound ha hy]
          refine run_v (w' := w) ?_
          cases hk : kindEq k k' <;> rw [hk] at h <;> simp only [cond_true, cond_false, reduceCtorEq, Option.some.injEq] at h
          subst h
          have e : min aa b = if b < aa then b else aa := by omega
          rw [e]
          rfl
        · cases h
      · cases h
    · rename_i hc
      dsimp only at hc
      subst hc
      split at h
      · rename_i x y hargs
        dsimp only at hargs
        split at h
        · rename_i k aa k' b hx hy
          have e1 : args = #[x, y] := by rw [← Array.toArray_toList (xs := args), hargs]
          subst e1
          rw [execOp_builtin, builtin_max]
          simp only [List.map_toArray, List.map_cons, List.map_nil]
          rw [opv_sound ha hx, opv_sound ha hy]
          refine run_v (w' := w) ?_
          cases hk : kindEq k k' <;> rw [hk] at h <;> simp only [cond_true, cond_false, reduceCtorEq, Option.some.injEq] at h
          subst h
          have e : max aa b = if b > aa then b else aa := by omega
          rw [e]
          rfl
        · cases h
      · cases h
    · cases h
  | _ => cases h
end Go.Proofs.YtpfgcchammlpgaaV
