import Derived.Test.YtpfgcchammlpgaaVcMem
set_option linter.unusedVariables false
set_option linter.unusedSimpArgs false
namespace Go.Proofs.YtpfgcchammlpgaaV
open Go Go.RowKit Go.BigFrame

structure OpE (P : Program) (n : Fi) (env : Env) (o : Oper) (w : World) (R : Value → World → Prop) : Prop where mk ::
  out : ∃ v w', OpV P n env o w v w' ∧ R v w'

section
variable {P : Program} {T : Tab} {n : Fi} {ops : Array Oper} {K : Kont} {G : Gds} {env : Env} {w : World} {rest : List Oper} {o : Oper}

theorem VcL.eff {R : Value → World → Prop} (hg : gres ops G o = some true) (hn : inN n o.dst = true) (ho : outG G o.dst = true) (h : OpE P n env o w R)
    (k : ∀ v w', R v w' → VcL P n ops K rest G (env.put o.dst v) w') : VcL P n ops K (o :: rest) G env w := by
  obtain ⟨v, w', h1, h2⟩ := h.out
  exact VcL.val hg hn ho h1 (k v w' h2)

theorem EfO.eff {S : World → Prop} {i : Nat} {R : Value → World → Prop} {k : Gds → Env → World → Prop} (hi : nthO ops.toList i = some o) (hg : gres ops G o = some true) (hn : inN n o.dst = true) (ho : outG G o.dst = true)
    (h : OpE P n env o w R) (hk : ∀ v w', R v w' → S w' ∧ k G (env.put o.dst v) w') : EfO P n ops S G env w i k := by
  obtain ⟨v, w', h1, h2⟩ := h.out
  exact EfO.val hi hg hn ho h1 (hk v w' h2).1 (hk v w' h2).2

theorem run_u {s : Sem Unit} {w w' : World} (h : s.run P w = .ok () w') : (do s; pure Next.skip : Sem Next).run P w = .ok .skip w' := by
  rw [run_bind h]; rfl

def cellsF : Value → Option (List Value)
  | .agg cs => match cs.toList with
    | [] => some []
    | v :: r => some (v :: r)
  | .bool b => some [.bool b]
  | .int k m => some [.int k m]
  | .string s => some [.string s]
  | .pointer a => some [.pointer a]
  | .slice a m c => some [.slice a m c]
  | .map r => some [.map r]
  | .func f p q => some [.func f p q]
  | _ => none
theorem cellsF_eq {v : Value} {cs : List Value} (h : cellsF v = some cs) : v.cells = cs.toArray := by
  cases v with
  | agg a =>
    have e : cs = a.toList := by
      unfold cellsF at h
      dsimp only at h
      cases hl : a.toList <;> rw [hl] at h <;> simpa using h.symm
    subst e
    rfl
  | _ => first | (cases h; done) | (simp only [cellsF, Option.some.injEq] at h; subst h; rfl)

theorem OpE.box {I : Imm} {L : List Asn} (H : Holds I w L) {e : Nat} {x : Operand} {v : Value} {cs : List Value} (ho : o.op = .box e x) (hx : opv env x = some v) (hc : cellsF v = some cs) :
    OpE P n env o w fun v w' => ∃ b, v = .pointer (some ⟨b, 0, none⟩) ∧ Holds I w' (blk b e cs :: L) := ⟨_, _, ⟨fun a ha => .inl (by
  unfold execOp
  rw [ho]
  dsimp only
  rw [opv_sound ha hx]
  refine run_v (v := .pointer (some ⟨w.heap.size, 0, none⟩)) (w' := w.alloc (.cells cs.toArray e)) ?_
  unfold Instr.box newVar newRow
  rw [cellsF_eq hc]
  rfl)⟩, w.heap.size, rfl, H.allocBlk cs e⟩

def zeroT (T : Tab) (t : Nat) : Option (List Value) := match T.get t with
  | some i => cellsF i.zero
  | none => none

theorem OpE.alloc {I : Imm} {L : List Asn} (hT : TabOk P T) (H : Holds I w L) {e : Nat} {cs : List Value} (ho : o.op = .alloc e) (hc : zeroT T e = some cs) :
    OpE P n env o w fun v w' => ∃ b, v = .pointer (some ⟨b, 0, none⟩) ∧ Holds I w' (blk b e cs :: L) := ⟨_, _, ⟨fun a ha => .inl (by
  unfold zeroT at hc
  split at hc
  · rename_i i hi
    unfold execOp
    rw [ho]
    dsimp only
    refine run_v (v := .pointer (some ⟨w.heap.size, 0, none⟩)) (w' := w.alloc (.cells cs.toArray e)) ?_
    unfold Instr.alloc
    rw [run_bind ((hT.out e i hi).run_zero w)]
    unfold newVar newRow
    rw [cellsF_eq hc]
    rfl
  · cases hc)⟩, w.heap.size, rfl, H.allocBlk cs e⟩

/-- Cells laid over a block's. -/
def over (cs : List Value) (i : Nat) (vs : List Value) : List Value := cs.take i ++ vs ++ cs.drop (i + vs.length)
theorem over_nil (cs : List Value) (i : Nat) : over cs i [] = cs := by simp [over]
theorem over_cons {cs : List Value} {i : Nat} {v : Value} {r : List Value} (h : i < cs.length) : over cs i (v :: r) = over (cs.set i v) (i + 1) r := by
  unfold over
  rw [List.take_add_one, List.getElem?_set_self h]
  simp only [Option.toList, List.length_cons]
  rw [List.take_set_of_le (Nat.le_refl i), List.drop_set_of_lt (by omega)]
  simp [Nat.add_assoc, Nat.add_comm 1]
theorem over_length {cs : List Value} {i : Nat} {vs : List Value} (h : i + vs.length ≤ cs.length) : (over cs i vs).length = cs.length := by
  simp [over]; omega
theorem layF_over : ∀ {vs cs : List Value} {i : Nat} {l : List Value}, layF cs i vs = some l → l = over cs i vs ∧ (vs = [] ∨ i + vs.length ≤ cs.length)
  | [], cs, i, l, h => by simp [layF] at h; simp [over_nil, h]
  | v :: r, cs, i, l, h => by
    unfold layF at h
    cases h1 : setF cs i v with
    | none => rw [h1] at h; cases h
    | some m =>
      rw [h1] at h
      obtain ⟨h2, h3⟩ := setF_eq h1
      obtain ⟨h4, h5⟩ := layF_over h
      subst h2
      refine ⟨by rw [h4, over_cons h3], .inr ?_⟩
      rcases h5 with h5 | h5
      · subst h5; simp; omega
      · simp at h5 ⊢; omega

def oneC : Value → Bool
  | .agg _ => false
  | .tuple _ => false
  | _ => true

theorem run_storeCells {I : Imm} {L : List Asn} {b e o : Nat} : ∀ (vs : List Value) (i : Nat) (cs : List Value) (w : World), Holds I w (blk b e cs :: L) → o + i + vs.length ≤ cs.length → (∀ v ∈ vs, oneC v = true) →
    ∃ w', (storeCells ⟨b, o, none⟩ vs i).run P w = .ok () w' ∧ Holds I w' (blk b e (over cs (o + i) vs) :: L)
  | [], i, cs, w, H, hl, h1 => ⟨w, by simp [storeCells, go_sem], by rw [over_nil]; exact H⟩
  | v :: r, i, cs, w, H, hl, h1 => by
    simp only [List.length_cons] at hl
    have hlt : o + i < cs.length := by omega
    have hlen : o + (i + 1) + r.length ≤ (cs.set (o + i) v).length := by rw [List.length_set]; omega
    obtain ⟨w', h2, h3⟩ := run_storeCells r (i + 1) (cs.set (o + i) v) _ (H.set hlt v) hlen (fun u hu => h1 u (List.mem_cons_of_mem _ hu))
    refine ⟨w', ?_, by rw [over_cons hlt]; exact h3⟩
    unfold storeCells
    have hv := h1 v List.mem_cons_self
    have e1 : (store ((⟨b, o, none⟩ : Addr).add i) v).run P w = .ok () (w.setCell ⟨b, o + i, none⟩ v) := by
      rw [Addr.add_mk]
      have hc := H.cell (v := cs[o + i]) (List.getElem?_eq_getElem hlt)
      have hf := H.thaw hlt
      unfold store
      cases v <;> first | (simp [oneC] at hv; done) | simp [Sem.run, hc, hf]
    rw [run_bind e1]
    exact h2

theorem OpE.store {I : Imm} {L : List Asn} (hT : TabOk P T) {b e i t : Nat} {cs vs cs' : List Value} (H : Holds I w (blk b e cs :: L)) {x y : Operand} {v : Value} (ho : o.op = .store t x y) (hx : opv env x = some (.pointer (some ⟨b, i, none⟩))) (hy : opv env y = some v)
    (hc : cellsF v = some vs) (h1 : vs.all oneC = true) (hs : sizeT T t = some vs.length) (hl : layF cs i vs = some cs') : OpE P n env o w fun u w' => u = undef ∧ Holds I w' (blk b e cs' :: L) := by
  obtain ⟨h2, h3⟩ := layF_over hl
  subst h2
  have key : ∃ w', (storeCells ⟨b, i, none⟩ vs).run P w = .ok () w' ∧ Holds I w' (blk b e (over cs i vs) :: L) := by
    rcases h3 with rfl | h3
    · exact ⟨w, by simp [storeCells, go_sem], by rw [over_nil]; exact H⟩
    · have := run_storeCells (P := P) (o := i) vs 0 cs w H (by omega) (by simpa using h1)
      simpa using this
  obtain ⟨w', h4, h5⟩ := key
  refine ⟨undef, w', ⟨fun a ha => .inr ⟨rfl, ?_⟩⟩, rfl, h5⟩
  unfold execOp
  rw [ho]
  dsimp only
  rw [opv_sound ha hx, opv_sound ha hy]
  refine run_u ?_
  show (storeVar t ⟨b, i, none⟩ v).run P w = _
  unfold storeVar
  rw [run_bind (sizeT_sound hT hs w)]
  have := cellsF_eq hc
  rw [this]
  simp only [List.size_toArray, ne_eq, not_true_eq_false, if_false]
  exact h4

/-- A store where the place is known by a bound. -/
theorem OpE.storeAt {I : Imm} {L : List Asn} (hT : TabOk P T) {b e i t : Nat} {cs vs : List Value} (H : Holds I w (blk b e cs :: L)) {x y : Operand} {v : Value} (ho : o.op = .store t x y) (hx : opv env x = some (.pointer (some ⟨b, i, none⟩))) (hy : opv env y = some v)
    (hc : cellsF v = some vs) (h1 : vs.all oneC = true) (hs : sizeT T t = some vs.length) (hl : i + vs.length ≤ cs.length) : OpE P n env o w fun u w' => u = undef ∧ Holds I w' (blk b e (over cs i vs) :: L) := by
  obtain ⟨w', h4, h5⟩ := run_storeCells (P := P) (o := i) vs 0 cs w H (by omega) (by simpa using h1)
  refine ⟨undef, w', ⟨fun a ha => .inr ⟨rfl, ?_⟩⟩, rfl, h5⟩
  unfold execOp
  rw [ho]
  dsimp only
  rw [opv_sound ha hx, opv_sound ha hy]
  refine run_u ?_
  show (storeVar t ⟨b, i, none⟩ v).run P w = _
  unfold storeVar
  rw [run_bind (sizeT_sound hT hs w)]
  have := cellsF_eq hc
  rw [this]
  simp only [List.size_toArray, ne_eq, not_true_eq_false, if_false]
  exact h4

/-! ### Indexes and cuts -/

/-- A slice type's element: its number, how many cells. -/
def elemT (T : Tab) (t : Nat) : Option (Nat × Nat) := match T.get t with
  | some ⟨.slice e, _, _, _⟩ => match T.get e with
    | some ⟨_, sz, _, _⟩ => some (e, sz)
    | none => none
  | _ => none
theorem elemT_sound (hT : TabOk P T) {t e sz : Nat} (h : elemT T t = some (e, sz)) : P.underlying t = some (.slice e) ∧ ∃ j, TypeOk P e j ∧ j.size = sz := by
  unfold elemT at h
  split at h
  · rename_i e' s1 b1 z1 hi
    split at h
    · rename_i d2 sz2 b2 z2 hj
      simp only [Option.some.injEq, Prod.mk.injEq] at h
      obtain ⟨rfl, rfl⟩ := h
      exact ⟨(hT.out t _ hi).under, _, hT.out _ _ hj, rfl⟩
    · cases h
  · cases h

theorem OpV.indexAddr (hT : TabOk P T) {t e sz : Nat} {x y : Operand} {b p len cap : Nat} {k : IntKind} {j : Int} (ho : o.op = .indexAddr t x y) (hx : opv env x = some (.slice (some ⟨b, p, none⟩) len cap)) (hy : opv env y = some (.int k j))
    (ht : elemT T t = some (e, sz)) (h0 : 0 ≤ j) (h1 : j < len) : OpV P n env o w (.pointer (some ⟨b, p + j.toNat * sz, none⟩)) w := ⟨fun a ha => .inl (by
  obtain ⟨h2, i, h3, rfl⟩ := elemT_sound hT ht
  unfold execOp
  rw [ho]
  dsimp only
  rw [opv_sound ha hx, opv_sound ha hy]
  refine run_v ?_
  unfold Instr.indexAt
  simp only [asIntOf, pure_bind]
  rw [run_bind (run_underlying h2 w)]
  simp only [pure_bind]
  have e1 : ∀ (f : TypeDesc → Sem Value), (underlying t >>= f).run P w = (f (.slice e)).run P w := fun f => run_bind (run_underlying h2 w)
  rw [e1]
  simp only [h0, h1, and_self, if_true]
  rw [run_bind (h3.run_size w)]
  simp [go_sem, Addr.add_mk])⟩

theorem OpV.index (hT : TabOk P T) {t : Nat} {x y : Operand} {s : ByteArray} {k : IntKind} {j : Int} {i : TI} (ho : o.op = .index t x y) (hx : opv env x = some (.string s)) (hy : opv env y = some (.int k j))
    (ht : T.get t = some i) (hd : i.desc = .string) (h0 : 0 ≤ j) (h1 : j < s.size) : OpV P n env o w (.int .u8 (s[j.toNat]'(by omega)).toNat) w := ⟨fun a ha => .inl (by
  unfold execOp
  rw [ho]
  dsimp only
  rw [opv_sound ha hx, opv_sound ha hy]
  refine run_v ?_
  unfold Instr.index
  simp only [asIntOf, pure_bind]
  have h2 := (hT.out t i ht).run_under w
  rw [run_bind h2, hd]
  simp only [h0, if_true]
  rw [getElem?_pos s j.toNat (by omega)]
  rfl)⟩

theorem run_sliceBounds {l h m : Nat} {isS : Bool} {kl kh : IntKind} {len cap : Nat} {lo hi : Option Value} (hl : (lo = none ∧ l = 0) ∨ lo = some (.int kl l)) (hh : (hi = none ∧ h = len) ∨ hi = some (.int kh h)) (h1 : l ≤ h) (h2 : h ≤ cap) (w : World) :
    (Instr.sliceBounds isS len cap lo hi none).run P w = .ok (l, h, cap) w := by
  unfold Instr.sliceBounds
  simp only [pure_bind]
  have e1 : ∀ (k : IntKind) (x y : Nat) (c : BoundsCode), x ≤ y → Instr.sliceBound (.int k x) y c = pure x := fun k x y c hxy => by
    simp [Instr.sliceBound, asIntOf, hxy]
  rcases hl with ⟨rfl, rfl⟩ | rfl <;> rcases hh with ⟨rfl, rfl⟩ | rfl <;> simp only [e1 _ _ _ _ h1, e1 _ _ _ _ h2, pure_bind] <;> rfl

/-- What an operand of a cut is: the number that it says, or what it stands for where there is none. -/
def cutV (env : Env) (x : Option Operand) (d : Nat) : Option (Int × Bool) := match x with
  | none => some (d, false)
  | some x => match opv env x with
    | some (.int _ j) => some (j, true)
    | _ => none

theorem cutV_sound {a : Act} (ha : Ag n env a) {x : Option Operand} {d : Nat} {j : Int} {b : Bool} (h : cutV env x d = some (j, b)) (hj : 0 ≤ j) : ∃ k, (x.map a.eval = none ∧ j.toNat = d) ∨ x.map a.eval = some (.int k j.toNat) := by
  cases x with
  | none => simp only [cutV, Option.some.injEq, Prod.mk.injEq] at h; exact ⟨.i64, .inl ⟨rfl, by omega⟩⟩
  | some x =>
    unfold cutV at h
    dsimp only at h
    split at h
    · rename_i k jj hx
      simp only [Option.some.injEq, Prod.mk.injEq] at h
      refine ⟨k, .inr ?_⟩
      rw [Option.map_some, opv_sound ha hx, h.1]
      congr 2
      omega
    · cases h

theorem OpV.slice (hT : TabOk P T) {t e sz : Nat} {x : Operand} {lo hi : Option Operand} {b p len cap : Nat} {l h : Int} {b1 b2 : Bool} (ho : o.op = .slice t x lo hi none) (hx : opv env x = some (.slice (some ⟨b, p, none⟩) len cap))
    (hl : cutV env lo 0 = some (l, b1)) (hh : cutV env hi len = some (h, b2)) (ht : elemT T t = some (e, sz)) (h0 : 0 ≤ l) (h1 : l ≤ h) (h2 : h ≤ cap) :
    OpV P n env o w (.slice (some ⟨b, if cap = l.toNat then p else p + l.toNat * sz, none⟩) (h.toNat - l.toNat) (cap - l.toNat)) w := by
  obtain ⟨h3, i, h4, rfl⟩ := elemT_sound hT ht
  refine ⟨fun a ha => .inl ?_⟩
  obtain ⟨kl, hl'⟩ := cutV_sound ha hl h0
  obtain ⟨kh, hh'⟩ := cutV_sound ha hh (by omega)
  unfold execOp
  rw [ho]
  dsimp only
  rw [opv_sound ha hx]
  refine run_v ?_
  unfold Instr.sliceAt
  rw [run_bind (run_underlying h3 w)]
  dsimp only
  unfold Instr.slice
  rw [run_bind (run_underlying h3 w)]
  dsimp only
  have hb := run_sliceBounds (P := P) (isS := true) (len := len) (cap := cap) (l := l.toNat) (h := h.toNat) (m := cap) hl' hh' (by omega) (by omega) w
  simp only [Option.map_none]
  rw [run_bind hb]
  dsimp only
  rw [run_bind (h4.run_size w)]
  show Result.ok _ w = _
  congr 2
  by_cases hc : cap = l.toNat
  · rw [if_pos hc, if_pos hc]
  · rw [if_neg hc, if_neg hc]; simp [Addr.add_mk]

theorem OpE.slice (hT : TabOk P T) {t e sz : Nat} {x : Operand} {lo hi : Option Operand} {b p len cap : Nat} {l h : Int} {b1 b2 : Bool} (ho : o.op = .slice t x lo hi none) (hx : opv env x = some (.slice (some ⟨b, p, none⟩) len cap))
    (hl : cutV env lo 0 = some (l, b1)) (hh : cutV env hi len = some (h, b2)) (ht : elemT T t = some (e, sz)) (h0 : 0 ≤ l) (h1 : l ≤ h) (h2 : h ≤ cap) :
    OpE P n env o w fun v w' => w' = w ∧ ∃ p', v = .slice (some ⟨b, p', none⟩) (h.toNat - l.toNat) (cap - l.toNat) ∧ (l < cap → p' = p + l.toNat * sz) :=
  ⟨⟨_, w, OpV.slice hT ho hx hl hh ht h0 h1 h2, rfl, _, rfl, fun hlt => by rw [if_neg (by omega)]⟩⟩

theorem OpV.sliceNil (hT : TabOk P T) {t e sz : Nat} {x : Operand} {lo hi : Option Operand} {l h : Int} {b1 b2 : Bool} (ho : o.op = .slice t x lo hi none) (hx : opv env x = some (.slice none 0 0))
    (hl : cutV env lo 0 = some (l, b1)) (hh : cutV env hi 0 = some (h, b2)) (ht : elemT T t = some (e, sz)) (h0 : l = 0) (h1 : h = 0) :
    OpV P n env o w (.slice none 0 0) w := by
  obtain ⟨h3, i, h4, rfl⟩ := elemT_sound hT ht
  subst h0; subst h1
  refine ⟨fun a ha => .inl ?_⟩
  obtain ⟨kl, hl'⟩ := cutV_sound ha hl (by omega)
  obtain ⟨kh, hh'⟩ := cutV_sound ha hh (by omega)
  unfold execOp
  rw [ho]
  dsimp only
  rw [opv_sound ha hx]
  refine run_v ?_
  unfold Instr.sliceAt
  rw [run_bind (run_underlying h3 w)]
  dsimp only
  unfold Instr.slice
  rw [run_bind (run_underlying h3 w)]
  dsimp only
  have hb := run_sliceBounds (P := P) (isS := true) (len := 0) (cap := 0) (l := 0) (h := 0) (m := 0) hl' hh' (by omega) (by omega) w
  simp only [Option.map_none]
  rw [run_bind hb]
  dsimp only
  rw [run_bind (h4.run_size w)]
  rfl

theorem OpE.sliceNil (hT : TabOk P T) {t e sz : Nat} {x : Operand} {lo hi : Option Operand} {l h : Int} {b1 b2 : Bool} (ho : o.op = .slice t x lo hi none) (hx : opv env x = some (.slice none 0 0))
    (hl : cutV env lo 0 = some (l, b1)) (hh : cutV env hi 0 = some (h, b2)) (ht : elemT T t = some (e, sz)) (h0 : l = 0) (h1 : h = 0) :
    OpE P n env o w fun v w' => w' = w ∧ v = .slice none 0 0 :=
  ⟨⟨_, w, OpV.sliceNil hT ho hx hl hh ht h0 h1, rfl, rfl⟩⟩

theorem OpE.sliceStr (hT : TabOk P T) {t : Nat} {x : Operand} {lo hi : Option Operand} {s : ByteArray} {l h : Int} {b1 b2 : Bool} {i : TI} (ho : o.op = .slice t x lo hi none) (hx : opv env x = some (.string s))
    (hl : cutV env lo 0 = some (l, b1)) (hh : cutV env hi s.size = some (h, b2)) (ht : T.get t = some i) (hd : i.desc = .string) (h0 : 0 ≤ l) (h1 : l ≤ h) (h2 : h ≤ s.size) :
    OpE P n env o w fun v w' => w' = w ∧ v = .string (s.extract l.toNat h.toNat) := by
  refine ⟨.string (s.extract l.toNat h.toNat), w, ⟨fun a ha => .inl ?_⟩, rfl, rfl⟩
  obtain ⟨kl, hl'⟩ := cutV_sound ha hl h0
  obtain ⟨kh, hh'⟩ := cutV_sound ha hh (by omega)
  unfold execOp
  rw [ho]
  dsimp only
  rw [opv_sound ha hx]
  refine run_v ?_
  have h3 := (hT.out t i ht).run_under w
  rw [hd] at h3
  unfold Instr.sliceAt
  rw [run_bind h3]
  dsimp only
  unfold Instr.slice
  rw [run_bind h3]
  dsimp only
  have hb := run_sliceBounds (P := P) (isS := false) (len := s.size) (cap := s.size) (l := l.toNat) (h := h.toNat) (m := s.size) hl' hh' (by omega) (by omega) w
  simp only [Option.map_none, Option.isSome_none, Bool.false_eq_true, if_false]
  rw [run_bind hb]
  rfl
end
end Go.Proofs.YtpfgcchammlpgaaV
