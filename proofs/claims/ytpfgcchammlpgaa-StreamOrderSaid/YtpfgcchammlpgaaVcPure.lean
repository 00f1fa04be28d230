import Derived.Test.YtpfgcchammlpgaaVcCore
set_option linter.unusedVariables false
set_option linter.unusedSimpArgs false
namespace Go.Proofs.YtpfgcchammlpgaaV
open Go

/-- What is known of a type. -/
structure TI where mk ::
  desc : TypeDesc
  size : Nat
  bytes : Nat
  zero : Value

abbrev Tab := List (Nat × TI)
def Tab.get : Tab → Nat → Option TI
  | [], _ => none
  | (k, v) :: r, t => bif Nat.beq k t then some v else Tab.get r t

structure TypeOk (P : Program) (t : Nat) (i : TI) : Prop where
  under : P.underlying t = some i.desc
  info : ∃ ti, P.info? t = some ti ∧ ti.size = i.size ∧ ti.bytes = i.bytes ∧ ti.zero = some i.zero

structure TabOk (P : Program) (T : Tab) : Prop where mk ::
  out : ∀ t i, T.get t = some i → TypeOk P t i

theorem TabOk.nil {P : Program} : TabOk P [] := ⟨fun t i h => by cases h⟩
theorem TabOk.cons {P : Program} {T : Tab} {t : Nat} {i : TI} (hu : P.underlying t = some i.desc)
    (hi : (P.info? t).map (fun x => (x.size, x.bytes, x.zero)) = some (i.size, i.bytes, some i.zero)) (h : TabOk P T) : TabOk P ((t, i) :: T) := ⟨fun u j hj => by
  simp only [Tab.get] at hj
  cases hq : Nat.beq t u with
  | false => rw [hq] at hj; exact h.out u j hj
  | true =>
    rw [hq] at hj
    simp only [cond_true, Option.some.injEq] at hj
    subst hj
    rw [← Nat.eq_of_beq_eq_true hq]
    obtain ⟨ti, h1, h2⟩ := Option.map_eq_some_iff.1 hi
    simp only [Prod.mk.injEq] at h2
    exact ⟨hu, ti, h1, h2.1, h2.2.1, h2.2.2⟩⟩

theorem TypeOk.run_under {P : Program} {t : Nat} {i : TI} (h : TypeOk P t i) (w : World) : (underlying t).run P w = .ok i.desc w := by
  simp [underlying, h.under, go_sem]
theorem TypeOk.run_size {P : Program} {t : Nat} {i : TI} (h : TypeOk P t i) (w : World) : (sizeOf t).run P w = .ok i.size w := by
  obtain ⟨ti, h1, h2, _⟩ := h.info
  simp [sizeOf, typeInfo, h1, h2, go_sem]
theorem TypeOk.run_info {P : Program} {t : Nat} {i : TI} (h : TypeOk P t i) (w : World) : ∃ ti, (typeInfo t).run P w = .ok ti w ∧ ti.size = i.size ∧ ti.bytes = i.bytes ∧ ti.zero = some i.zero := by
  obtain ⟨ti, h1, h2⟩ := h.info
  exact ⟨ti, by simp [typeInfo, h1, go_sem], h2⟩
theorem TypeOk.run_zero {P : Program} {t : Nat} {i : TI} (h : TypeOk P t i) (w : World) : (zeroValue t).run P w = .ok i.zero w := by
  obtain ⟨ti, h1, _, _, h2⟩ := h.info
  simp [zeroValue, typeInfo, h1, h2, go_sem]

def aggT : TypeDesc → Bool
  | .struct _ | .array _ _ => true
  | _ => false
theorem run_bind {α β : Type} {P : Program} {s : Sem α} {f : α → Sem β} {w w' : World} {x : α} (h : s.run P w = .ok x w') : (s >>= f).run P w = (f x).run P w' := by
  simp [h, go_sem]
theorem TypeOk.run_isAgg {P : Program} {t : Nat} {i : TI} (h : TypeOk P t i) (w : World) : (isAgg t).run P w = .ok (aggT i.desc) w := by
  unfold isAgg
  rw [run_bind (h.run_under w)]
  cases i.desc <;> rfl

/-- Numbers: what needs no care. -/
def intOp (op : BinOp) (k : IntKind) (a b : Int) : Option Value :=
  match op with
  | .add => some (.int k (k.wrap (a + b)))
  | .sub => some (.int k (k.wrap (a - b)))
  | .mul => some (.int k (k.wrap (a * b)))
  | .and => some (.int k (k.wrap (BitVec.ofInt k.bits a &&& BitVec.ofInt k.bits b).toNat))
  | .or => some (.int k (k.wrap (BitVec.ofInt k.bits a ||| BitVec.ofInt k.bits b).toNat))
  | .xor => some (.int k (k.wrap (BitVec.ofInt k.bits a ^^^ BitVec.ofInt k.bits b).toNat))
  | .andNot => some (.int k (k.wrap (BitVec.ofInt k.bits a &&& ~~~ BitVec.ofInt k.bits b).toNat))
  | .eql => some (.bool (decide (a = b)))
  | .neq => some (.bool (!decide (a = b)))
  | .lss => some (.bool (decide (a < b)))
  | .leq => some (.bool (decide (a ≤ b)))
  | .gtr => some (.bool (decide (b < a)))
  | .geq => some (.bool (decide (b ≤ a)))
  | _ => none

/-- A division or a shift by a known number. -/
def intConst (op : BinOp) (k : IntKind) (a b : Int) : Option Value :=
  match op, b with
  | .quo, .ofNat (m + 1) => some (.int k (k.wrap (a.tdiv (.ofNat (m + 1)))))
  | .rem, .ofNat (m + 1) => some (.int k (a.tmod (.ofNat (m + 1))))
  | .shl, .ofNat m => some (.int k (k.wrap (a * 2 ^ (min m k.bits))))
  | .shr, .ofNat m => some (.int k (a.fdiv (2 ^ (min m k.bits))))
  | _, _ => none

def kindEq : IntKind → IntKind → Bool
  | .i8, .i8 | .i16, .i16 | .i32, .i32 | .i64, .i64 | .u8, .u8 | .u16, .u16 | .u32, .u32 | .u64, .u64 => true
  | _, _ => false
theorem kindEq_eq {a b : IntKind} (h : kindEq a b = true) : a = b := by cases a <;> cases b <;> first | rfl | cases h

def divShift : BinOp → Bool
  | .quo | .rem | .shl | .shr => true
  | _ => false

def isC : Operand → Bool
  | .const _ => true
  | _ => false

theorem run_int {P : Program} {op : BinOp} {t : Nat} {x y : Operand} {k : IntKind} {a b : Int} {v : Value} (h : intOp op k a b = some v) (w : World) :
    (eqGuard op t x y (.int k a) (.int k b)).run P w = .ok () w ∧ (Go.binOp op t (.int k a) (.int k b)).run P w = .ok v w := by
  constructor
  · unfold eqGuard; split <;> simp [go_sem]
  · cases op <;> simp only [intOp, Option.some.injEq, reduceCtorEq] at h <;> subst h <;>
      simp [Go.binOp, Op.intArith, Op.intBits, Op.intCmp, go_sem] <;> rfl

theorem run_const {P : Program} {op : BinOp} {t : Nat} {x y : Operand} {k k' : IntKind} {a b : Int} {v : Value} (h : intConst op k a b = some v) (hk : k = k' ∨ op = .shl ∨ op = .shr) (w : World) :
    (eqGuard op t x y (.int k a) (.int k' b)).run P w = .ok () w ∧ (Go.binOp op t (.int k a) (.int k' b)).run P w = .ok v w := by
  constructor
  · unfold eqGuard; split <;> simp [go_sem]
  · unfold intConst at h
    split at h
    · obtain rfl : k = k' := by rcases hk with h | h | h <;> first | exact h | cases h
      simp only [Option.some.injEq] at h; subst h
      simp [Go.binOp, Op.intDiv, go_sem]; omega
    · obtain rfl : k = k' := by rcases hk with h | h | h <;> first | exact h | cases h
      simp only [Option.some.injEq] at h; subst h
      simp [Go.binOp, Op.intDiv, go_sem]; omega
    · simp only [Option.some.injEq] at h; subst h
      simp [Go.binOp, Op.shift, go_sem]
    · simp only [Option.some.injEq] at h; subst h
      simp [Go.binOp, Op.shift, go_sem]
    · cases h

def pickV (b : Bool) (x y : Option Value) : Option Value :=
  match b with
  | true => x
  | false => y

theorem pickV_none {b : Bool} {x y : Option Value} {v : Value} (h : pickV b x y = some v) : (b = true → ∃ u, x = some u) ∧ (b = false → ∃ u, y = some u) := by
  cases b
  · exact ⟨fun e => (by cases e), fun _ => ⟨v, h⟩⟩
  · exact ⟨fun _ => ⟨v, h⟩, fun e => (by cases e)⟩

def strOp (op : BinOp) (a b : ByteArray) : Option Value :=
  match op with
  | .eql => some (.bool (a.toList == b.toList))
  | .neq => some (.bool (!(a.toList == b.toList)))
  | _ => none

/-- Operands that are no numbers. -/
def restOp (d : TypeDesc) (op : BinOp) (x y : Value) : Option Value :=
  match d, op, x, y with
  | .bool, .eql, .bool a, .bool b => some (.bool (a == b))
  | .bool, .neq, .bool a, .bool b => some (.bool (!(a == b)))
  | .pointer _, .eql, .pointer none, .pointer none => some (.bool true)
  | .pointer _, .eql, .pointer (some _), .pointer none => some (.bool false)
  | .pointer _, .neq, .pointer none, .pointer none => some (.bool false)
  | .pointer _, .neq, .pointer (some _), .pointer none => some (.bool true)
  | .slice _, .eql, .slice none _ _, .slice none _ _ => some (.bool true)
  | .slice _, .eql, .slice (some _) _ _, .slice none _ _ => some (.bool false)
  | .slice _, .neq, .slice none _ _, .slice none _ _ => some (.bool false)
  | .slice _, .neq, .slice (some _) _ _, .slice none _ _ => some (.bool true)
  | .map _ _, .eql, .map none, .map none => some (.bool true)
  | .map _ _, .eql, .map (some _), .map none => some (.bool false)
  | .map _ _, .neq, .map none, .map none => some (.bool false)
  | .map _ _, .neq, .map (some _), .map none => some (.bool true)
  | _, _, _, _ => none

def binV (T : Tab) (op : BinOp) (t : Nat) (x y : Option Value) : Option Value :=
  match x, y with
  | some (.int k a), some (.int k' b) => bif kindEq k k' then intOp op k a b else none
  | some (.string a), some (.string b) => strOp op a b
  | some x, some y => match T.get t with
    | some i => restOp i.desc op x y
    | none => none
  | _, _ => none

theorem equal_step {P : Program} {t : Nat} {i : TI} (ht : TypeOk P t i) {x y : Value} {b : Bool} (h : restOp i.desc .eql x y = some (.bool b)) (w : World) : (Op.equal t x y).run P w = .ok b w := by
  show (Op.equalIn (9999 + 1) t x y).run P w = _
  unfold Op.equalIn
  rw [run_bind (ht.run_under w)]
  unfold restOp at h
  split at h <;> first
    | (cases h; done)
    | (rename_i h1 h2; cases h2; done)
    | (simp_all [go_sem]; done)
    | (simp_all [go_sem]; simp_all)

theorem run_rest {P : Program} {op : BinOp} {t : Nat} {i : TI} (ht : TypeOk P t i) {xo yo : Operand} {x y v : Value} (h : restOp i.desc op x y = some v) (w : World) :
    (eqGuard op t xo yo x y).run P w = .ok () w ∧ (Go.binOp op t x y).run P w = .ok v w := by
  have h0 := h
  unfold restOp at h
  split at h <;> first
    | (cases h; done)
    | skip
  all_goals (
    simp only [Option.some.injEq] at h
    subst h
    constructor
    · unfold eqGuard; simp [go_sem]
    · unfold Go.binOp
      first
        | (dsimp only; rw [run_bind (equal_step ht (by rename_i hd; rw [hd]; rfl) w)]; rfl)
        | skip)

def opvs (env : Env) : List Operand → Option (List Value)
  | [] => some []
  | x :: r => match opv env x, opvs env r with
    | some v, some l => some (v :: l)
    | _, _ => none

theorem opvs_sound {n : Fi} {env : Env} {a : Act} (h : Ag n env a) : ∀ {xs : List Operand} {vs : List Value}, opvs env xs = some vs → xs.map a.eval = vs
  | [], vs, hx => by simpa [opvs] using hx
  | x :: r, vs, hx => by
    unfold opvs at hx
    cases h1 : opv env x with
    | none => rw [h1] at hx; cases hx
    | some v =>
      cases h2 : opvs env r with
      | none => rw [h1, h2] at hx; cases hx
      | some l =>
        rw [h1, h2] at hx
        simp only [Option.some.injEq] at hx
        subst hx
        rw [List.map_cons, opv_sound h h1, opvs_sound h h2]

def nth : List Value → Nat → Option Value
  | [], _ => none
  | v :: _, 0 => some v
  | _ :: r, n + 1 => nth r n
theorem nth_eq : ∀ (l : List Value) (n : Nat), nth l n = l[n]?
  | [], _ => rfl
  | v :: _, 0 => rfl
  | _ :: r, n + 1 => by simp [nth, nth_eq r n]

def dropF : List Value → Nat → Option (List Value)
  | l, 0 => some l
  | [], _ + 1 => none
  | _ :: r, n + 1 => dropF r n
theorem dropF_eq : ∀ {l : List Value} {n : Nat} {l' : List Value}, dropF l n = some l' → l' = l.drop n
  | l, 0, l', h => by simpa [dropF] using h.symm
  | [], n + 1, l', h => by cases h
  | _ :: r, n + 1, l', h => by simpa using dropF_eq (l := r) h
def takeF : List Value → Nat → Option (List Value)
  | _, 0 => some []
  | [], _ + 1 => none
  | v :: r, n + 1 => match takeF r n with
    | some l => some (v :: l)
    | none => none
theorem takeF_eq : ∀ {l : List Value} {n : Nat} {l' : List Value}, takeF l n = some l' → l' = l.take n ∧ n ≤ l.length
  | l, 0, l', h => by simp [takeF] at h; simp [h]
  | [], n + 1, l', h => by cases h
  | v :: r, n + 1, l', h => by
    unfold takeF at h
    cases h1 : takeF r n with
    | none => rw [h1] at h; cases h
    | some l => rw [h1] at h; simp only [Option.some.injEq] at h; subst h; have := takeF_eq h1; simp [this.1]; omega
def sub (l : List Value) (o n : Nat) : Option (List Value) := match dropF l o with
  | some r => takeF r n
  | none => none
theorem sub_eq {l : List Value} {o n : Nat} {l' : List Value} (h : sub l o n = some l') : l' = (l.drop o).take n := by
  unfold sub at h
  cases h1 : dropF l o with
  | none => rw [h1] at h; cases h
  | some r => rw [h1] at h; rw [(takeF_eq h).1, dropF_eq h1]

/-- A part of an aggregate. -/
def partV (T : Tab) (t : Nat) (cs : List Value) (off : Nat) : Option Value := match T.get t with
  | some i => match aggT i.desc with
    | true => match sub cs off i.size with
      | some l => some (.agg l.toArray)
      | none => none
    | false => nth cs off
  | none => none
theorem partV_sound {P : Program} {T : Tab} (hT : TabOk P T) {t : Nat} {cs : List Value} {off : Nat} {v : Value} (h : partV T t cs off = some v) (w : World) : (part t cs.toArray off).run P w = .ok v w := by
  unfold partV at h
  cases hi : T.get t with
  | none => rw [hi] at h; cases h
  | some i =>
    have ht := hT.out t i hi
    rw [hi] at h
    dsimp only at h
    unfold part
    rw [run_bind (ht.run_isAgg w)]
    cases ha : aggT i.desc with
    | true =>
      rw [ha] at h
      dsimp only at h
      cases hs : sub cs off i.size with
      | none => rw [hs] at h; cases h
      | some l =>
        rw [hs] at h
        simp only [Option.some.injEq] at h
        subst h
        simp only [if_true]
        rw [run_bind (ht.run_size w)]
        rw [sub_eq hs]
        simp [go_sem, List.extract_eq_take_drop]
    | false =>
      rw [ha] at h
      dsimp only at h
      rw [nth_eq] at h
      simp [h, go_sem]

def fieldOf (T : Tab) (t f : Nat) : Option Field := match T.get t with
  | some i => match i.desc with
    | .struct fs => (fs.toList)[f]?
    | _ => none
  | none => none

def addrV (T : Tab) (t f : Nat) (a : Addr) : Option Value := match fieldOf T t f, a with
  | some ⟨_, ty, off, _, _, _, _⟩, ⟨b, o, none⟩ => match T.get ty with
    | some i => match i.size with
      | _ + 1 => match off with
        | 0 => some (.pointer (some ⟨b, o, none⟩))
        | off => some (.pointer (some ⟨b, o + off, none⟩))
      | 0 => none
    | none => none
  | _, _ => none

theorem Addr.add_mk (b o n : Nat) : (⟨b, o, none⟩ : Addr).add n = ⟨b, o + n, none⟩ := by
  unfold Addr.add
  split
  · subst_vars; rfl
  · rfl

theorem fieldOf_sound {P : Program} {T : Tab} (hT : TabOk P T) {t f : Nat} {fd : Field} (h : fieldOf T t f = some fd) : ∃ fs, P.underlying t = some (.struct fs) ∧ fs[f]? = some fd := by
  unfold fieldOf at h
  cases hi : T.get t with
  | none => rw [hi] at h; cases h
  | some i =>
    rw [hi] at h
    dsimp only at h
    split at h
    · rename_i fs hd
      exact ⟨fs, by rw [← hd]; exact (hT.out t i hi).under, by simpa using h⟩
    · cases h

theorem run_underlying {P : Program} {t : Nat} {d : TypeDesc} (h : P.underlying t = some d) (w : World) : (underlying t).run P w = .ok d w := by
  simp [underlying, h, go_sem]

theorem addrV_sound {P : Program} {T : Tab} (hT : TabOk P T) {t f : Nat} {a : Addr} {v : Value} (h : addrV T t f a = some v) (w : World) : (Instr.fieldAt t (.pointer (some a)) f).run P w = .ok v w := by
  unfold addrV at h
  split at h
  · rename_i nm ty off em tg pk bo b o hf
    split at h
    · rename_i i hi
      have ht := hT.out _ i hi
      obtain ⟨fs, h1, h2⟩ := fieldOf_sound hT hf
      split at h
      · rename_i m hm
        have hz : (sizeOf ty).run P w = .ok (m + 1) w := by rw [ht.run_size w, hm]
        have e : v = .pointer (some ⟨b, o + off, none⟩) := by
          split at h <;> simp only [Option.some.injEq] at h <;> subst h <;> simp
        subst e
        simp [Instr.fieldAt, run_underlying h1, h2, go_sem, Instr.sureAddr, fieldPlace, hz, Addr.add_mk]
      · cases h
    · cases h
  · cases h
end Go.Proofs.YtpfgcchammlpgaaV
