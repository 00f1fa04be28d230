import Derived.Test.YtpfgcchammlpgaaVcOps
import Derived.Laws.BytesString
set_option linter.unusedVariables false
set_option linter.unusedSimpArgs false
namespace Go.Proofs.YtpfgcchammlpgaaV
open Go Go.RowKit Go.BigFrame

/-- Cells that are read one after the other. -/
def Rd (w : World) (b o : Nat) (cs : List Value) : Prop := ∀ j v, cs[j]? = some v → w.cell? ⟨b, o + j, none⟩ = some v

theorem Rd.nil {w : World} {b o : Nat} : Rd w b o [] := fun j v h => by simp at h
theorem Rd.app {w : World} {b o : Nat} {cs ds : List Value} (h : Rd w b o (cs ++ ds)) : Rd w b o cs ∧ Rd w b (o + cs.length) ds := by
  refine ⟨fun j v hj => h j v (by rw [List.getElem?_append_left (List.getElem?_eq_some_iff.1 hj).1]; exact hj), fun j v hj => ?_⟩
  have := h (cs.length + j) v (by rw [List.getElem?_append_right (by omega)]; simpa using hj)
  rwa [← Nat.add_assoc] at this
theorem Holds.rd {I : Imm} {w : World} {L : List Asn} {b e : Nat} {cs pre mid post : List Value} (h : Holds I w (blk b e cs :: L)) (hc : cs = pre ++ mid ++ post) : Rd w b pre.length mid := fun j v hj => h.cell (by
  have hl := (List.getElem?_eq_some_iff.1 hj).1
  rw [hc, List.append_assoc, List.getElem?_append_right (by omega), List.getElem?_append_left (by omega)]
  rw [show pre.length + j - pre.length = j by omega]
  exact hj)

theorem run_loadCells {P : Program} {w : World} {b o : Nat} {cs : List Value} {m : Nat} (hm : m = cs.length) (h : Rd w b o cs) : (loadCells ⟨b, o, none⟩ m).run P w = .ok cs.toArray w := by
  subst hm
  unfold loadCells
  have := run_loadCellsFrom (P := P) (w := w) (a := ⟨b, o, none⟩) cs 0 #[] (fun j v hj => by rw [Addr.add_mk, Nat.zero_add]; exact h j v hj)
  simpa using this

/-- A slice that is nobody else's: its cells, and the room behind them. -/
structure own (v : Value) (e sz n : Nat) (cs : List Value) (h : HL) : Prop where mk ::
  out : (v = .slice none 0 0 ∧ n = 0 ∧ cs = [] ∧ h = []) ∨
  ∃ b o cap pre rest, v = .slice (some ⟨b, o, none⟩) n cap ∧ n ≤ cap ∧ cs.length = n * sz ∧ pre.length = o ∧ (cap - n) * sz ≤ rest.length ∧ blk b e (pre ++ cs ++ rest) h

theorem Holds.own_cases {I : Imm} {w : World} {L : List Asn} {v : Value} {e sz n : Nat} {cs : List Value} (h : Holds I w (own v e sz n cs :: L)) :
    (v = .slice none 0 0 ∧ n = 0 ∧ cs = [] ∧ Holds I w L) ∨
    ∃ b o cap pre rest, v = .slice (some ⟨b, o, none⟩) n cap ∧ n ≤ cap ∧ cs.length = n * sz ∧ pre.length = o ∧ (cap - n) * sz ≤ rest.length ∧ Holds I w (blk b e (pre ++ cs ++ rest) :: L) := by
  obtain ⟨h1, h2, h3, h4, k, ⟨k1, k2, rfl, hx, hs⟩, ho⟩ := h
  rcases hx.out with ⟨a1, a2, a3, a4⟩ | ⟨b, o, cap, pre, rest, a1, a2, a3, a4, a5, hb⟩
  · subst a4
    exact .inl ⟨a1, a2, a3, h1, h2, h3, h4, k2, hs, ho⟩
  · exact .inr ⟨b, o, cap, pre, rest, a1, a2, a3, a4, a5, h1, h2, h3, h4, k1 ++ k2, ⟨k1, k2, rfl, hb, hs⟩, ho⟩
theorem Holds.own_nil {I : Imm} {w : World} {L : List Asn} {e sz : Nat} (h : Holds I w L) : Holds I w (own (.slice none 0 0) e sz 0 [] :: L) := by
  obtain ⟨h1, h2, h3, h4, k, hs, ho⟩ := h
  exact ⟨h1, h2, h3, h4, k, ⟨[], k, rfl, ⟨.inl ⟨rfl, rfl, rfl, rfl⟩⟩, hs⟩, ho⟩
theorem Holds.own_mk {I : Imm} {w : World} {L : List Asn} {b cap n e sz : Nat} {pre cs rest : List Value} (h : Holds I w (blk b e (pre ++ cs ++ rest) :: L)) (h1 : n ≤ cap) (h2 : cs.length = n * sz) (h3 : (cap - n) * sz ≤ rest.length) :
    Holds I w (own (.slice (some ⟨b, pre.length, none⟩) n cap) e sz n cs :: L) := by
  obtain ⟨a1, a2, a3, a4, k, ⟨k1, k2, rfl, hx, hs⟩, ho⟩ := h
  exact ⟨a1, a2, a3, a4, k1 ++ k2, ⟨k1, k2, rfl, ⟨.inr ⟨b, _, cap, pre, rest, rfl, h1, h2, rfl, h3, hx⟩⟩, hs⟩, ho⟩

theorem Holds.own_len {I : Imm} {w : World} {L : List Asn} {v : Value} {e sz n : Nat} {cs : List Value} (h : Holds I w (own v e sz n cs :: L)) : cs.length = n * sz ∧ ∃ a cap, v = .slice a n cap := by
  rcases h.own_cases with ⟨rfl, rfl, rfl, _⟩ | ⟨b, o, cap, pre, rest, rfl, h1, h2, h3, h4, _⟩
  · exact ⟨by simp, _, _, rfl⟩
  · exact ⟨h2, _, _, rfl⟩

/-- What an append takes from: cells of a slice, or a string's bytes. -/
inductive Src (w : World) (sz : Nat) : Value → Nat → List Value → Prop where
  | nil : Src w sz (.slice none 0 0) 0 []
  | empty {A : Option Addr} {c : Nat} : Src w sz (.slice A 0 c) 0 []
  | slice {b o m c : Nat} {cs : List Value} (hl : cs.length = m * sz) (h : Rd w b o cs) : Src w sz (.slice (some ⟨b, o, none⟩) m c) m cs
  | string {s : ByteArray} (h1 : sz = 1) : Src w sz (.string s) s.size (s.data.toList.map fun b => .int .u8 b.toNat)

theorem Src.run_len {P : Program} {w : World} {sz m : Nat} {v : Value} {cs : List Value} (h : Src w sz v m cs) : (Builtin.lenOf v).run P w = .ok m w := by cases h <;> rfl
theorem Src.run_cells {P : Program} {w : World} {sz m : Nat} {v : Value} {cs : List Value} (h : Src w sz v m cs) : (Builtin.firstCells sz m v).run P w = .ok cs.toArray w := by
  cases h with
  | nil => rfl
  | empty => rename_i A c; cases A <;> simp [Builtin.firstCells, loadCells, go_sem]
  | slice hl h => exact run_loadCells hl.symm h
  | string h1 =>
    rename_i s
    show Result.ok ((s.extract 0 s.size).data.map fun b => Value.int .u8 b.toNat) w = _
    rw [ByteArray.extract_zero_size, ← Array.toList_map]

theorem Src.len {w : World} {sz m : Nat} {v : Value} {cs : List Value} (h : Src w sz v m cs) : cs.length = m * sz := by
  cases h with
  | nil => simp
  | empty => simp
  | slice hl h => exact hl
  | string h1 => rw [h1, Nat.mul_one, List.length_map]; rfl

theorem Holds.own_src {I : Imm} {w : World} {L : List Asn} {v : Value} {e sz n : Nat} {cs : List Value} (h : Holds I w (own v e sz n cs :: L)) : Src w sz v n cs := by
  rcases h.own_cases with ⟨rfl, rfl, rfl, _⟩ | ⟨b, o, cap, pre, rest, rfl, h1, h2, h3, h4, h5⟩
  · exact .nil
  · subst h3; exact .slice h2 (h5.rd rfl)

theorem Src.of_heap {w w' : World} {sz m : Nat} {v : Value} {cs : List Value} (h : Src w sz v m cs) (hw : w'.heap = w.heap) : Src w' sz v m cs := by
  cases h with
  | nil => exact .nil
  | empty => exact .empty
  | slice hl h => exact .slice hl fun j v hj => by have := h j v hj; unfold World.cell? at this ⊢; rw [hw]; exact this
  | string h1 => exact .string h1

theorem zeroCells_size (z : Array Value) (n : Nat) : (Builtin.zeroCells z n).size = n * z.size := by simp [Builtin.zeroCells]

theorem cap_growBy (need : Nat) : ∀ (r c : Nat), c < need → Builtin.growBy need r c ≤ 2 * need + 1000 := by
  intro r
  induction r with
  | zero => intro c h; simp [Builtin.growBy]; omega
  | succ r ih =>
    intro c h
    unfold Builtin.growBy
    rw [if_neg (by omega)]
    by_cases hc : c + (c + 768) / 4 < need
    · exact ih _ hc
    · cases r with
      | zero => simp [Builtin.growBy]; omega
      | succ r => unfold Builtin.growBy; rw [if_pos (by omega)]; omega

theorem nextcap_le {need cap : Nat} (h : cap < need) : Builtin.nextslicecap need cap ≤ 2 * need + 1000 := by
  unfold Builtin.nextslicecap
  split
  · omega
  · split
    · omega
    · exact cap_growBy need 4 cap h

/-- What must be known of a slice type to append to it. -/
structure Elem (P : Program) (t e : Nat) (j : TI) : Prop where
  under : P.underlying t = some (.slice e)
  elem : TypeOk P e j
  pos : 0 < j.size
  zero : j.zero.cells.size = j.size
  bpos : 0 < j.bytes
  room : j.bytes * 1024 ≤ 2 ^ 40

theorem run_append {P : Program} {I : Imm} {L : List Asn} {w : World} {t e ty : Nat} {xt : Nat} {dx : TypeDesc} {j : TI} (hE : Elem P t e j) (hx : P.underlying xt = some dx) (hxn : ∀ k, dx ≠ .int k)
    {v x : Value} {n m : Nat} {cs ds : List Value} (H : Holds I w (own v e j.size n cs :: L)) (hs : Src w j.size x m ds) (h1 : ∀ u ∈ ds, oneC u = true) (hb : (n + m) * j.bytes ≤ 2 ^ 46) :
    ∃ v' w', (Builtin.append_ #[t, xt] ty #[v, x]).run P w = .ok v' w' ∧ Holds I w' (own v' e j.size (n + m) (cs ++ ds) :: L) := by
  have hd : (match dx with | TypeDesc.int k => true | x => false) = false := by cases dx <;> first | rfl | exact absurd rfl (hxn _)
  obtain ⟨hlen, a0, cap0, hv⟩ := H.own_len
  subst hv
  have hsz := hE.elem.run_size w
  have hdl := hs.len
  unfold Builtin.append_
  simp only [List.getElem?_toArray, List.getElem?_cons_zero, List.getElem?_cons_succ]
  rw [run_bind (run_underlying hE.under w)]
  dsimp only
  rw [run_bind hsz, run_bind (run_underlying hx w)]
  simp only [hd, pure_bind, Bool.false_eq_true, if_false, Bool.not_false, if_true, false_or]
  rw [run_bind hs.run_len]
  by_cases hfit : n + m ≤ cap0
  · rw [if_pos hfit]
    rw [run_bind hs.run_cells]
    rcases H.own_cases with ⟨he, rfl, rfl, H'⟩ | ⟨b, o, cap, pre, rest, he, h2, h3, h4, h5, H'⟩
    · injection he with he1 he2 he3
      subst he1; subst he3
      obtain rfl : m = 0 := by omega
      have : ds = [] := by simpa using hdl
      subst this
      refine ⟨_, w, ?_, by simpa using H'.own_nil (e := e) (sz := j.size)⟩
      rfl
    · injection he with he1 he2 he3
      subst he1; subst he3
      have hrl : m * j.size ≤ rest.length := by
        have : m * j.size ≤ (cap0 - n) * j.size := Nat.mul_le_mul_right _ (by omega)
        omega
      obtain ⟨w', h6, h7⟩ := run_storeCells (P := P) (o := o + n * j.size) ds 0 _ w H' (by simp; omega) h1
      refine ⟨.slice (some ⟨b, o, none⟩) (n + m) cap0, w', ?_, ?_⟩
      · have e1 : (⟨b, o, none⟩ : Addr).add (n * j.size) = ⟨b, o + n * j.size, none⟩ := Addr.add_mk _ _ _
        simp only [e1, List.toList_toArray]
        rw [run_bind h6]
        rfl
      · have e2 : over (pre ++ cs ++ rest) (o + n * j.size + 0) ds = pre ++ (cs ++ ds) ++ rest.drop ds.length := by
          unfold over
          have e3 : o + n * j.size + 0 = (pre ++ cs).length := by simp; omega
          rw [e3, List.take_left, List.drop_append]
          simp
        rw [e2] at h7
        rw [← h4]
        refine h7.own_mk hfit (by simp [hlen, hdl, Nat.add_mul]) ?_
        rw [List.length_drop, hdl, show cap0 - (n + m) = (cap0 - n) - m by omega, Nat.sub_mul]
        omega
  · rw [if_neg hfit]
    have hcap : cap0 < n + m := by omega
    have hbytes : Builtin.nextslicecap (n + m) cap0 * j.bytes ≤ 2 ^ 48 := by
      have h2 := nextcap_le hcap
      have h3 := hE.room
      calc _ ≤ (2 * (n + m) + 1000) * j.bytes := Nat.mul_le_mul_right _ h2
        _ = 2 * ((n + m) * j.bytes) + 1000 * j.bytes := by rw [Nat.add_mul, Nat.mul_assoc]
        _ ≤ 2 ^ 48 := by omega
    obtain ⟨ti, hi1, hi2, hi3, hi4⟩ := hE.elem.run_info w
    have hbp := hE.bpos
    have hneed : (n + m) ≤ 2 ^ 46 := Nat.le_trans (Nat.le_mul_of_pos_right _ hbp) hb
    rw [run_bind hi1]
    rw [if_neg (by rw [hi3]; omega), run_bind hi1, if_neg (by rw [hi3]; omega)]
    have hch : (choose (.appendCap (n + m) cap0 e)).run P w = .ok (n + m + w.tape w.drawn (.appendCap (n + m) cap0 e) % (2 ^ 63 - (n + m))) { w with drawn := w.drawn + 1 } := rfl
    rw [run_bind hch]
    have hge : n + m ≤ n + m + w.tape w.drawn (.appendCap (n + m) cap0 e) % (2 ^ 63 - (n + m)) := Nat.le_add_right _ _
    generalize n + m + w.tape w.drawn (.appendCap (n + m) cap0 e) % (2 ^ 63 - (n + m)) = newCap at hge ⊢
    have H1 := H.drew (w.drawn + 1)
    have hs1 := hs.of_heap (w' := { w with drawn := w.drawn + 1 }) rfl
    generalize ({ w with drawn := w.drawn + 1 } : World) = w1 at H1 hs1 ⊢
    obtain ⟨ti', hj1, hj2, hj3, hj4⟩ := hE.elem.run_info w1
    rw [run_bind hj1]
    have hroom : (askRoom (newCap * ti'.bytes)).run P w1 = .ok () w1 := by
      unfold askRoom
      split <;> rfl
    rw [run_bind hroom, run_bind H1.own_src.run_cells, run_bind hs1.run_cells, run_bind (hE.elem.run_zero w1)]
    have hrow : (newRow e (cs.toArray ++ ds.toArray ++ Builtin.zeroCells j.zero.cells (newCap - (n + m)))).run P w1 = .ok ⟨w1.heap.size, 0, none⟩ (w1.alloc (.cells (cs ++ ds ++ (Builtin.zeroCells j.zero.cells (newCap - (n + m))).toList).toArray e)) := by
      unfold newRow
      simp only [List.append_toArray, Array.toArray_toList, ← List.append_toArray]
      rfl
    rw [run_bind hrow]
    refine ⟨_, _, rfl, ?_⟩
    have H2 := (H1.allocBlk (cs ++ ds ++ (Builtin.zeroCells j.zero.cells (newCap - (n + m))).toList) e)
    have H3 : Holds I (w1.alloc (Obj.cells (cs ++ ds ++ (Builtin.zeroCells j.zero.cells (newCap - (n + m))).toList).toArray e)) (blk w1.heap.size e ([] ++ (cs ++ ds) ++ (Builtin.zeroCells j.zero.cells (newCap - (n + m))).toList) :: L) := by
      have := H2.swap.drop
      simpa using this
    exact H3.own_mk hge (by simp [hlen, hdl, Nat.add_mul]) (by rw [Array.length_toList, zeroCells_size, hE.zero]; exact Nat.le_refl _)

def elemJ (T : Tab) (t : Nat) : Option (Nat × TI) := match T.get t with
  | some i => match i.desc with
    | .slice e => match T.get e with
      | some j => match Nat.blt 0 j.size, Nat.blt 0 j.bytes, Nat.beq j.zero.cells.toList.length j.size, Nat.ble (j.bytes * 1024) (2 ^ 40) with
        | true, true, true, true => some (e, j)
        | _, _, _, _ => none
      | none => none
    | _ => none
  | none => none
theorem elemJ_sound {P : Program} {T : Tab} (hT : TabOk P T) {t e : Nat} {j : TI} (h : elemJ T t = some (e, j)) : Elem P t e j := by
  unfold elemJ at h
  split at h
  · rename_i i hi
    split at h
    · rename_i e' hd
      split at h
      · rename_i j' hj
        split at h
        · rename_i h1 h2 h3 h4
          simp only [Option.some.injEq, Prod.mk.injEq] at h
          obtain ⟨rfl, rfl⟩ := h
          refine ⟨by rw [← hd]; exact (hT.out t i hi).under, hT.out _ _ hj, by simpa [Nat.blt_eq] using h1, ?_, by simpa [Nat.blt_eq] using h2, Nat.le_of_ble_eq_true h4⟩
          simpa using Nat.eq_of_beq_eq_true h3
        · cases h
      · cases h
    · cases h
  · cases h

def noInt (T : Tab) (t : Nat) : Bool := match T.get t with
  | some i => match i.desc with
    | .int _ => false
    | _ => true
  | none => false
theorem noInt_sound {P : Program} {T : Tab} (hT : TabOk P T) {t : Nat} (h : noInt T t = true) : ∃ d, P.underlying t = some d ∧ ∀ k, d ≠ .int k := by
  unfold noInt at h
  split at h
  · rename_i i hi
    refine ⟨i.desc, (hT.out t i hi).under, fun k hk => ?_⟩
    rw [hk] at h
    cases h
  · cases h

section
variable {P : Program} {T : Tab} {n : Fi} {env : Env} {w : World}

theorem OpE.append {I : Imm} {L : List Asn} (hT : TabOk P T) {dst : Option Nat} {sx xx : Operand} {t xt ty : Nat} {pos : String} {after : Array Edge} {gd : Option (Nat × Bool)} {e : Nat} {j : TI} {v x : Value} {k m : Nat} {cs ds : List Value}
    (hs : opv env sx = some v) (hx : opv env xx = some x) (ht : elemJ T t = some (e, j)) (hxt : noInt T xt = true) (H : Holds I w (own v e j.size k cs :: L)) (hsrc : Src w j.size x m ds) (h1 : ∀ u ∈ ds, oneC u = true) (hb : (k + m) * j.bytes ≤ 2 ^ 46) :
    OpE P n env { dst, op := .call { callee := .builtin .append, args := #[sx, xx], argTypes := #[t, xt] }, type := ty, pos, after, guard := gd } w fun v' w' => Holds I w' (own v' e j.size (k + m) (cs ++ ds) :: L) := by
  obtain ⟨dx, h2, h3⟩ := noInt_sound hT hxt
  obtain ⟨v', w', h4, h5⟩ := run_append (ty := ty) (elemJ_sound hT ht) h2 h3 H hsrc h1 hb
  refine ⟨v', w', ⟨fun a ha => .inl ?_⟩, h5⟩
  rw [execOp_builtin, builtin_append]
  simp only [List.map_toArray, List.map_cons, List.map_nil]
  rw [opv_sound ha hs, opv_sound ha hx]
  exact run_v h4

theorem OpE.copy {I : Imm} {L : List Asn} (hT : TabOk P T) {dst : Option Nat} {dx xx : Operand} {t xt ty : Nat} {pos : String} {after : Array Edge} {gd : Option (Nat × Bool)} {e : Nat} {j : TI} {x : Value} {b o dl dc m : Nat} {cs ds : List Value}
    (hs : opv env dx = some (.slice (some ⟨b, o, none⟩) dl dc)) (hx : opv env xx = some x) (ht : elemJ T t = some (e, j)) (H : Holds I w (blk b e cs :: L)) (hsrc : ∀ k, k ≤ m → (Builtin.firstCells j.size k x).run P w = .ok (ds.take (k * j.size)).toArray w) (hlen : (Builtin.lenOf x).run P w = .ok m w) (hdl : ds.length = m * j.size)
    (h1 : ∀ u ∈ ds.take (min m dl * j.size), oneC u = true) (hb : o + (min m dl) * j.size ≤ cs.length) :
    OpE P n env { dst, op := .call { callee := .builtin .copy, args := #[dx, xx], argTypes := #[t, xt] }, type := ty, pos, after, guard := gd } w fun v' w' => v' = .int .i64 (min m dl : Nat) ∧ Holds I w' (blk b e (over cs o (ds.take (min m dl * j.size))) :: L) := by
  have hE := elemJ_sound hT ht
  have htl : (ds.take (min m dl * j.size)).length = min m dl * j.size := by
    rw [List.length_take, hdl]
    exact Nat.min_eq_left (Nat.mul_le_mul_right _ (Nat.min_le_left _ _))
  obtain ⟨w', h2, h3⟩ := run_storeCells (P := P) (o := o) (ds.take (min m dl * j.size)) 0 cs w H (by rw [htl]; omega) h1
  refine ⟨_, w', ⟨fun a ha => .inl ?_⟩, rfl, h3⟩
  rw [execOp_builtin, builtin_copy]
  simp only [List.map_toArray, List.map_cons, List.map_nil]
  rw [opv_sound ha hs, opv_sound ha hx]
  refine run_v ?_
  unfold Builtin.copy_
  simp only [List.getElem?_toArray, List.getElem?_cons_zero, List.getElem?_cons_succ]
  rw [run_bind (run_underlying hE.under w)]
  dsimp only
  rw [run_bind hlen, run_bind (hE.elem.run_size w), run_bind (hsrc _ (Nat.min_le_left _ _))]
  simp only [List.toList_toArray]
  have h2' : (storeCells ⟨b, o, none⟩ (List.take (m.min dl * j.size) ds)).run P w = .ok () w' := h2
  rw [run_bind h2']
  rfl

theorem firstCells_slice {b o m c sz : Nat} {ds : List Value} (h : Rd w b o ds) (hl : ds.length = m * sz) (k : Nat) (hk : k ≤ m) : (Builtin.firstCells sz k (.slice (some ⟨b, o, none⟩) m c)).run P w = .ok (ds.take (k * sz)).toArray w := by
  refine run_loadCells ?_ fun j v hj => ?_
  · rw [List.length_take, hl]; exact (Nat.min_eq_left (Nat.mul_le_mul_right _ hk)).symm
  · rw [List.getElem?_take] at hj
    split at hj
    · exact h j v hj
    · cases hj

def byteV (b : UInt8) : Value := .int .u8 b.toNat

theorem bytes_fold : ∀ (bs : List UInt8) (s : ByteArray), (bs.map fun b => (b.toNat : Int)).foldl (fun r n => r.push (UInt8.ofNat n.toNat)) s = ⟨s.data ++ bs.toArray⟩
  | [], s => by simp
  | b :: r, s => by
    simp only [List.map_cons, List.foldl_cons]
    rw [bytes_fold r]
    simp [ByteArray.push]

theorem OpV.ofBytes (hT : TabOk P T) {o : Oper} {s d e : Nat} {x : Operand} {v : Value} {is ie id : TI} {m : Nat} {bs : List UInt8} (ho : o.op = .convert s d x) (hx : opv env x = some v) (hs : T.get s = some is) (hsd : is.desc = .slice e) (he : T.get e = some ie) (hed : ie.desc = .int .u8) (hd : T.get d = some id) (hdd : id.desc = .string)
    (h : Src w 1 v m (bs.map byteV)) (hv : ∃ a c, v = .slice a m c) : OpV P n env o w (.string ⟨bs.toArray⟩) w := ⟨fun a ha => .inl (by
  unfold execOp
  rw [ho]
  dsimp only
  rw [opv_sound ha hx]
  refine run_v ?_
  obtain ⟨aa, c, rfl⟩ := hv
  rw [run_convert_bytes_string w s d e _ _ _ (by rw [← hsd]; exact (hT.out _ _ hs).under) (by rw [← hed]; exact (hT.out _ _ he).under) (by rw [← hdd]; exact (hT.out _ _ hd).under)]
  generalize hcs : bs.map byteV = cs at h
  cases h with
  | nil =>
    have : bs = [] := by simpa using hcs
    subst this
    rfl
  | empty =>
    have : bs = [] := by simpa using hcs
    subst this
    cases aa with
    | none => rfl
    | some a0 =>
      rw [run_bytesToString w _ _ _ []]
      · rfl
      · rfl
  | slice hl h =>
    subst hcs
    rw [run_bytesToString w _ _ _ (bs.map fun b => (b.toNat : Int))]
    · rw [bytes_fold]; simp
    · have := run_loadCells (P := P) (m := m) (by rw [hl, Nat.mul_one]) h
      rw [this, List.map_map]; rfl)⟩

/-- A string's bytes in memory of their own. -/
theorem OpE.toBytes {I : Imm} {L : List Asn} (hT : TabOk P T) (H : Holds I w L) {o : Oper} {s d e : Nat} {x : Operand} {str : ByteArray} {is ie id : TI} (ho : o.op = .convert s d x) (hx : opv env x = some (.string str)) (hs : T.get s = some is) (hsd : is.desc = .string) (hd : T.get d = some id) (hdd : id.desc = .slice e) (he : T.get e = some ie) (hed : ie.desc = .int .u8) :
    OpE P n env o w fun v' w' => Holds I w' (own v' e 1 str.size (str.data.toList.map byteV) :: L) := by
  have hch : (choose (.appendCap str.size 0 e)).run P w = .ok (str.size + w.tape w.drawn (.appendCap str.size 0 e) % (2 ^ 63 - str.size)) { w with drawn := w.drawn + 1 } := rfl
  have hge : str.size ≤ str.size + w.tape w.drawn (.appendCap str.size 0 e) % (2 ^ 63 - str.size) := Nat.le_add_right _ _
  generalize str.size + w.tape w.drawn (.appendCap str.size 0 e) % (2 ^ 63 - str.size) = cap at hge hch
  have H1 := H.drew (w.drawn + 1)
  generalize hw1 : ({ w with drawn := w.drawn + 1 } : World) = w1 at H1 hch
  let cs : List Value := str.data.toList.map byteV ++ List.replicate (cap - str.size) (.int .u8 0)
  have hsz : str.data.toList.length = str.size := rfl
  have hcl : cs.length = cap := by
    show (str.data.toList.map byteV ++ List.replicate (cap - str.size) (Value.int .u8 0)).length = cap
    rw [List.length_append, List.length_map, List.length_replicate, hsz]
    omega
  have H2 := H1.alloc (.cells cs.toArray e)
  have H3 := H2.put (w' := (w1.alloc (.cells cs.toArray e)).freeze ⟨w1.heap.size, cap, none⟩ 1) (o' := .cells cs.toArray e (cap, cap + 1)) rfl rfl rfl
    (by
      show ((w1.alloc (.cells cs.toArray e)).heap.modify w1.heap.size _)[w1.heap.size]? = _
      rw [Array.getElem?_modify, if_pos rfl, H2.pt]
      rfl)
    (fun c hc => by
      show ((w1.alloc (.cells cs.toArray e)).heap.modify w1.heap.size _)[c]? = _
      rw [Array.getElem?_modify, if_neg (Ne.symm hc)])
  have H4 : Holds I _ (blk w1.heap.size e cs :: L) := Holds.of_pt (fun i hi => by simp only; omega) H3
  refine ⟨.slice (some ⟨w1.heap.size, 0, none⟩) str.size cap, _, ⟨fun a ha => .inl ?_⟩, Holds.own_mk (pre := []) (rest := List.replicate (cap - str.size) (.int .u8 0)) H4 hge (by rw [List.length_map, hsz, Nat.mul_one]) (by rw [List.length_replicate, Nat.mul_one]; exact Nat.le_refl _)⟩
  unfold execOp
  rw [ho]
  dsimp only
  rw [opv_sound ha hx]
  refine run_v ?_
  unfold convert
  rw [run_bind ((hT.out _ _ hs).run_under w), run_bind ((hT.out _ _ hd).run_under w), hsd, hdd]
  dsimp only
  rw [run_bind ((hT.out _ _ he).run_under w), hed]
  dsimp only
  unfold Conv.stringToBytes
  rw [run_bind hch]
  have hrow : (newRow e (Array.map (fun b => Value.int .u8 b.toNat) str.data ++ Array.replicate (cap - str.size) (.int .u8 0))).run P w1 = .ok ⟨w1.heap.size, 0, none⟩ (w1.alloc (.cells cs.toArray e)) := by
    have e1 : Array.map (fun b => Value.int .u8 b.toNat) str.data ++ Array.replicate (cap - str.size) (.int .u8 0) = cs.toArray := by
      apply Array.toList_inj.1
      rw [Array.toList_append, Array.toList_map, Array.toList_replicate]
      rfl
    rw [e1]
    rfl
  dsimp only
  rw [run_bind hrow]
  have hsh : (shape w1.heap.size).run P (w1.alloc (.cells cs.toArray e)) = .ok (some (e, cap)) (w1.alloc (.cells cs.toArray e)) := by
    show Result.ok (World.shape? _ _) _ = _
    unfold World.shape?
    rw [H2.pt]
    dsimp only
    rw [List.size_toArray, hcl]
  have hm : (markStringish ⟨w1.heap.size, 0, none⟩).run P (w1.alloc (.cells cs.toArray e)) = .ok () ((w1.alloc (.cells cs.toArray e)).freeze ⟨w1.heap.size, cap, none⟩ 1) := by
    unfold markStringish
    rw [run_bind hsh]
    rfl
  rw [run_bind hm]
  rfl
end

/-! ### The rules, one an operation (what does not fit fails at once) -/
section
variable {P : Program} {T : Tab} {n : Fi} {ops : Array Oper} {K : Kont} {G : Gds} {env : Env} {w : World} {rest : List Oper} {dst : Nat} {ty : Nat} {pos : String} {after : Array Edge} {gd : Option (Nat × Bool)} {t : Nat} {x y : Operand}

theorem VcL.load1 {a : Addr} {v : Value} (hT : TabOk P T) (hx : opv env x = some (.pointer (some a))) (hg : gres ops G ⟨some dst, .load t x, ty, pos, after, gd⟩ = some true) (hn : inN n (some dst) = true) (ho : outG G (some dst) = true) (ht : isAggT T t = some false) (hc : w.cell? a = some v)
    (k : VcL P n ops K rest G ((dst, v) :: env) w) : VcL P n ops K (⟨some dst, .load t x, ty, pos, after, gd⟩ :: rest) G env w :=
  VcL.val hg hn ho (OpV.load rfl hx (LoadV.one hT ht hc)) k
theorem VcL.loadN {I : Imm} {L : List Asn} {b o e m : Nat} {cs vs : List Value} (hT : TabOk P T) (hx : opv env x = some (.pointer (some ⟨b, o, none⟩))) (hg : gres ops G ⟨some dst, .load t x, ty, pos, after, gd⟩ = some true) (hn : inN n (some dst) = true) (ho : outG G (some dst) = true) (ht : isAggT T t = some true) (hm : sizeT T t = some m)
    (H : Holds I w (blk b e cs :: L)) (hs : sub cs o m = some vs)
    (k : VcL P n ops K rest G ((dst, (.agg vs.toArray)) :: env) w) : VcL P n ops K (⟨some dst, .load t x, ty, pos, after, gd⟩ :: rest) G env w :=
  VcL.val hg hn ho (OpV.load rfl hx (LoadV.aggH hT ht hm H hs)) k
theorem VcL.indexAddr {b p len cap e sz : Nat} {kk : IntKind} {j : Int} (hT : TabOk P T) (hx : opv env x = some (.slice (some ⟨b, p, none⟩) len cap)) (hy : opv env y = some (.int kk j)) (hg : gres ops G ⟨some dst, .indexAddr t x y, ty, pos, after, gd⟩ = some true) (hn : inN n (some dst) = true) (ho : outG G (some dst) = true)
    (ht : elemT T t = some (e, sz)) (h0 : 0 ≤ j) (h1 : j < len) (k : VcL P n ops K rest G ((dst, (.pointer (some ⟨b, p + j.toNat * sz, none⟩))) :: env) w) : VcL P n ops K (⟨some dst, .indexAddr t x y, ty, pos, after, gd⟩ :: rest) G env w :=
  VcL.val hg hn ho (OpV.indexAddr hT rfl hx hy ht h0 h1) k
theorem VcL.indexAddr0 {b len cap e sz : Nat} {kk : IntKind} {j : Int} (hT : TabOk P T) (hx : opv env x = some (.slice (some ⟨b, 0, none⟩) len cap)) (hy : opv env y = some (.int kk j)) (hg : gres ops G ⟨some dst, .indexAddr t x y, ty, pos, after, gd⟩ = some true) (hn : inN n (some dst) = true) (ho : outG G (some dst) = true)
    (ht : elemT T t = some (e, sz)) (h0 : 0 ≤ j) (h1 : j < len) (k : VcL P n ops K rest G ((dst, (.pointer (some ⟨b, j.toNat * sz, none⟩))) :: env) w) : VcL P n ops K (⟨some dst, .indexAddr t x y, ty, pos, after, gd⟩ :: rest) G env w := by
  have := OpV.indexAddr (w := w) (n := n) (o := ⟨some dst, .indexAddr t x y, ty, pos, after, gd⟩) hT rfl hx hy ht h0 h1
  rw [Nat.zero_add] at this
  exact VcL.val hg hn ho this k
theorem VcL.index {s : ByteArray} {kk : IntKind} {j : Int} {i : TI} (hT : TabOk P T) (hx : opv env x = some (.string s)) (hy : opv env y = some (.int kk j)) (hg : gres ops G ⟨some dst, .index t x y, ty, pos, after, gd⟩ = some true) (hn : inN n (some dst) = true) (ho : outG G (some dst) = true)
    (ht : T.get t = some i) (hd : i.desc = .string) (h0 : 0 ≤ j) (h1 : j < s.size) (k : VcL P n ops K rest G ((dst, (.int .u8 (s[j.toNat]'(by omega)).toNat)) :: env) w) : VcL P n ops K (⟨some dst, .index t x y, ty, pos, after, gd⟩ :: rest) G env w :=
  VcL.val hg hn ho (OpV.index hT rfl hx hy ht hd h0 h1) k
theorem VcL.box {I : Imm} {L : List Asn} {e : Nat} {v : Value} {cs : List Value} (H : Holds I w L) (hx : opv env x = some v) (hc : cellsF v = some cs) (hg : gres ops G ⟨some dst, .box e x, ty, pos, after, gd⟩ = some true) (hn : inN n (some dst) = true) (ho : outG G (some dst) = true)
    (k : ∀ b w', Holds I w' (blk b e cs :: L) → VcL P n ops K rest G ((dst, (.pointer (some ⟨b, 0, none⟩))) :: env) w') : VcL P n ops K (⟨some dst, .box e x, ty, pos, after, gd⟩ :: rest) G env w :=
  VcL.eff hg hn ho (OpE.box H rfl hx hc) fun v w' ⟨b, hv, H'⟩ => by subst hv; exact k b w' H'
theorem VcL.alloc {I : Imm} {L : List Asn} {e : Nat} {cs : List Value} (hT : TabOk P T) (H : Holds I w L) (hc : zeroT T e = some cs) (hg : gres ops G ⟨some dst, .alloc e, ty, pos, after, gd⟩ = some true) (hn : inN n (some dst) = true) (ho : outG G (some dst) = true)
    (k : ∀ b w', Holds I w' (blk b e cs :: L) → VcL P n ops K rest G ((dst, (.pointer (some ⟨b, 0, none⟩))) :: env) w') : VcL P n ops K (⟨some dst, .alloc e, ty, pos, after, gd⟩ :: rest) G env w :=
  VcL.eff hg hn ho (OpE.alloc hT H rfl hc) fun v w' ⟨b, hv, H'⟩ => by subst hv; exact k b w' H'
theorem VcL.store {I : Imm} {L : List Asn} {b e i : Nat} {v : Value} {cs vs cs' : List Value} (hT : TabOk P T) (hx : opv env x = some (.pointer (some ⟨b, i, none⟩))) (H : Holds I w (blk b e cs :: L)) (hy : opv env y = some v)
    (hc : cellsF v = some vs) (h1 : vs.all oneC = true) (hs : sizeT T t = some vs.length) (hl : layF cs i vs = some cs') (hg : gres ops G ⟨none, .store t x y, ty, pos, after, gd⟩ = some true) 
    (k : ∀ w', Holds I w' (blk b e cs' :: L) → VcL P n ops K rest G env w') : VcL P n ops K (⟨none, .store t x y, ty, pos, after, gd⟩ :: rest) G env w := 
  VcL.eff hg rfl rfl (OpE.store hT H rfl hx hy hc h1 hs hl) fun v w' ⟨hv, H'⟩ => by subst hv; exact k w' H'
theorem VcL.callF {f m : Nat} {rs : List ResultVar} {c : Code} {xs : Array Operand} {ats : Array Nat} {vs : List Value} (hf : FnOk P f m rs c) (hx : opvs env xs.toList = some vs) (hg : gres ops G ⟨some dst, .call { callee := .value (.func f), args := xs, argTypes := ats }, ty, pos, after, gd⟩ = some true) (hn : inN n (some dst) = true) (ho : outG G (some dst) = true)
    (k : Rets P f vs.toArray w fun v w' => VcL P n ops K rest G ((dst, v) :: env) w') : VcL P n ops K (⟨some dst, .call { callee := .value (.func f), args := xs, argTypes := ats }, ty, pos, after, gd⟩ :: rest) G env w :=
  VcL.call hg hn ho (OpC.call hf hx) k

/-! ### .. in a region that draws its order -/
variable {S : Phase} {p : Plan} {i : Nat}

theorem Vc.drawnH {I : Imm} {L : List Asn} {id : Nat} {os : List Oper} (H : Holds I w L) (p : Plan) (hm : P.follows .mixedOrders = true) (hp : (planOk os.toArray p [] (Array.replicate os.toArray.size false) && Region.noSelect os.toArray && Nat.ble p.len os.toArray.size) = true)
    (k : ∀ w', Holds I w' L → VcD P n os.toArray (.one fun w => Holds I w L) K p [] env w') (hro : n.round = none := by rfl) : Vc P n (.region id os.toArray true) K env w :=
  Vc.drawn p (.one fun w => Holds I w L) hm hp (H.drew _) (k _ (H.drew _)) hro
theorem VcD.load1 {a : Addr} {v : Value} (hT : TabOk P T) (hi : nthO ops.toList i = some ⟨some dst, .load t x, ty, pos, after, gd⟩) (hx : opv env x = some (.pointer (some a))) (hg : gres ops G ⟨some dst, .load t x, ty, pos, after, gd⟩ = some true) (hn : inN n (some dst) = true) (ho : outG G (some dst) = true) (ht : isAggT T t = some false)
    (hc : ∀ w, S w → w.cell? a = some v) (hv : oneC v = true) (k : VcD P n ops S K p G ((dst, v) :: env) w) : VcD P n ops S K (.take i p) G env w :=
  VcD.val hi hg hn ho (fun w hw => OpV.load rfl hx (LoadV.one hT ht (hc w hw))) (fun e => by rw [e] at hv; cases hv) k
theorem VcD.loadN {I : Imm} {M : List Asn} {b o e m : Nat} {cs vs : List Value} (hT : TabOk P T) (hi : nthO ops.toList i = some ⟨some dst, .load t x, ty, pos, after, gd⟩) (hx : opv env x = some (.pointer (some ⟨b, o, none⟩))) (hg : gres ops G ⟨some dst, .load t x, ty, pos, after, gd⟩ = some true) (hn : inN n (some dst) = true) (ho : outG G (some dst) = true) (ht : isAggT T t = some true) (hm : sizeT T t = some m)
    (H : ∀ w, S w → Holds I w (blk b e cs :: M)) (hs : sub cs o m = some vs) (k : VcD P n ops S K p G ((dst, (.agg vs.toArray)) :: env) w) : VcD P n ops S K (.take i p) G env w :=
  VcD.val hi hg hn ho (fun w hw => OpV.load rfl hx (LoadV.aggH hT ht hm (H w hw) hs)) (fun e => by cases e) k
theorem VcD.loadR {b o m : Nat} {vs : List Value} (hT : TabOk P T) (hi : nthO ops.toList i = some ⟨some dst, .load t x, ty, pos, after, gd⟩) (hx : opv env x = some (.pointer (some ⟨b, o, none⟩))) (hg : gres ops G ⟨some dst, .load t x, ty, pos, after, gd⟩ = some true) (hn : inN n (some dst) = true) (ho : outG G (some dst) = true) (ht : isAggT T t = some true) (hm : sizeT T t = some m)
    (h : ∀ w, S w → Rd w b o vs) (hl : vs.length = m) (k : VcD P n ops S K p G ((dst, (.agg vs.toArray)) :: env) w) : VcD P n ops S K (.take i p) G env w :=
  VcD.val hi hg hn ho (fun w hw => OpV.load rfl hx (LoadV.agg hT ht (by rw [hl]; exact hm) (h w hw))) (fun e => by cases e) k
theorem VcL.loadR {b o m : Nat} {vs : List Value} (hT : TabOk P T) (hx : opv env x = some (.pointer (some ⟨b, o, none⟩))) (hg : gres ops G ⟨some dst, .load t x, ty, pos, after, gd⟩ = some true) (hn : inN n (some dst) = true) (ho : outG G (some dst) = true) (ht : isAggT T t = some true) (hm : sizeT T t = some m)
    (h : Rd w b o vs) (hl : vs.length = m) (k : VcL P n ops K rest G ((dst, (.agg vs.toArray)) :: env) w) : VcL P n ops K (⟨some dst, .load t x, ty, pos, after, gd⟩ :: rest) G env w :=
  VcL.val hg hn ho (OpV.load rfl hx (LoadV.agg hT ht (by rw [hl]; exact hm) h)) k
theorem VcD.indexAddr {b p' len cap e sz : Nat} {kk : IntKind} {j : Int} (hT : TabOk P T) (hi : nthO ops.toList i = some ⟨some dst, .indexAddr t x y, ty, pos, after, gd⟩) (hx : opv env x = some (.slice (some ⟨b, p', none⟩) len cap)) (hy : opv env y = some (.int kk j)) (hg : gres ops G ⟨some dst, .indexAddr t x y, ty, pos, after, gd⟩ = some true) (hn : inN n (some dst) = true) (ho : outG G (some dst) = true)
    (ht : elemT T t = some (e, sz)) (h0 : 0 ≤ j) (h1 : j < len) (k : VcD P n ops S K p G ((dst, (.pointer (some ⟨b, p' + j.toNat * sz, none⟩))) :: env) w) : VcD P n ops S K (.pure i p) G env w :=
  VcD.valP hi hg hn ho (fun w => OpV.indexAddr hT rfl hx hy ht h0 h1) (fun e => by cases e) k
theorem VcD.indexAddr0 {b len cap e sz : Nat} {kk : IntKind} {j : Int} (hT : TabOk P T) (hi : nthO ops.toList i = some ⟨some dst, .indexAddr t x y, ty, pos, after, gd⟩) (hx : opv env x = some (.slice (some ⟨b, 0, none⟩) len cap)) (hy : opv env y = some (.int kk j)) (hg : gres ops G ⟨some dst, .indexAddr t x y, ty, pos, after, gd⟩ = some true) (hn : inN n (some dst) = true) (ho : outG G (some dst) = true)
    (ht : elemT T t = some (e, sz)) (h0 : 0 ≤ j) (h1 : j < len) (k : VcD P n ops S K p G ((dst, (.pointer (some ⟨b, j.toNat * sz, none⟩))) :: env) w) : VcD P n ops S K (.pure i p) G env w :=
  VcD.valP hi hg hn ho (fun w => by
    have := OpV.indexAddr (w := w) (n := n) (o := ⟨some dst, .indexAddr t x y, ty, pos, after, gd⟩) hT rfl hx hy ht h0 h1
    rw [Nat.zero_add] at this
    exact this) (fun e => by cases e) k
theorem VcD.callF {f m : Nat} {rs : List ResultVar} {c : Code} {xs : Array Operand} {ats : Array Nat} {vs : List Value} (hi : nthO ops.toList i = some ⟨some dst, .call { callee := .value (.func f), args := xs, argTypes := ats }, ty, pos, after, gd⟩) (hf : FnOk P f m rs c) (hx : opvs env xs.toList = some vs) (hg : gres ops G ⟨some dst, .call { callee := .value (.func f), args := xs, argTypes := ats }, ty, pos, after, gd⟩ = some true) (hn : inN n (some dst) = true) (ho : outG G (some dst) = true)
    (k : Rets P f vs.toArray w fun v w' => (S.next i) w' ∧ VcD P n ops (S.next i) K p G ((dst, v) :: env) w') : VcD P n ops S K (.only i p) G env w :=
  VcD.only (EfO.call hi hg hn ho (OpC.call hf hx) k)
theorem VcD.skip {o : Oper} {G' : Gds} {env' : Env} (hi : nthO ops.toList i = some o) (hg : gres ops G o = some false) (h : Go.Proofs.YtpfgcchammlpgaaV.stepP [] ops n G env o = some (G', env')) (hS : (S.next i) w) (k : VcD P n ops (S.next i) K p G' env' w) : VcD P n ops S K (.only i p) G env w :=
  VcD.only (EfO.skip hi hg h hS k)
theorem VcD.guardP {j d : Nat} {want b : Bool} {o o' : Oper} (hi : nthO ops.toList i = some o) (hg : o.guard = some (j, want)) (hj : nthO ops.toList j = some o') (hd : o'.dst = some d) (hb : env.get d = some (.bool b))
    (hx : b = true → VcD P n ops S K (.pure i p) ((d, some true) :: G) ((d, .bool true) :: env) w) (hy : b = false → VcD P n ops S K (.pure i p) ((d, some false) :: G) ((d, .bool false) :: env) w) : VcD P n ops S K (.pure i p) G env w := VcD.guard hi hg hj hd hb hx hy
/-- A load that is not wanted. -/
theorem VcD.skipT {o : Oper} {G' : Gds} {env' : Env} (hi : nthO ops.toList i = some o) (hg : gres ops G o = some false) (h : Go.Proofs.YtpfgcchammlpgaaV.stepP [] ops n G env o = some (G', env')) (k : VcD P n ops S K p G' env' w) : VcD P n ops S K (.take i p) G env w := by
  obtain ⟨v, h1, h2⟩ := stepP_sound (P := P) TabOk.nil h
  refine VcD.takeY hi (fun a ha hG => ?_) h2 k
  have hw := gres_sound ha hG hg
  rcases h1 a ha hG with h5 | h5
  · rw [hw] at h5; cases h5.1
  · exact .inr h5
theorem VcD.guardT {j d : Nat} {want b : Bool} {o o' : Oper} (hi : nthO ops.toList i = some o) (hg : o.guard = some (j, want)) (hj : nthO ops.toList j = some o') (hd : o'.dst = some d) (hb : env.get d = some (.bool b))
    (hx : b = true → VcD P n ops S K (.take i p) ((d, some true) :: G) ((d, .bool true) :: env) w) (hy : b = false → VcD P n ops S K (.take i p) ((d, some false) :: G) ((d, .bool false) :: env) w) : VcD P n ops S K (.take i p) G env w := VcD.guard hi hg hj hd hb hx hy
theorem VcD.guardO {j d : Nat} {want b : Bool} {o o' : Oper} (hi : nthO ops.toList i = some o) (hg : o.guard = some (j, want)) (hj : nthO ops.toList j = some o') (hd : o'.dst = some d) (hb : env.get d = some (.bool b))
    (hx : b = true → VcD P n ops S K (.only i p) ((d, some true) :: G) ((d, .bool true) :: env) w) (hy : b = false → VcD P n ops S K (.only i p) ((d, some false) :: G) ((d, .bool false) :: env) w) : VcD P n ops S K (.only i p) G env w := VcD.guard hi hg hj hd hb hx hy
end

/-! ### What never changes, read -/
/-- Cells from a place on, in blocks that never change. -/
structure RdI (I : Imm) (b o : Nat) (cs : List Value) : Prop where mk ::
  out : ∀ j v, cs[j]? = some v → ∃ c e fr, I.blk b = some (.cells c e fr) ∧ c[o + j]? = some v
theorem RdI.rd {I : Imm} {w : World} {L : List Asn} {b o : Nat} {cs : List Value} (h : RdI I b o cs) (H : Holds I w L) : Rd w b o cs := fun j v hj => by
  obtain ⟨c, e, fr, h1, h2⟩ := h.out j v hj
  exact H.immCell h1 h2
theorem RdI.get {I : Imm} {w : World} {L : List Asn} {b o k : Nat} {cs : List Value} {v : Value} (h : RdI I b o cs) (hk : cs[k]? = some v) (H : Holds I w L) : w.cell? ⟨b, o + k, none⟩ = some v := h.rd H k v hk
theorem RdI.get0 {I : Imm} {w : World} {L : List Asn} {b o : Nat} {cs : List Value} {v : Value} (h : RdI I b o cs) (hk : cs[0]? = some v) (H : Holds I w L) : w.cell? ⟨b, o, none⟩ = some v := h.rd H 0 v hk
theorem RdI.part {I : Imm} {b o : Nat} {pre mid post : List Value} (h : RdI I b o (pre ++ mid ++ post)) : RdI I b (o + pre.length) mid := ⟨fun j v hj => by
  have hl := (List.getElem?_eq_some_iff.1 hj).1
  obtain ⟨c, e, fr, h1, h2⟩ := h.out (pre.length + j) v (by
    rw [List.append_assoc, List.getElem?_append_right (by omega), List.getElem?_append_left (by omega), show pre.length + j - pre.length = j by omega]
    exact hj)
  exact ⟨c, e, fr, h1, by rw [Nat.add_assoc]; exact h2⟩⟩
/-- An element of a row. -/
theorem RdI.elem {α : Type} {I : Imm} {b o sz : Nat} {enc : α → List Value} (he : ∀ x, (enc x).length = sz) {l : List α} (h : RdI I b o (l.flatMap enc)) {k : Nat} {x : α} (hx : l[k]? = some x) : RdI I b (o + k * sz) (enc x) := by
  have hlt := (List.getElem?_eq_some_iff.1 hx).1
  have e1 : l = l.take k ++ x :: l.drop (k + 1) := by
    rw [← (List.getElem?_eq_some_iff.1 hx).2, List.getElem_cons_drop, List.take_append_drop]
  rw [e1, List.flatMap_append, List.flatMap_cons, ← List.append_assoc] at h
  have h2 := h.part
  have e2 : ((l.take k).flatMap enc).length = k * sz := by
    have : ∀ m : List α, (m.flatMap enc).length = m.length * sz := fun m => by
      induction m with
      | nil => simp
      | cons y m ih => rw [List.flatMap_cons, List.length_append, he, ih, List.length_cons, Nat.succ_mul]; omega
    rw [this, List.length_take, Nat.min_eq_left (by omega)]
  rwa [e2] at h2
theorem flat_len {α : Type} {enc : α → List Value} {sz : Nat} (he : ∀ x, (enc x).length = sz) (m : List α) : (m.flatMap enc).length = m.length * sz := by
  induction m with
  | nil => simp
  | cons y m ih => rw [List.flatMap_cons, List.length_append, he, ih, List.length_cons, Nat.succ_mul]; omega
/-- A slice of n elements, in blocks that never change. -/
structure SlI (I : Imm) (v : Value) (sz n : Nat) (cs : List Value) : Prop where mk ::
  out : ∃ A cap, v = .slice A n cap ∧ cs.length = n * sz ∧ n ≤ cap ∧ (A = none → n = 0 ∧ cap = 0) ∧ ∀ a, A = some a → 0 < n → ∃ b o, a = ⟨b, o, none⟩ ∧ RdI I b o cs
theorem SlI.src {I : Imm} {w : World} {L : List Asn} {v : Value} {sz n : Nat} {cs : List Value} (h : SlI I v sz n cs) (H : Holds I w L) : Src w sz v n cs := by
  obtain ⟨A, cap, rfl, h1, h2, h3, h4⟩ := h.out
  cases A with
  | none =>
    obtain ⟨rfl, rfl⟩ := h3 rfl
    have : cs = [] := by simpa using h1
    subst this
    exact .nil
  | some a =>
    cases n with
    | zero =>
      have : cs = [] := by simpa using h1
      subst this
      exact .empty
    | succ n =>
      obtain ⟨b, o, rfl, h5⟩ := h4 a rfl (by omega)
      exact .slice h1 (h5.rd H)
theorem SlI.at {I : Imm} {A : Option Addr} {cap sz n : Nat} {cs : List Value} (h : SlI I (.slice A n cap) sz n cs) (hn : 0 < n) : ∃ b o, A = some ⟨b, o, none⟩ ∧ RdI I b o cs := by
  obtain ⟨A', cap', e, h1, h2, h3, h4⟩ := h.out
  injection e with e1 e2 e3
  subst e1; subst e3
  cases A with
  | none => have := h3 rfl; omega
  | some a => obtain ⟨b, o, rfl, h5⟩ := h4 a rfl hn; exact ⟨b, o, rfl, h5⟩
theorem SlI.form {I : Imm} {v : Value} {sz n : Nat} {cs : List Value} (h : SlI I v sz n cs) : ∃ A cap, v = .slice A n cap ∧ n ≤ cap := by
  obtain ⟨A, cap, h1, _, h2, _⟩ := h.out
  exact ⟨A, cap, h1, h2⟩
theorem ndec_t {p : Prop} [Decidable p] (h : (!decide p) = true) : ¬ p := by simpa using h
theorem ndec_f {p : Prop} [Decidable p] (h : (!decide p) = false) : p := by simpa using h
theorem wrap_i64 {x : Int} (h0 : -9223372036854775808 ≤ x) (h1 : x < 9223372036854775808) : IntKind.i64.wrap x = x := by
  have e1 : (2 : Int) ^ 64 = 18446744073709551616 := by decide
  have e2 : (2 : Int) ^ (64 - 1) = 9223372036854775808 := by decide
  simp only [IntKind.wrap, IntKind.signed, IntKind.bits, e1, e2, Bool.true_and, decide_eq_true_eq]
  split <;> omega
theorem wrap_u8 (x : Int) : IntKind.u8.wrap x = x % 256 := by
  have e1 : (2 : Int) ^ 8 = 256 := by decide
  simp only [IntKind.wrap, IntKind.signed, IntKind.bits, e1, Bool.false_and, Bool.false_eq_true, if_false]
theorem wrap_u32 (x : Int) : IntKind.u32.wrap x = x % 4294967296 := by
  have e1 : (2 : Int) ^ 32 = 4294967296 := by decide
  simp only [IntKind.wrap, IntKind.signed, IntKind.bits, e1, Bool.false_and, Bool.false_eq_true, if_false]

/-! ### What reads so in every world in which L holds -/
structure RdW (I : Imm) (L : List Asn) (b o : Nat) (cs : List Value) : Prop where mk ::
  out : ∀ w, Holds I w L → Rd w b o cs
theorem RdI.toW {I : Imm} {L : List Asn} {b o : Nat} {cs : List Value} (h : RdI I b o cs) : RdW I L b o cs := ⟨fun w H => h.rd H⟩
theorem RdW.get {I : Imm} {w : World} {L : List Asn} {b o k : Nat} {cs : List Value} {v : Value} (h : RdW I L b o cs) (hk : cs[k]? = some v) (H : Holds I w L) : w.cell? ⟨b, o + k, none⟩ = some v := h.out w H k v hk
theorem RdW.get0 {I : Imm} {w : World} {L : List Asn} {b o : Nat} {cs : List Value} {v : Value} (h : RdW I L b o cs) (hk : cs[0]? = some v) (H : Holds I w L) : w.cell? ⟨b, o, none⟩ = some v := h.out w H 0 v hk
theorem RdW.rd {I : Imm} {w : World} {L : List Asn} {b o : Nat} {cs : List Value} (h : RdW I L b o cs) (H : Holds I w L) : Rd w b o cs := h.out w H
theorem Rd.elem {α : Type} {w : World} {b o sz : Nat} {enc : α → List Value} (he : ∀ x, (enc x).length = sz) {l : List α} (h : Rd w b o (l.flatMap enc)) {k : Nat} {x : α} (hx : l[k]? = some x) : Rd w b (o + k * sz) (enc x) := by
  have hlt := (List.getElem?_eq_some_iff.1 hx).1
  have e1 : l = l.take k ++ x :: l.drop (k + 1) := by
    rw [← (List.getElem?_eq_some_iff.1 hx).2, List.getElem_cons_drop, List.take_append_drop]
  rw [e1, List.flatMap_append, List.flatMap_cons, ← List.append_assoc] at h
  have h2 := h.app.1.app.2
  rwa [flat_len he, List.length_take, Nat.min_eq_left (by omega)] at h2
theorem RdW.elem {α : Type} {I : Imm} {L : List Asn} {b o sz : Nat} {enc : α → List Value} (he : ∀ x, (enc x).length = sz) {l : List α} (h : RdW I L b o (l.flatMap enc)) {k : Nat} {x : α} (hx : l[k]? = some x) : RdW I L b (o + k * sz) (enc x) :=
  ⟨fun w H => (h.out w H).elem he hx⟩
theorem RdW.one {I : Imm} {L : List Asn} {b o k : Nat} {cs : List Value} {v : Value} (h : RdW I L b o cs) (hk : cs[k]? = some v) : RdW I L b (o + k) [v] := ⟨fun w H j u hj => by
  cases j with
  | zero => simp at hj; subst hj; exact h.out w H k v hk
  | succ j => simp at hj⟩
structure SlR (I : Imm) (L : List Asn) (v : Value) (sz n : Nat) (cs : List Value) : Prop where mk ::
  out : ∃ A cap, v = .slice A n cap ∧ cs.length = n * sz ∧ n ≤ cap ∧ (A = none → n = 0 ∧ cap = 0) ∧ ∀ a, A = some a → 0 < n → ∃ b o, a = ⟨b, o, none⟩ ∧ RdW I L b o cs
theorem SlI.toR {I : Imm} {L : List Asn} {v : Value} {sz n : Nat} {cs : List Value} (h : SlI I v sz n cs) : SlR I L v sz n cs := by
  obtain ⟨A, cap, h1, h2, h3, h4, h5⟩ := h.out
  exact ⟨A, cap, h1, h2, h3, h4, fun a ha h0 => by obtain ⟨b, o, e, h6⟩ := h5 a ha h0; exact ⟨b, o, e, h6.toW⟩⟩
theorem Holds.own_toR {I : Imm} {w : World} {L : List Asn} {v : Value} {e sz n : Nat} {cs : List Value} (h : Holds I w (own v e sz n cs :: L)) : SlR I (own v e sz n cs :: L) v sz n cs := by
  rcases h.own_cases with ⟨rfl, rfl, rfl, _⟩ | ⟨b, o, cap, pre, rest, rfl, h1, h2, h3, h4, h5⟩
  · exact ⟨none, 0, rfl, by simp, Nat.le_refl _, fun _ => ⟨rfl, rfl⟩, fun a ha _ => by cases ha⟩
  · refine ⟨some ⟨b, o, none⟩, cap, rfl, h2, h1, (fun e => by cases e), fun a ha h0 => ?_⟩
    simp only [Option.some.injEq] at ha
    subst ha
    refine ⟨b, o, rfl, ⟨fun w' H' => ?_⟩⟩
    have := H'.own_src
    cases this with
    | empty => omega
    | slice hl h => exact h
theorem SlR.at {I : Imm} {L : List Asn} {A : Option Addr} {cap sz n : Nat} {cs : List Value} (h : SlR I L (.slice A n cap) sz n cs) (hn : 0 < n) : ∃ b o, A = some ⟨b, o, none⟩ ∧ RdW I L b o cs := by
  obtain ⟨A', cap', e, h1, h2, h3, h4⟩ := h.out
  injection e with e1 e2 e3
  subst e1; subst e3
  cases A with
  | none => have := h3 rfl; omega
  | some a => obtain ⟨b, o, rfl, h5⟩ := h4 a rfl hn; exact ⟨b, o, rfl, h5⟩
theorem SlR.form {I : Imm} {L : List Asn} {v : Value} {sz n : Nat} {cs : List Value} (h : SlR I L v sz n cs) : ∃ A cap, v = .slice A n cap ∧ n ≤ cap := by
  obtain ⟨A, cap, h1, _, h2, _⟩ := h.out
  exact ⟨A, cap, h1, h2⟩
theorem SlR.len {I : Imm} {L : List Asn} {v : Value} {sz n : Nat} {cs : List Value} (h : SlR I L v sz n cs) : cs.length = n * sz := by
  obtain ⟨A, cap, h1, h2, _⟩ := h.out
  exact h2
theorem SlR.src {I : Imm} {w : World} {L : List Asn} {v : Value} {sz n : Nat} {cs : List Value} (h : SlR I L v sz n cs) (H : Holds I w L) : Src w sz v n cs := by
  obtain ⟨A, cap, rfl, h1, h2, h3, h4⟩ := h.out
  cases A with
  | none =>
    obtain ⟨rfl, rfl⟩ := h3 rfl
    have : cs = [] := by simpa using h1
    subst this
    exact .nil
  | some a =>
    cases n with
    | zero =>
      have : cs = [] := by simpa using h1
      subst this
      exact .empty
    | succ n =>
      obtain ⟨b, o, rfl, h5⟩ := h4 a rfl (by omega)
      exact .slice h1 (h5.rd H)
/-- More holds. -/
theorem SlR.more {I : Imm} {L M : List Asn} {v : Value} {sz n : Nat} {cs : List Value} (h : SlR I L v sz n cs) (hm : ∀ w, Holds I w M → Holds I w L) : SlR I M v sz n cs := by
  obtain ⟨A, cap, h1, h2, h3, h4, h5⟩ := h.out
  exact ⟨A, cap, h1, h2, h3, h4, fun a ha h0 => by obtain ⟨b, o, e, h6⟩ := h5 a ha h0; exact ⟨b, o, e, ⟨fun w H => h6.out w (hm w H)⟩⟩⟩
theorem SlR.up {I : Imm} {L : List Asn} {A : Asn} {v : Value} {sz n : Nat} {cs : List Value} (h : SlR I L v sz n cs) : SlR I (A :: L) v sz n cs := h.more fun w H => H.drop
theorem wrap_pred (k : Nat) (h0 : 0 < k) (h1 : k < 4611686018427387904) : IntKind.i64.wrap ((k : Int) - 1) = ((k - 1 : Nat) : Int) := by
  rw [wrap_i64 (by omega) (by omega)]; omega
theorem wrap_succ (k : Nat) (h1 : k < 4611686018427387904) : IntKind.i64.wrap ((k : Int) + 1) = ((k + 1 : Nat) : Int) := by
  rw [wrap_i64 (by omega) (by omega)]; omega
theorem got_succ {env : Env} {t k : Nat} (h : Env.get env t = some (.int .i64 (IntKind.i64.wrap ((k : Int) + 1)))) (hk : k < 4611686018427387904) : Env.get env t = some (.int .i64 ((k + 1 : Nat) : Int)) := by
  rw [h, wrap_i64 (by omega) (by omega)]
  rfl
section
variable {P : Program} {T : Tab} {n : Fi} {ops : Array Oper} {K : Kont} {G : Gds} {env : Env} {w : World} {rest : List Oper} {dst : Nat} {ty : Nat} {pos : String} {after : Array Edge} {gd : Option (Nat × Bool)}
theorem VcL.callV {f m t : Nat} {rs : List ResultVar} {c : Code} {xs : Array Operand} {ats : Array Nat} {vs : List Value} {p q : Array Value} (hf : FnOk P f m rs c) (ht : env.get t = some (.func (.func f) p q)) (hx : opvs env xs.toList = some vs) (hg : gres ops G ⟨some dst, .call { callee := .value (.tmp t), args := xs, argTypes := ats }, ty, pos, after, gd⟩ = some true) (hn : inN n (some dst) = true) (ho : outG G (some dst) = true)
    (k : Rets P f (p ++ vs.toArray ++ q) w fun v w' => VcL P n ops K rest G ((dst, v) :: env) w') : VcL P n ops K (⟨some dst, .call { callee := .value (.tmp t), args := xs, argTypes := ats }, ty, pos, after, gd⟩ :: rest) G env w :=
  VcL.call hg hn ho (OpC.callV hf ht hx) k

def repL (n : Nat) (z : List Value) : List Value := (List.replicate n z).flatten
theorem repL_length (n : Nat) (z : List Value) : (repL n z).length = n * z.length := by
  unfold repL
  induction n with
  | zero => simp
  | succ n ih => rw [List.replicate_succ, List.flatten_cons, List.length_append, ih, Nat.succ_mul]; omega
theorem range_rep (z : Array Value) (sz : Nat) (hz : z.size = sz) (h0 : 0 < sz) (n : Nat) : ((Array.range (n * sz)).map (z[· % z.size]!)) = (repL n z.toList).toArray := by
  apply Array.toList_inj.1
  rw [Array.toList_map, Array.toList_range]
  induction n with
  | zero => simp [repL]
  | succ n ih =>
    have e1 : repL (n + 1) z.toList = repL n z.toList ++ z.toList := by
      unfold repL
      rw [List.replicate_succ', List.flatten_append]
      simp
    rw [e1, Nat.succ_mul, List.range_add, List.map_append, ih]
    congr 1
    rw [List.map_map]
    apply List.ext_getElem
    · simp [hz]
    · intro i h1 h2
      simp only [List.length_map, List.length_range] at h1
      simp only [List.getElem_map, List.getElem_range, Function.comp]
      rw [hz, Nat.mul_comm, Nat.mul_add_mod, Nat.mod_eq_of_lt h1, getElem!_pos z i (by omega)]
      simp
/-- The cells of a slice that is written out. -/
def layS (sz : Nat) (env : Env) : List Value → List (Nat × Operand) → Option (List Value)
  | l, [] => some l
  | l, (i, x) :: r => match opv env x with
    | some v => match cellsF v with
      | some (c :: cs) => match Nat.beq (c :: cs).length sz, layF l (i * sz) (c :: cs) with
        | true, some l => layS sz env l r
        | _, _ => none
      | _ => none
    | none => none
theorem layS_sound {sz : Nat} {env : Env} {a : Act} (ha : Ag n env a) : ∀ {ps : List (Nat × Operand)} {l l' : List Value}, layS sz env l ps = some l' → Instr.fill (fun i => some (i * sz, sz)) l.toArray (ps.map fun p => (p.1, a.eval p.2)) = some l'.toArray ∧ l'.length = l.length
  | [], l, l', h => by simp [layS] at h; simp [Instr.fill, h]
  | (i, x) :: r, l, l', h => by
    unfold layS at h
    split at h
    · rename_i v hv
      split at h
      · rename_i c cs hc
        split at h
        · rename_i m hs hl
          obtain ⟨h5, h6, h7⟩ := layF_foldl (k := 0) (o := i * sz) (by simpa using hl)
          have h8 := cellsF_eq hc
          have h9 := Nat.eq_of_beq_eq_true hs
          obtain ⟨h10, h11⟩ := layS_sound ha h
          refine ⟨?_, by rw [h11, h6]⟩
          simp only [List.map_cons, Instr.fill, opv_sound ha hv]
          rw [if_neg]
          · rw [← h10, ← h5]
            congr 1
            rw [h8, ← Array.foldl_toList]
            simp [Array.toList_zipIdx]
          · rw [h8]
            simp only [Bool.or_eq_true, decide_eq_true_eq, not_or, List.size_toArray]
            have : i * sz + (c :: cs).length ≤ l.length := by
              rcases h7 with h7 | h7
              · cases h7
              · simpa using h7
            constructor
            · simp [h9]
            · omega
        · cases h
      · cases h
    · cases h

theorem OpE.buildSlice {I : Imm} {L : List Asn} (hT : TabOk P T) (H : Holds I w L) {o : Oper} {t e m : Nat} {j : TI} {ps : Array (Nat × Operand)} {cs : List Value} (ho : o.op = .buildSlice t m ps) (ht : elemJ T t = some (e, j)) (hc : layS j.size env (repL m j.zero.cells.toList) ps.toList = some cs) (hm : Nat.ble (m * j.size) 16777216 = true) :
    OpE P n env o w fun v w' => Holds I w' (own v e j.size m cs :: L) := by
  have hE := elemJ_sound hT ht
  have hz : (repL m j.zero.cells.toList).length = m * j.size := by rw [repL_length, Array.length_toList, hE.zero]
  refine ⟨.slice (some ⟨w.heap.size, 0, none⟩) m m, w.alloc (.cells cs.toArray e), ⟨fun a ha => .inl ?_⟩, ?_⟩
  · obtain ⟨h1, h2⟩ := layS_sound ha hc
    unfold execOp
    rw [ho]
    dsimp only
    refine run_v ?_
    unfold Instr.buildSlice
    rw [run_bind (run_underlying hE.under w)]
    dsimp only
    rw [run_bind (hE.elem.run_size w), if_neg (by have := Nat.le_of_ble_eq_true hm; omega)]
    have e2 : (ps.map fun (i, x) => (i, a.eval x)).toList = ps.toList.map fun p => (p.1, a.eval p.2) := by rw [Array.toList_map]
    by_cases h0 : m * j.size = 0
    · rw [if_pos h0]
      have hm0 : m = 0 := by
        rcases Nat.mul_eq_zero.1 h0 with h | h
        · exact h
        · exact absurd h (by have := hE.pos; omega)
      simp only [pure_bind]
      have e1 : (Array.range (m * j.size)).map (fun x => (#[] : Array Value)[x % (#[] : Array Value).size]!) = (repL m j.zero.cells.toList).toArray := by
        subst hm0
        simp [repL]
      rw [e1]
      simp only [e2, h1]
      rfl
    · rw [if_neg h0]
      simp only [pure_bind]
      rw [run_bind (hE.elem.run_zero w)]
      have e1 : (Array.range (m * j.size)).map (fun x => j.zero.cells[x % j.zero.cells.size]!) = (repL m j.zero.cells.toList).toArray := range_rep _ _ hE.zero hE.pos m
      rw [e1]
      simp only [e2, h1]
      rfl
  · obtain ⟨h1, h2⟩ : True ∧ cs.length = m * j.size := ⟨trivial, by
      have : ∀ (ps : List (Nat × Operand)) (l l' : List Value), layS j.size env l ps = some l' → l'.length = l.length := by
        intro ps
        induction ps with
        | nil => intro l l' h; simp [layS] at h; rw [h]
        | cons p r ih =>
          intro l l' h
          obtain ⟨i, x⟩ := p
          unfold layS at h
          split at h
          · split at h
            · split at h
              · rename_i hl
                rw [ih _ _ h]
                exact (layF_foldl (k := 0) (o := i * j.size) (by simpa using hl)).2.1
              · cases h
            · cases h
          · cases h
      rw [this _ _ _ hc, hz]⟩
    have h3 := H.allocBlk cs e
    have h4 : Holds I (w.alloc (.cells cs.toArray e)) (blk w.heap.size e ([] ++ cs ++ []) :: L) := by simpa using h3
    exact h4.own_mk (Nat.le_refl _) h2 (by simp)

theorem VcL.buildSlice {I : Imm} {L : List Asn} {t e m : Nat} {j : TI} {ps : Array (Nat × Operand)} {cs : List Value} (hT : TabOk P T) (H : Holds I w L) (ht : elemJ T t = some (e, j)) (hc : layS j.size env (repL m j.zero.cells.toList) ps.toList = some cs) (hm : Nat.ble (m * j.size) 16777216 = true)
    (hg : gres ops G ⟨some dst, .buildSlice t m ps, ty, pos, after, gd⟩ = some true) (hn : inN n (some dst) = true) (ho : outG G (some dst) = true)
    (k : ∀ v w', Holds I w' (own v e j.size m cs :: L) → VcL P n ops K rest G ((dst, v) :: env) w') : VcL P n ops K (⟨some dst, .buildSlice t m ps, ty, pos, after, gd⟩ :: rest) G env w :=
  VcL.eff hg hn ho (OpE.buildSlice hT H rfl ht hc hm) fun v w' H' => k v w' H'
theorem VcL.append {I : Imm} {L : List Asn} {sx xx : Operand} {t xt : Nat} {e : Nat} {j : TI} {v x : Value} {k' m : Nat} {cs ds : List Value} (hT : TabOk P T)
    (hs : opv env sx = some v) (hx : opv env xx = some x) (ht : elemJ T t = some (e, j)) (hxt : noInt T xt = true) (H : Holds I w (own v e j.size k' cs :: L)) (hsrc : Src w j.size x m ds) (h1 : ∀ u ∈ ds, oneC u = true) (hb : (k' + m) * j.bytes ≤ 2 ^ 46)
    (hg : gres ops G ⟨some dst, .call { callee := .builtin .append, args := #[sx, xx], argTypes := #[t, xt] }, ty, pos, after, gd⟩ = some true) (hn : inN n (some dst) = true) (ho : outG G (some dst) = true)
    (k : ∀ v w', Holds I w' (own v e j.size (k' + m) (cs ++ ds) :: L) → VcL P n ops K rest G ((dst, v) :: env) w') : VcL P n ops K (⟨some dst, .call { callee := .builtin .append, args := #[sx, xx], argTypes := #[t, xt] }, ty, pos, after, gd⟩ :: rest) G env w :=
  VcL.eff hg hn ho (OpE.append hT hs hx ht hxt H hsrc h1 hb) fun v w' H' => k v w' H'
end
end Go.Proofs.YtpfgcchammlpgaaV
