import Derived.Test.YtpfgcchammlpgaaVcMore
import Derived.Lib.Overlaps
set_option linter.unusedVariables false
set_option linter.unusedSimpArgs false
namespace Go.Proofs.YtpfgcchammlpgaaV
open Go Go.RowKit Go.BigFrame

/-! ### What slices.Insert and slices.Delete ask for -/
theorem zeroCells_rep (z : Array Value) (sz : Nat) (hz : z.size = sz) (h0 : 0 < sz) (n : Nat) : (Builtin.zeroCells z n).toList = repL n z.toList := by
  unfold Builtin.zeroCells
  have := range_rep z sz hz h0 n
  rw [← hz] at this
  rw [this]

/-- append(s, make([]T, m)...) where there is no room: a new block. -/
theorem run_append_make {P : Program} {I : Imm} {L : List Asn} {w : World} {t e ty : Nat} {xt : Nat} {k0 : IntKind} {j : TI} (hE : Elem P t e j) (hx : P.underlying xt = some (.int k0))
    {a0 : Option Addr} {n m cap0 : Nat} {k1 : IntKind} {cs : List Value} (H : Holds I w L) (hs : Src w j.size (.slice a0 n cap0) n cs) (hcap : cap0 < n + m) (hb : (n + m) * j.bytes ≤ 2 ^ 46) :
    ∃ b cap rest w', (Builtin.append_ #[t, xt] ty #[.slice a0 n cap0, .int k1 m]).run P w = .ok (.slice (some ⟨b, 0, none⟩) (n + m) cap) w' ∧ n + m ≤ cap ∧ (cap - (n + m)) * j.size ≤ rest.length ∧ Holds I w' (blk b e (cs ++ repL m j.zero.cells.toList ++ rest) :: L) := by
  have hsz := hE.elem.run_size w
  have hcl := hs.len
  have hbp := hE.bpos
  have hneed : (n + m) ≤ 2 ^ 46 := Nat.le_trans (Nat.le_mul_of_pos_right _ hbp) hb
  have hmb : m * j.bytes ≤ (n + m) * j.bytes := Nat.mul_le_mul_right _ (by omega)
  have hw : IntKind.i64.wrap (m : Int) = m := by rw [IntKind.wrap_i64]; omega
  obtain ⟨ti, hi1, hi2, hi3, hi4⟩ := hE.elem.run_info w
  have hbytes : Builtin.nextslicecap (n + m) cap0 * j.bytes ≤ 2 ^ 48 := by
    have h2 := nextcap_le hcap
    have h3 := hE.room
    calc _ ≤ (2 * (n + m) + 1000) * j.bytes := Nat.mul_le_mul_right _ h2
      _ = 2 * ((n + m) * j.bytes) + 1000 * j.bytes := by rw [Nat.add_mul, Nat.mul_assoc]
      _ ≤ 2 ^ 48 := by omega
  have hch : (choose (.appendCap (n + m) cap0 e)).run P w = .ok (n + m + w.tape w.drawn (.appendCap (n + m) cap0 e) % (2 ^ 63 - (n + m))) { w with drawn := w.drawn + 1 } := rfl
  have hge : n + m ≤ n + m + w.tape w.drawn (.appendCap (n + m) cap0 e) % (2 ^ 63 - (n + m)) := Nat.le_add_right _ _
  generalize n + m + w.tape w.drawn (.appendCap (n + m) cap0 e) % (2 ^ 63 - (n + m)) = newCap at hge hch
  have H1 := H.drew (w.drawn + 1)
  have hs1 := hs.of_heap (w' := { w with drawn := w.drawn + 1 }) rfl
  generalize hw1 : ({ w with drawn := w.drawn + 1 } : World) = w1 at H1 hs1 hch
  have H2 := (H1.allocBlk (cs ++ repL m j.zero.cells.toList ++ (Builtin.zeroCells j.zero.cells (newCap - (n + m))).toList) e)
  refine ⟨w1.heap.size, newCap, (Builtin.zeroCells j.zero.cells (newCap - (n + m))).toList, _, ?_, hge, by rw [Array.length_toList, zeroCells_size, hE.zero]; exact Nat.le_refl _, H2⟩
  unfold Builtin.append_
  simp only [List.getElem?_toArray, List.getElem?_cons_zero, List.getElem?_cons_succ]
  rw [run_bind (run_underlying hE.under w)]
  dsimp only
  rw [run_bind hsz]
  rw [run_bind (run_underlying hx w)]
  simp only [pure_bind, if_true, Bool.not_true, Bool.false_eq_true, if_false, true_or, and_true]
  have has : (asInt (.int k1 (m : Int))).run P w = .ok (m : Int) w := rfl
  rw [run_bind has, hw, if_neg (by omega)]
  rw [run_bind hi1, if_neg (by rw [hi3]; have : (m : Int) * (j.bytes : Int) = ((m * j.bytes : Nat) : Int) := by simp
                               omega)]
  simp only [Int.toNat_natCast]
  rw [if_neg (by omega)]
  rw [run_bind hi1]
  rw [if_neg (by have hmx : IntKind.i64.max = 9223372036854775807 := rfl
                 omega)]
  rw [run_bind hi1, if_neg (by rw [hi3]; omega)]
  rw [run_bind hch]
  obtain ⟨ti', hj1, hj2, hj3, hj4⟩ := hE.elem.run_info w1
  rw [run_bind hj1]
  have hroom : (askRoom (newCap * ti'.bytes)).run P w1 = .ok () w1 := by
    unfold askRoom
    split <;> rfl
  rw [run_bind hroom, run_bind hs1.run_cells]
  have happ : (if m * j.size = 0 then pure #[] else do pure (Builtin.zeroCells (← zeroValue e).cells m) : Sem (Array Value)).run P w1 = .ok (repL m j.zero.cells.toList).toArray w1 := by
    by_cases h0 : m * j.size = 0
    · rw [if_pos h0]
      have : m = 0 := by
        rcases Nat.mul_eq_zero.1 h0 with h | h
        · exact h
        · have := hE.pos; omega
      subst this
      rfl
    · rw [if_neg h0, run_bind (hE.elem.run_zero w1), ← zeroCells_rep j.zero.cells j.size hE.zero hE.pos m]
      simp [go_sem]
  rw [run_bind happ, run_bind (hE.elem.run_zero w1)]
  have hrow : (newRow e (cs.toArray ++ (repL m j.zero.cells.toList).toArray ++ Builtin.zeroCells j.zero.cells (newCap - (n + m)))).run P w1 = .ok ⟨w1.heap.size, 0, none⟩ (w1.alloc (.cells (cs ++ repL m j.zero.cells.toList ++ (Builtin.zeroCells j.zero.cells (newCap - (n + m))).toList).toArray e)) := by
    unfold newRow
    simp only [List.append_toArray, Array.toArray_toList, ← List.append_toArray]
    rfl
  rw [run_bind hrow]
  rfl

def intT (T : Tab) (t : Nat) : Bool := match T.get t with
  | some i => match i.desc with
    | .int _ => true
    | _ => false
  | none => false
theorem intT_sound {P : Program} {T : Tab} (hT : TabOk P T) {t : Nat} (h : intT T t = true) : ∃ k, P.underlying t = some (.int k) := by
  unfold intT at h
  split at h
  · rename_i i hi
    split at h
    · rename_i k hd
      exact ⟨k, by rw [← hd]; exact (hT.out t i hi).under⟩
    · cases h
  · cases h
section
variable {P : Program} {T : Tab} {n : Fi} {ops : Array Oper} {K : Kont} {G : Gds} {env : Env} {w : World} {rest : List Oper} {dst : Nat} {ty : Nat} {pos : String} {after : Array Edge} {gd : Option (Nat × Bool)} {t : Nat} {x y : Operand}

theorem VcL.appendMake {I : Imm} {L : List Asn} {sx xx : Operand} {xt e : Nat} {j : TI} {a0 : Option Addr} {k' m cap0 : Nat} {k1 : IntKind} {mi : Int} {cs : List Value} (hT : TabOk P T)
    (hs : opv env sx = some (.slice a0 k' cap0)) (hx : opv env xx = some (.int k1 mi)) (ht : elemJ T t = some (e, j)) (hxt : intT T xt = true) (hm : mi = m) (H : Holds I w L) (hsrc : Src w j.size (.slice a0 k' cap0) k' cs) (hcap : cap0 < k' + m) (hb : (k' + m) * j.bytes ≤ 2 ^ 46)
    (hg : gres ops G ⟨some dst, .call { callee := .builtin .append, args := #[sx, xx], argTypes := #[t, xt] }, ty, pos, after, gd⟩ = some true) (hn : inN n (some dst) = true) (ho : outG G (some dst) = true)
    (k : ∀ b cap rs w', k' + m ≤ cap → (cap - (k' + m)) * j.size ≤ rs.length → Holds I w' (blk b e (cs ++ repL m j.zero.cells.toList ++ rs) :: L) → VcL P n ops K rest G ((dst, .slice (some ⟨b, 0, none⟩) (k' + m) cap) :: env) w') : VcL P n ops K (⟨some dst, .call { callee := .builtin .append, args := #[sx, xx], argTypes := #[t, xt] }, ty, pos, after, gd⟩ :: rest) G env w := by
  subst hm
  obtain ⟨k0, h2⟩ := intT_sound hT hxt
  obtain ⟨b, cap, rs, w', h4, h5, h6, h7⟩ := run_append_make (ty := ty) (k1 := k1) (elemJ_sound hT ht) h2 H hsrc hcap hb
  refine VcL.val hg hn ho ⟨fun a ha => .inl ?_⟩ (k b cap rs w' h5 h6 h7)
  rw [execOp_builtin, builtin_append]
  simp only [List.map_toArray, List.map_cons, List.map_nil]
  rw [opv_sound ha hs, opv_sound ha hx]
  exact run_v h4

/-- A slice literal: its block. -/
theorem OpE.buildSliceP {I : Imm} {L : List Asn} (hT : TabOk P T) (H : Holds I w L) {o : Oper} {t e m : Nat} {j : TI} {ps : Array (Nat × Operand)} {cs : List Value} (ho : o.op = .buildSlice t m ps) (ht : elemJ T t = some (e, j)) (hc : layS j.size env (repL m j.zero.cells.toList) ps.toList = some cs) (hm : Nat.ble (m * j.size) 16777216 = true) :
    OpE P n env o w fun v w' => ∃ b, v = .slice (some ⟨b, 0, none⟩) m m ∧ Holds I w' (pt b (.cells cs.toArray e (0, 0)) :: L) := by
  have hE := elemJ_sound hT ht
  have hz : (repL m j.zero.cells.toList).length = m * j.size := by rw [repL_length, Array.length_toList, hE.zero]
  refine ⟨.slice (some ⟨w.heap.size, 0, none⟩) m m, w.alloc (.cells cs.toArray e), ⟨fun a ha => .inl ?_⟩, _, rfl, H.alloc _⟩
  obtain ⟨h1, h2⟩ := layS_sound ha hc
  unfold execOp
  rw [ho]
  dsimp only
  refine run_v ?_
  unfold Instr.buildSlice
  rw [run_bind (run_underlying hE.under w)]
  dsimp only
  rw [run_bind (hE.elem.run_size w), if_neg (by have := Nat.le_of_ble_eq_true hm; omega)]
  have e2 : (ps.map fun (i, x) => (i, a.eval x)).toList = ps.toList.map fun p => (p.1, a.eval p.2) := by rw [Array.toList_map]
  by_cases h0 : m * j.size = 0
  · rw [if_pos h0]
    have hm0 : m = 0 := by
      rcases Nat.mul_eq_zero.1 h0 with h | h
      · exact h
      · exact absurd h (by have := hE.pos; omega)
    simp only [pure_bind]
    have e1 : (Array.range (m * j.size)).map (fun x => (#[] : Array Value)[x % (#[] : Array Value).size]!) = (repL m j.zero.cells.toList).toArray := by
      subst hm0
      simp [repL]
    rw [e1]
    simp only [e2, h1]
    rfl
  · rw [if_neg h0]
    simp only [pure_bind]
    rw [run_bind (hE.elem.run_zero w)]
    have e1 : (Array.range (m * j.size)).map (fun x => j.zero.cells[x % j.zero.cells.size]!) = (repL m j.zero.cells.toList).toArray := by
      exact range_rep _ _ hE.zero hE.pos m
    rw [e1]
    simp only [e2, h1]
    rfl
theorem VcL.buildSliceP {I : Imm} {L : List Asn} {t e m : Nat} {j : TI} {ps : Array (Nat × Operand)} {cs : List Value} (hT : TabOk P T) (H : Holds I w L) (ht : elemJ T t = some (e, j)) (hc : layS j.size env (repL m j.zero.cells.toList) ps.toList = some cs) (hm : Nat.ble (m * j.size) 16777216 = true)
    (hg : gres ops G ⟨some dst, .buildSlice t m ps, ty, pos, after, gd⟩ = some true) (hn : inN n (some dst) = true) (ho : outG G (some dst) = true)
    (k : ∀ b w', Holds I w' (pt b (.cells cs.toArray e (0, 0)) :: L) → VcL P n ops K rest G ((dst, .slice (some ⟨b, 0, none⟩) m m) :: env) w') : VcL P n ops K (⟨some dst, .buildSlice t m ps, ty, pos, after, gd⟩ :: rest) G env w :=
  VcL.eff hg hn ho (OpE.buildSliceP hT H rfl ht hc hm) fun v w' ⟨b, hv, H'⟩ => by subst hv; exact k b w' H'

/-! ### In drawn regions -/
variable {S : Phase} {i : Nat} {p : Plan}
theorem VcD.eff {o : Oper} {R : Value → World → Prop} (hi : nthO ops.toList i = some o) (hg : gres ops G o = some true) (hn : inN n o.dst = true) (ho : outG G o.dst = true)
    (h : OpE P n env o w R) (k : ∀ v w', R v w' → (S.next i) w' ∧ VcD P n ops (S.next i) K p G (env.put o.dst v) w') : VcD P n ops S K (.only i p) G env w :=
  VcD.only (EfO.eff hi hg hn ho h k)
theorem VcD.slice {lo hi' : Option Operand} {b q len cap e sz : Nat} {l h : Int} {b1 b2 : Bool} (hT : TabOk P T) (hi : nthO ops.toList i = some ⟨some dst, .slice t x lo hi' none, ty, pos, after, gd⟩) (hx : opv env x = some (.slice (some ⟨b, q, none⟩) len cap)) (hl : cutV env lo 0 = some (l, b1)) (hh : cutV env hi' len = some (h, b2)) (ht : elemT T t = some (e, sz))
    (hg : gres ops G ⟨some dst, .slice t x lo hi' none, ty, pos, after, gd⟩ = some true) (hn : inN n (some dst) = true) (ho : outG G (some dst) = true) (h0 : 0 ≤ l) (h1 : l ≤ h) (h2 : h ≤ cap)
    (k : ∀ q', (l < cap → q' = q + l.toNat * sz) → VcD P n ops S K p G ((dst, .slice (some ⟨b, q', none⟩) (h.toNat - l.toNat) (cap - l.toNat)) :: env) w) : VcD P n ops S K (.pure i p) G env w := by
  exact VcD.valP hi hg hn ho (fun w => OpV.slice hT rfl hx hl hh ht h0 h1 h2) (fun e => by cases e) (k _ fun hlt => if_neg (by omega))
theorem VcD.sliceNil {lo hi' : Option Operand} {e sz : Nat} {l h : Int} {b1 b2 : Bool} (hT : TabOk P T) (hi : nthO ops.toList i = some ⟨some dst, .slice t x lo hi' none, ty, pos, after, gd⟩) (hx : opv env x = some (.slice none 0 0)) (hl : cutV env lo 0 = some (l, b1)) (hh : cutV env hi' 0 = some (h, b2)) (ht : elemT T t = some (e, sz))
    (hg : gres ops G ⟨some dst, .slice t x lo hi' none, ty, pos, after, gd⟩ = some true) (hn : inN n (some dst) = true) (ho : outG G (some dst) = true) (h0 : l = 0) (h1 : h = 0)
    (k : VcD P n ops S K p G ((dst, .slice none 0 0) :: env) w) : VcD P n ops S K (.pure i p) G env w :=
  VcD.valP hi hg hn ho (fun w => OpV.sliceNil hT rfl hx hl hh ht h0 h1) (fun e => by cases e) k
theorem VcD.append {I : Imm} {L : List Asn} {sx xx : Operand} {t xt : Nat} {e : Nat} {j : TI} {v x : Value} {k' m : Nat} {cs ds : List Value} (hT : TabOk P T) (hi : nthO ops.toList i = some ⟨some dst, .call { callee := .builtin .append, args := #[sx, xx], argTypes := #[t, xt] }, ty, pos, after, gd⟩)
    (hs : opv env sx = some v) (hx : opv env xx = some x) (ht : elemJ T t = some (e, j)) (hxt : noInt T xt = true) (H : Holds I w (own v e j.size k' cs :: L)) (hsrc : Src w j.size x m ds) (h1 : ∀ u ∈ ds, oneC u = true) (hb : (k' + m) * j.bytes ≤ 2 ^ 46)
    (hg : gres ops G ⟨some dst, .call { callee := .builtin .append, args := #[sx, xx], argTypes := #[t, xt] }, ty, pos, after, gd⟩ = some true) (hn : inN n (some dst) = true) (ho : outG G (some dst) = true)
    (k : ∀ v w', Holds I w' (own v e j.size (k' + m) (cs ++ ds) :: L) → (S.next i) w' ∧ VcD P n ops (S.next i) K p G ((dst, v) :: env) w') : VcD P n ops S K (.only i p) G env w :=
  VcD.eff hi hg hn ho (OpE.append hT hs hx ht hxt H hsrc h1 hb) k
theorem VcD.appendFits {I : Imm} {L : List Asn} {sx xx : Operand} {xt : Nat} {e : Nat} {j : TI} {xv : Value} {b o cap k' m : Nat} {cs ds : List Value} (hT : TabOk P T) (hi : nthO ops.toList i = some ⟨some dst, .call { callee := .builtin .append, args := #[sx, xx], argTypes := #[t, xt] }, ty, pos, after, gd⟩)
    (hs : opv env sx = some (.slice (some ⟨b, o, none⟩) k' cap)) (hx : opv env xx = some xv) (ht : elemJ T t = some (e, j)) (hxt : noInt T xt = true) (H : Holds I w (blk b e cs :: L)) (hsrc : Src w j.size xv m ds) (h1 : ∀ u ∈ ds, oneC u = true) (hfit : k' + m ≤ cap) (hl : o + (k' + m) * j.size ≤ cs.length)
    (hg : gres ops G ⟨some dst, .call { callee := .builtin .append, args := #[sx, xx], argTypes := #[t, xt] }, ty, pos, after, gd⟩ = some true) (hn : inN n (some dst) = true) (ho : outG G (some dst) = true)
    (k : ∀ w', Holds I w' (blk b e (over cs (o + k' * j.size) ds) :: L) → (S.next i) w' ∧ VcD P n ops (S.next i) K p G ((dst, .slice (some ⟨b, o, none⟩) (k' + m) cap) :: env) w') : VcD P n ops S K (.only i p) G env w := by
  obtain ⟨dx, h2, h3⟩ := noInt_sound hT hxt
  obtain ⟨w', h4, h5⟩ := run_append_fits (ty := ty) (elemJ_sound hT ht) h2 h3 H hsrc h1 hfit hl
  refine VcD.only (EfO.val hi hg hn ho ⟨fun a ha => .inl ?_⟩ (k w' h5).1 (k w' h5).2)
  rw [execOp_builtin, builtin_append]
  simp only [List.map_toArray, List.map_cons, List.map_nil]
  rw [opv_sound ha hs, opv_sound ha hx]
  exact run_v h4
theorem VcD.copyB {I : Imm} {L : List Asn} {dx xx : Operand} {xt : Nat} {e : Nat} {j : TI} {xv : Value} {b o dl dc m : Nat} {cs ds : List Value} (hT : TabOk P T) (hi : nthO ops.toList i = some ⟨some dst, .call { callee := .builtin .copy, args := #[dx, xx], argTypes := #[t, xt] }, ty, pos, after, gd⟩)
    (hs : opv env dx = some (.slice (some ⟨b, o, none⟩) dl dc)) (hx : opv env xx = some xv) (ht : elemJ T t = some (e, j)) (H : Holds I w (blk b e cs :: L)) (hsrc : ∀ k, k ≤ m → (Builtin.firstCells j.size k xv).run P w = .ok (ds.take (k * j.size)).toArray w) (hlen : (Builtin.lenOf xv).run P w = .ok m w) (hdl : ds.length = m * j.size)
    (h1 : ∀ u ∈ ds.take (min m dl * j.size), oneC u = true) (hb : o + (min m dl) * j.size ≤ cs.length)
    (hg : gres ops G ⟨some dst, .call { callee := .builtin .copy, args := #[dx, xx], argTypes := #[t, xt] }, ty, pos, after, gd⟩ = some true) (hn : inN n (some dst) = true) (ho : outG G (some dst) = true)
    (k : ∀ w', Holds I w' (blk b e (over cs o (ds.take (min m dl * j.size))) :: L) → (S.next i) w' ∧ VcD P n ops (S.next i) K p G ((dst, .int .i64 (min m dl : Nat)) :: env) w') : VcD P n ops S K (.only i p) G env w :=
  VcD.eff hi hg hn ho (OpE.copy hT hs hx ht H hsrc hlen hdl h1 hb) fun v w' ⟨hv, H'⟩ => by subst hv; exact k w' H'

/-! ### Cuts at natural numbers -/
theorem VcL.sliceTo {hi : Operand} {b q len cap e sz h : Nat} {b2 : Bool} (hT : TabOk P T) (hx : opv env x = some (.slice (some ⟨b, q, none⟩) len cap)) (hh : cutV env (some hi) len = some ((h : Int), b2)) (ht : elemT T t = some (e, sz))
    (hg : gres ops G ⟨some dst, .slice t x none (some hi) none, ty, pos, after, gd⟩ = some true) (hn : inN n (some dst) = true) (ho : outG G (some dst) = true) (h2 : h ≤ cap)
    (k : VcL P n ops K rest G ((dst, .slice (some ⟨b, q, none⟩) h cap) :: env) w) : VcL P n ops K (⟨some dst, .slice t x none (some hi) none, ty, pos, after, gd⟩ :: rest) G env w := by
  refine VcL.val hg hn ho (OpV.slice hT rfl hx (l := 0) rfl hh ht (by omega) (by omega) (by omega)) ?_
  have e : (if cap = (0 : Int).toNat then q else q + (0 : Int).toNat * sz) = q := by split <;> simp
  rw [e]
  exact k
theorem VcL.sliceFrom {lo : Operand} {b q len cap e sz l : Nat} {b2 : Bool} (hT : TabOk P T) (hx : opv env x = some (.slice (some ⟨b, q, none⟩) len cap)) (hh : cutV env (some lo) 0 = some ((l : Int), b2)) (ht : elemT T t = some (e, sz))
    (hg : gres ops G ⟨some dst, .slice t x (some lo) none none, ty, pos, after, gd⟩ = some true) (hn : inN n (some dst) = true) (ho : outG G (some dst) = true) (h1 : l ≤ len) (h2 : len ≤ cap)
    (k : ∀ q', (l < cap → q' = q + l * sz) → VcL P n ops K rest G ((dst, .slice (some ⟨b, q', none⟩) (len - l) (cap - l)) :: env) w) : VcL P n ops K (⟨some dst, .slice t x (some lo) none none, ty, pos, after, gd⟩ :: rest) G env w :=
  VcL.val hg hn ho (OpV.slice hT rfl hx hh (h := len) rfl ht (by omega) (by omega) (by omega)) (k _ fun hlt => if_neg (by omega))
theorem VcL.sliceN {lo hi : Operand} {b q len cap e sz l h : Nat} {b1 b2 : Bool} (hT : TabOk P T) (hx : opv env x = some (.slice (some ⟨b, q, none⟩) len cap)) (hl : cutV env (some lo) 0 = some ((l : Int), b1)) (hh : cutV env (some hi) len = some ((h : Int), b2)) (ht : elemT T t = some (e, sz))
    (hg : gres ops G ⟨some dst, .slice t x (some lo) (some hi) none, ty, pos, after, gd⟩ = some true) (hn : inN n (some dst) = true) (ho : outG G (some dst) = true) (h1 : l ≤ h) (h2 : h ≤ cap)
    (k : ∀ q', (l < cap → q' = q + l * sz) → VcL P n ops K rest G ((dst, .slice (some ⟨b, q', none⟩) (h - l) (cap - l)) :: env) w) : VcL P n ops K (⟨some dst, .slice t x (some lo) (some hi) none, ty, pos, after, gd⟩ :: rest) G env w :=
  VcL.val hg hn ho (OpV.slice hT rfl hx hl hh ht (by omega) (by omega) (by omega)) (k _ fun hlt => if_neg (by omega))
theorem VcD.sliceTo {hi' : Operand} {b q len cap e sz h : Nat} {b2 : Bool} (hT : TabOk P T) (hi : nthO ops.toList i = some ⟨some dst, .slice t x none (some hi') none, ty, pos, after, gd⟩) (hx : opv env x = some (.slice (some ⟨b, q, none⟩) len cap)) (hh : cutV env (some hi') len = some ((h : Int), b2)) (ht : elemT T t = some (e, sz))
    (hg : gres ops G ⟨some dst, .slice t x none (some hi') none, ty, pos, after, gd⟩ = some true) (hn : inN n (some dst) = true) (ho : outG G (some dst) = true) (h2 : h ≤ cap)
    (k : VcD P n ops S K p G ((dst, .slice (some ⟨b, q, none⟩) h cap) :: env) w) : VcD P n ops S K (.pure i p) G env w := by
  have e : (if cap = (0 : Int).toNat then q else q + (0 : Int).toNat * sz) = q := by split <;> simp
  refine VcD.valP hi hg hn ho (fun w => OpV.slice hT rfl hx (l := 0) rfl hh ht (by omega) (by omega) (by omega)) (fun e => by cases e) ?_
  rw [e]
  exact k
theorem VcD.sliceFrom {lo : Operand} {b q len cap e sz l : Nat} {b2 : Bool} (hT : TabOk P T) (hi : nthO ops.toList i = some ⟨some dst, .slice t x (some lo) none none, ty, pos, after, gd⟩) (hx : opv env x = some (.slice (some ⟨b, q, none⟩) len cap)) (hh : cutV env (some lo) 0 = some ((l : Int), b2)) (ht : elemT T t = some (e, sz))
    (hg : gres ops G ⟨some dst, .slice t x (some lo) none none, ty, pos, after, gd⟩ = some true) (hn : inN n (some dst) = true) (ho : outG G (some dst) = true) (h1 : l ≤ len) (h2 : len ≤ cap)
    (k : ∀ q', (l < cap → q' = q + l * sz) → VcD P n ops S K p G ((dst, .slice (some ⟨b, q', none⟩) (len - l) (cap - l)) :: env) w) : VcD P n ops S K (.pure i p) G env w :=
  VcD.valP hi hg hn ho (fun w => OpV.slice hT rfl hx hh (h := len) rfl ht (by omega) (by omega) (by omega)) (fun e => by cases e) (k _ fun hlt => if_neg (by omega))

/-! ### Sources, known by where they lie -/
theorem Rd.firsts {P : Program} {w : World} {b o m c sz : Nat} {ds : List Value} (hd : ds.length = m * sz) (h : Rd w b o ds) : ∀ k, k ≤ m → (Builtin.firstCells sz k (.slice (some ⟨b, o, none⟩) m c)).run P w = .ok (ds.take (k * sz)).toArray w := fun k hk => by
  have hle : k * sz ≤ ds.length := by rw [hd]; exact Nat.mul_le_mul_right _ hk
  exact run_loadCells (by rw [List.length_take]; omega) fun j v hj => h j v (by rw [List.getElem?_take] at hj; split at hj <;> simp_all)

/-! ### Do two rows overlap -/
theorem Holds.apart {I : Imm} {w : World} {L : List Asn} {b c : Nat} {o o' : Obj} (h : Holds I w (Go.Proofs.YtpfgcchammlpgaaV.pt b o :: Go.Proofs.YtpfgcchammlpgaaV.pt c o' :: L)) : b ≠ c := by
  obtain ⟨k, ⟨h1, h2, rfl, ⟨rfl⟩, h3, h4, rfl, ⟨rfl⟩, hs⟩, ho⟩ := h.fit
  have := ho.nodup
  intro e
  simp [e] at this
theorem VcL.overlaps {I : Imm} {L : List Asn} (hT : TabOk P T) {f : Nat} {fn : Func} {xx yy : Operand} {ats : Array Nat} {tr e sz : Nat} {vb vo vl vc ev b q l c : Nat} {cs : List Value} {ev' : Array Value}
    (hx : opv env xx = some (.slice (some ⟨vb, vo, none⟩) vl vc)) (hy : opv env yy = some (.slice (some ⟨b, q, none⟩) l c)) (ht : elemT T t = some (e, sz))
    (hf : P.funcs[f]? = some fn) (h1 : (fn.name == "runtime.NumGoroutine") = false) (h2 : fn.body.isNone = true) (h3 : Extern.findNext fn = none) (h4 : Extern.find fn = some (Extern.SlicesOverlaps.overlaps #[t, t] #[tr]))
    (H : Holds I w (pt vb (.cells ev' ev (0, 0)) :: blk b e cs :: L)) (h0 : 0 < cs.length)
    (hg : gres ops G ⟨some dst, .call { callee := .value (.func f), args := #[xx, yy], argTypes := ats }, ty, pos, after, gd⟩ = some true) (hn : inN n (some dst) = true) (ho : outG G (some dst) = true)
    (k : VcL P n ops K rest G ((dst, .bool false) :: env) w) : VcL P n ops K (⟨some dst, .call { callee := .value (.func f), args := #[xx, yy], argTypes := ats }, ty, pos, after, gd⟩ :: rest) G env w := by
  obtain ⟨h5, i, h6, rfl⟩ := elemT_sound hT ht
  have hv := H.pt
  obtain ⟨fr, hf', H'⟩ := H.swap.blk_pt
  have hb := H'.pt
  have hne : vb ≠ b := fun e => H'.apart e.symm
  refine VcL.val hg hn ho ⟨fun a ha => .inl ?_⟩ k
  rw [execOp_call_go]
  simp only [Array.append_empty, Array.empty_append, List.map_toArray, List.map_cons, List.map_nil]
  rw [opv_sound ha hx, opv_sound ha hy, run_callFunc_extern hf h1 h2 h3 h4, Lib.run_overlaps_apart w t tr e h5 i.size (fun w => h6.run_size w) ⟨vb, vo, none⟩ ⟨b, q, none⟩ vl vc l c hne ev e ev'.size cs.length (by simp [World.shape?, hv]) (by simp [World.shape?, hb]) (by omega) (by simp [World.frozen?, hv]) (by simp [World.frozen?, hv])]
  rfl
end

/-! ### Rows, put together anew -/
theorem over_mid {a b c d : List Value} {i : Nat} (hi : i = a.length) (hb : b.length = d.length) : over (a ++ b ++ c) i d = a ++ d ++ c := by
  subst hi
  unfold over
  have e1 : (a ++ b ++ c).take a.length = a := by rw [List.append_assoc, List.take_left]
  have e2 : (a ++ b ++ c).drop (a.length + d.length) = c := by rw [← hb, ← List.length_append, List.drop_left]
  rw [e1, e2]
theorem repL_add (a b : Nat) (z : List Value) : repL (a + b) z = repL a z ++ repL b z := by
  unfold repL
  rw [← List.replicate_append_replicate, List.flatten_append]
/-- Into a new row. -/
theorem ins_new {cs ds rs z : List Value} {sz i n : Nat} (hcl : cs.length = n * sz) (hdl : ds.length = sz) (hz : z.length = sz) (hi : i ≤ n) :
    over (over (cs.take (i * sz) ++ repL (n + 1 - i) z ++ rs) (i * sz) ds) ((i + 1) * sz) (cs.drop (i * sz)) = [] ++ (cs.take (i * sz) ++ ds ++ cs.drop (i * sz)) ++ rs := by
  have hle : i * sz ≤ n * sz := Nat.mul_le_mul_right _ hi
  have ht : (cs.take (i * sz)).length = i * sz := by rw [List.length_take]; omega
  have e1 : repL (n + 1 - i) z = z ++ repL (n - i) z := by
    rw [show n + 1 - i = 1 + (n - i) by omega, repL_add]; simp [repL]
  have e2 : cs.take (i * sz) ++ repL (n + 1 - i) z ++ rs = cs.take (i * sz) ++ z ++ (repL (n - i) z ++ rs) := by rw [e1]; simp
  rw [e2, over_mid ht.symm (by omega)]
  have e3 : cs.take (i * sz) ++ ds ++ (repL (n - i) z ++ rs) = (cs.take (i * sz) ++ ds) ++ repL (n - i) z ++ rs := by simp
  rw [e3, over_mid (by rw [List.length_append, ht, hdl, Nat.add_mul]; omega) (by rw [repL_length, List.length_drop, hcl, hz, Nat.sub_mul])]
  simp
/-- In its place. -/
theorem ins_here {pre cs ds rest : List Value} {sz i n : Nat} (hcl : cs.length = n * sz) (hdl : ds.length = sz) (hr : sz ≤ rest.length) (hi : i ≤ n) :
    over (over (pre ++ cs ++ rest) (pre.length + (i + 1) * sz) (cs.drop (i * sz))) (pre.length + i * sz) ds = pre ++ (cs.take (i * sz) ++ ds ++ cs.drop (i * sz)) ++ rest.drop sz := by
  have hle : i * sz ≤ n * sz := Nat.mul_le_mul_right _ hi
  have ht : (cs.take (i * sz)).length = i * sz := by rw [List.length_take]; omega
  have hDl : (cs.drop (i * sz) ++ rest.take sz).length = (n - i) * sz + sz := by rw [List.length_append, List.length_drop, List.length_take, hcl, Nat.sub_mul]; omega
  have hdrop : (cs.drop (i * sz)).length = (n - i) * sz := by rw [List.length_drop, hcl, Nat.sub_mul]
  have e1 : pre ++ cs ++ rest = (pre ++ cs.take (i * sz) ++ (cs.drop (i * sz) ++ rest.take sz).take sz) ++ (cs.drop (i * sz) ++ rest.take sz).drop sz ++ rest.drop sz := by
    rw [List.append_assoc (pre ++ cs.take (i * sz)), List.take_append_drop]
    have : pre ++ cs.take (i * sz) ++ (cs.drop (i * sz) ++ rest.take sz) ++ rest.drop sz = pre ++ (cs.take (i * sz) ++ cs.drop (i * sz)) ++ (rest.take sz ++ rest.drop sz) := by simp only [List.append_assoc]
    rw [this, List.take_append_drop, List.take_append_drop]
  have e2 : ((cs.drop (i * sz) ++ rest.take sz).take sz).length = sz := by rw [List.length_take, hDl]; omega
  rw [e1, over_mid (by rw [List.length_append, List.length_append, ht, e2, Nat.add_mul]; omega) (by rw [List.length_drop, hDl, hdrop]; omega)]
  have e3 : pre ++ cs.take (i * sz) ++ (cs.drop (i * sz) ++ rest.take sz).take sz ++ cs.drop (i * sz) ++ rest.drop sz = (pre ++ cs.take (i * sz)) ++ (cs.drop (i * sz) ++ rest.take sz).take sz ++ (cs.drop (i * sz) ++ rest.drop sz) := by simp only [List.append_assoc]
  rw [e3, over_mid (by rw [List.length_append, ht]) (by rw [e2, hdl])]
  simp only [List.append_assoc]
theorem Holds.pt_rd {I : Imm} {w : World} {L : List Asn} {b e : Nat} {cs : List Value} {fr : Nat × Nat} (h : Holds I w (Go.Proofs.YtpfgcchammlpgaaV.pt b (.cells cs.toArray e fr) :: L)) : Rd w b 0 cs := fun j v hj => by
  have := h.pt
  simp [World.cell?, this, hj]
/-- A part of a block, read. -/
theorem Holds.rdAt {I : Imm} {w : World} {L : List Asn} {b e o : Nat} {cs pre mid post : List Value} (h : Holds I w (blk b e cs :: L)) (hc : cs = pre ++ mid ++ post) (ho : o = pre.length) : Rd w b o mid := by
  subst ho; exact h.rd hc
theorem row_split (pre cs rest : List Value) (k : Nat) : pre ++ cs ++ rest = pre ++ cs.take k ++ (cs.drop k ++ rest) := by
  conv => lhs; rw [← List.take_append_drop k cs]
  simp only [List.append_assoc]
theorem row_split2 (pre cs rest : List Value) (k : Nat) : pre ++ cs ++ rest = (pre ++ cs.take k) ++ cs.drop k ++ rest := by
  conv => lhs; rw [← List.take_append_drop k cs]
  simp only [List.append_assoc]
theorem Holds.as {I : Imm} {w : World} {L : List Asn} {b e : Nat} {cs cs' : List Value} (H : Holds I w (blk b e cs :: L)) (h : cs = cs') : Holds I w (blk b e cs' :: L) := h ▸ H
/-- One taken out, the last place cleared. -/
theorem del_row {pre cs rest z : List Value} {sz i n : Nat} (hcl : cs.length = n * sz) (hz : z.length = sz) (hi : i < n) :
    over (over (pre ++ cs ++ rest) (pre.length + i * sz) (cs.drop ((i + 1) * sz))) (pre.length + (n - 1) * sz) z = pre ++ (cs.take (i * sz) ++ cs.drop ((i + 1) * sz)) ++ (z ++ rest) := by
  have hle : (i + 1) * sz ≤ n * sz := Nat.mul_le_mul_right _ hi
  have hle' : i * sz + sz ≤ n * sz := by rw [Nat.add_mul] at hle; omega
  have ht : (cs.take (i * sz)).length = i * sz := by rw [List.length_take]; omega
  have hD : (cs.drop (i * sz)).length = n * sz - i * sz := by rw [List.length_drop, hcl]
  have hE : (cs.drop ((i + 1) * sz)).length = n * sz - (i + 1) * sz := by rw [List.length_drop, hcl]
  have h1 : (i + 1) * sz = i * sz + sz := by rw [Nat.add_mul]; omega
  have h2 : (n - 1) * sz = n * sz - sz := by rw [Nat.sub_mul]; omega
  have hk : n * sz - (i + 1) * sz ≤ (cs.drop (i * sz)).length := by omega
  have hF : ((cs.drop (i * sz)).take (n * sz - (i + 1) * sz)).length = n * sz - (i + 1) * sz := by rw [List.length_take]; omega
  have e1 : pre ++ cs ++ rest = (pre ++ cs.take (i * sz)) ++ (cs.drop (i * sz)).take (n * sz - (i + 1) * sz) ++ ((cs.drop (i * sz)).drop (n * sz - (i + 1) * sz) ++ rest) := by
    rw [row_split2 pre cs rest (i * sz)]
    conv => lhs; rw [← List.take_append_drop (n * sz - (i + 1) * sz) (cs.drop (i * sz))]
    simp only [List.append_assoc]
  rw [e1, over_mid (by rw [List.length_append, ht]) (by rw [hF, hE])]
  have e2 : pre ++ cs.take (i * sz) ++ cs.drop ((i + 1) * sz) ++ ((cs.drop (i * sz)).drop (n * sz - (i + 1) * sz) ++ rest) = (pre ++ (cs.take (i * sz) ++ cs.drop ((i + 1) * sz))) ++ (cs.drop (i * sz)).drop (n * sz - (i + 1) * sz) ++ rest := by simp only [List.append_assoc]
  rw [e2, over_mid (by rw [List.length_append, List.length_append, ht, hE]; omega) (by rw [List.length_drop, hD, hz]; omega)]
  simp only [List.append_assoc]
section
variable {P : Program} {T : Tab} {n : Fi} {ops : Array Oper} {K : Kont} {G : Gds} {env : Env} {w : World} {rest : List Oper} {dst : Nat} {ty : Nat} {pos : String} {after : Array Edge} {gd : Option (Nat × Bool)} {t : Nat} {x y : Operand}
theorem VcL.storeAt {I : Imm} {L : List Asn} {b e i : Nat} {v : Value} {cs vs : List Value} (hT : TabOk P T) (hx : opv env x = some (.pointer (some ⟨b, i, none⟩))) (H : Holds I w (blk b e cs :: L)) (hy : opv env y = some v)
    (hc : cellsF v = some vs) (h1 : vs.all oneC = true) (hs : sizeT T t = some vs.length) (hl : i + vs.length ≤ cs.length) (hg : gres ops G ⟨none, .store t x y, ty, pos, after, gd⟩ = some true)
    (k : ∀ w', Holds I w' (blk b e (over cs i vs) :: L) → VcL P n ops K rest G env w') : VcL P n ops K (⟨none, .store t x y, ty, pos, after, gd⟩ :: rest) G env w :=
  VcL.eff hg rfl rfl (OpE.storeAt hT H rfl hx hy hc h1 hs hl) fun v w' ⟨hv, H'⟩ => by subst hv; exact k w' H'
end
theorem RdW.up {I : Imm} {L : List Asn} {A : Asn} {b o : Nat} {cs : List Value} (h : RdW I L b o cs) : RdW I (A :: L) b o cs := ⟨fun w H => h.out w H.drop⟩
theorem RdW.ups {I : Imm} {L : List Asn} {b o : Nat} {cs : List Value} (h : RdW I L b o cs) : ∀ A : List Asn, RdW I (A ++ L) b o cs
  | [] => h
  | _ :: A => (h.ups A).up
theorem Holds.toW {I : Imm} {L : List Asn} {b e : Nat} {cs : List Value} : RdW I (blk b e cs :: L) b 0 cs := ⟨fun w H => H.rdAt (pre := []) (post := []) (by simp) rfl⟩
end Go.Proofs.YtpfgcchammlpgaaV
