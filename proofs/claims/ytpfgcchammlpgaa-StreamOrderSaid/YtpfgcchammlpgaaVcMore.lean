import Derived.Test.YtpfgcchammlpgaaVcRows
import Derived.Laws.StructEq
set_option linter.unusedVariables false
set_option linter.unusedSimpArgs false
namespace Go.Proofs.YtpfgcchammlpgaaV
open Go Go.RowKit Go.BigFrame

section
variable {P : Program} {T : Tab} {n : Fi} {ops : Array Oper} {K : Kont} {G : Gds} {env : Env} {w : World} {rest : List Oper} {dst : Nat} {ty : Nat} {pos : String} {after : Array Edge} {gd : Option (Nat × Bool)} {t : Nat} {x y : Operand}

/-! ### Cuts -/
theorem VcL.slice {lo hi : Option Operand} {b p len cap e sz : Nat} {l h : Int} {b1 b2 : Bool} (hT : TabOk P T) (hx : opv env x = some (.slice (some ⟨b, p, none⟩) len cap)) (hl : cutV env lo 0 = some (l, b1)) (hh : cutV env hi len = some (h, b2)) (ht : elemT T t = some (e, sz))
    (hg : gres ops G ⟨some dst, .slice t x lo hi none, ty, pos, after, gd⟩ = some true) (hn : inN n (some dst) = true) (ho : outG G (some dst) = true) (h0 : 0 ≤ l) (h1 : l ≤ h) (h2 : h ≤ cap)
    (k : ∀ p', (l < cap → p' = p + l.toNat * sz) → VcL P n ops K rest G ((dst, .slice (some ⟨b, p', none⟩) (h.toNat - l.toNat) (cap - l.toNat)) :: env) w) : VcL P n ops K (⟨some dst, .slice t x lo hi none, ty, pos, after, gd⟩ :: rest) G env w :=
  VcL.eff hg hn ho (OpE.slice hT rfl hx hl hh ht h0 h1 h2) fun v w' ⟨hw, p', hv, hp⟩ => by subst hw; subst hv; exact k p' hp
theorem VcL.sliceNil {lo hi : Option Operand} {e sz : Nat} {l h : Int} {b1 b2 : Bool} (hT : TabOk P T) (hx : opv env x = some (.slice none 0 0)) (hl : cutV env lo 0 = some (l, b1)) (hh : cutV env hi 0 = some (h, b2)) (ht : elemT T t = some (e, sz))
    (hg : gres ops G ⟨some dst, .slice t x lo hi none, ty, pos, after, gd⟩ = some true) (hn : inN n (some dst) = true) (ho : outG G (some dst) = true) (h0 : l = 0) (h1 : h = 0)
    (k : VcL P n ops K rest G ((dst, .slice none 0 0) :: env) w) : VcL P n ops K (⟨some dst, .slice t x lo hi none, ty, pos, after, gd⟩ :: rest) G env w :=
  VcL.eff hg hn ho (OpE.sliceNil hT rfl hx hl hh ht h0 h1) fun v w' ⟨hw, hv⟩ => by subst hw; subst hv; exact k
/-- A cut whose value nobody reads: only that it stands. -/
theorem VcL.slice3 {lo hi mx : Operand} {b p len cap e sz : Nat} {l h m : Int} {kl kh km : IntKind} (hT : TabOk P T) (hx : opv env x = some (.slice (some ⟨b, p, none⟩) len cap)) (hl : opv env lo = some (.int kl l)) (hh : opv env hi = some (.int kh h)) (hm : opv env mx = some (.int km m)) (ht : elemT T t = some (e, sz))
    (hg : gres ops G ⟨some dst, .slice t x (some lo) (some hi) (some mx), ty, pos, after, gd⟩ = some true) (hn : inN n (some dst) = true) (ho : outG G (some dst) = true) (h0 : 0 ≤ l) (h1 : l ≤ h) (h2 : h ≤ m) (h3 : m ≤ cap)
    (k : ∀ v, VcL P n ops K rest G ((dst, v) :: env) w) : VcL P n ops K (⟨some dst, .slice t x (some lo) (some hi) (some mx), ty, pos, after, gd⟩ :: rest) G env w := by
  obtain ⟨h4, i, h5, rfl⟩ := elemT_sound hT ht
  refine VcL.val (v := .slice (if m.toNat = l.toNat then some ⟨b, p, none⟩ else (some ⟨b, p, none⟩ : Option Addr).map (·.add (l.toNat * i.size))) (h.toNat - l.toNat) (m.toNat - l.toNat)) hg hn ho ⟨fun a ha => .inl ?_⟩ (k _)
  unfold execOp
  dsimp only
  rw [opv_sound ha hx]
  refine run_v ?_
  unfold Instr.sliceAt
  rw [run_bind (run_underlying h4 w)]
  dsimp only
  unfold Instr.slice
  rw [run_bind (run_underlying h4 w)]
  dsimp only
  simp only [Option.map_some, opv_sound ha hl, opv_sound ha hh, opv_sound ha hm]
  have e1 : ∀ (k : IntKind) (x : Int) (y : Nat) (c : BoundsCode), 0 ≤ x → x ≤ y → Instr.sliceBound (.int k x) y c = pure x.toNat := fun k x y c hx hxy => by
    simp [Instr.sliceBound, asIntOf, hxy, hx]
  have hb : (Instr.sliceBounds true len cap (some (.int kl l)) (some (.int kh h)) (some (.int km m))).run P w = .ok (l.toNat, h.toNat, m.toNat) w := by
    unfold Instr.sliceBounds
    simp only [e1 _ _ _ _ (by omega : 0 ≤ m) h3, pure_bind, e1 km h m.toNat _ (by omega : 0 ≤ h) (by omega), e1 kh h m.toNat _ (by omega : 0 ≤ h) (by omega), e1 kl l h.toNat _ h0 (by omega)]
    rfl
  rw [run_bind hb]
  dsimp only
  rw [run_bind (h5.run_size w)]
  rfl
theorem VcL.slice3Nil {lo hi mx : Operand} {e sz : Nat} {kl kh km : IntKind} (hT : TabOk P T) (hx : opv env x = some (.slice none 0 0)) (hl : opv env lo = some (.int kl 0)) (hh : opv env hi = some (.int kh 0)) (hm : opv env mx = some (.int km 0)) (ht : elemT T t = some (e, sz))
    (hg : gres ops G ⟨some dst, .slice t x (some lo) (some hi) (some mx), ty, pos, after, gd⟩ = some true) (hn : inN n (some dst) = true) (ho : outG G (some dst) = true)
    (k : ∀ v, VcL P n ops K rest G ((dst, v) :: env) w) : VcL P n ops K (⟨some dst, .slice t x (some lo) (some hi) (some mx), ty, pos, after, gd⟩ :: rest) G env w := by
  obtain ⟨h4, i, h5, rfl⟩ := elemT_sound hT ht
  refine VcL.val (v := .slice none 0 0) hg hn ho ⟨fun a ha => .inl ?_⟩ (k _)
  unfold execOp
  dsimp only
  rw [opv_sound ha hx]
  refine run_v ?_
  unfold Instr.sliceAt
  rw [run_bind (run_underlying h4 w)]
  dsimp only
  unfold Instr.slice
  rw [run_bind (run_underlying h4 w)]
  dsimp only
  simp only [Option.map_some, opv_sound ha hl, opv_sound ha hh, opv_sound ha hm]
  have hb : (Instr.sliceBounds true 0 0 (some (.int kl 0)) (some (.int kh 0)) (some (.int km 0))).run P w = .ok (0, 0, 0) w := by
    unfold Instr.sliceBounds
    simp [Instr.sliceBound, asIntOf]
  rw [run_bind hb]
  dsimp only
  rw [run_bind (h5.run_size w)]
  rfl

/-! ### In a block: append where there is room, clear, copy -/
theorem run_append_fits {I : Imm} {L : List Asn} {w : World} {t e ty : Nat} {xt : Nat} {dx : TypeDesc} {j : TI} (hE : Elem P t e j) (hx : P.underlying xt = some dx) (hxn : ∀ k, dx ≠ .int k)
    {x : Value} {b o cap n m : Nat} {cs ds : List Value} (H : Holds I w (blk b e cs :: L)) (hs : Src w j.size x m ds) (h1 : ∀ u ∈ ds, oneC u = true) (hfit : n + m ≤ cap) (hl : o + (n + m) * j.size ≤ cs.length) :
    ∃ w', (Builtin.append_ #[t, xt] ty #[.slice (some ⟨b, o, none⟩) n cap, x]).run P w = .ok (.slice (some ⟨b, o, none⟩) (n + m) cap) w' ∧ Holds I w' (blk b e (over cs (o + n * j.size) ds) :: L) := by
  have hd : (match dx with | TypeDesc.int k => true | x => false) = false := by cases dx <;> first | rfl | exact absurd rfl (hxn _)
  have hdl := hs.len
  have e0 : (n + m) * j.size = n * j.size + m * j.size := Nat.add_mul _ _ _
  obtain ⟨w', h6, h7⟩ := run_storeCells (P := P) (o := o + n * j.size) ds 0 _ w H (by omega) h1
  refine ⟨w', ?_, h7⟩
  unfold Builtin.append_
  simp only [List.getElem?_toArray, List.getElem?_cons_zero, List.getElem?_cons_succ]
  rw [run_bind (run_underlying hE.under w)]
  dsimp only
  rw [run_bind (hE.elem.run_size w), run_bind (run_underlying hx w)]
  simp only [hd, pure_bind, Bool.false_eq_true, if_false, Bool.not_false, if_true, false_or]
  rw [run_bind hs.run_len, if_pos hfit, run_bind hs.run_cells]
  have e1 : (⟨b, o, none⟩ : Addr).add (n * j.size) = ⟨b, o + n * j.size, none⟩ := Addr.add_mk _ _ _
  simp only [e1, List.toList_toArray]
  rw [run_bind h6]
  rfl
theorem VcL.appendFits {I : Imm} {L : List Asn} {sx xx : Operand} {xt : Nat} {e : Nat} {j : TI} {xv : Value} {b o cap k' m : Nat} {cs ds : List Value} (hT : TabOk P T)
    (hs : opv env sx = some (.slice (some ⟨b, o, none⟩) k' cap)) (hx : opv env xx = some xv) (ht : elemJ T t = some (e, j)) (hxt : noInt T xt = true) (H : Holds I w (blk b e cs :: L)) (hsrc : Src w j.size xv m ds) (h1 : ∀ u ∈ ds, oneC u = true) (hfit : k' + m ≤ cap) (hl : o + (k' + m) * j.size ≤ cs.length)
    (hg : gres ops G ⟨some dst, .call { callee := .builtin .append, args := #[sx, xx], argTypes := #[t, xt] }, ty, pos, after, gd⟩ = some true) (hn : inN n (some dst) = true) (ho : outG G (some dst) = true)
    (k : ∀ w', Holds I w' (blk b e (over cs (o + k' * j.size) ds) :: L) → VcL P n ops K rest G ((dst, .slice (some ⟨b, o, none⟩) (k' + m) cap) :: env) w') : VcL P n ops K (⟨some dst, .call { callee := .builtin .append, args := #[sx, xx], argTypes := #[t, xt] }, ty, pos, after, gd⟩ :: rest) G env w := by
  obtain ⟨dx, h2, h3⟩ := noInt_sound hT hxt
  obtain ⟨w', h4, h5⟩ := run_append_fits (ty := ty) (elemJ_sound hT ht) h2 h3 H hsrc h1 hfit hl
  refine VcL.val hg hn ho ⟨fun a ha => .inl ?_⟩ (k w' h5)
  rw [execOp_builtin, builtin_append]
  simp only [List.map_toArray, List.map_cons, List.map_nil]
  rw [opv_sound ha hs, opv_sound ha hx]
  exact run_v h4

theorem VcL.clear {I : Imm} {L : List Asn} {xx : Operand} {e : Nat} {j : TI} {b o cap m : Nat} {cs : List Value} (hT : TabOk P T)
    (hx : opv env xx = some (.slice (some ⟨b, o, none⟩) m cap)) (ht : elemJ T t = some (e, j)) (H : Holds I w (blk b e cs :: L)) (hz : j.zero.cells.toList.all oneC = true) (hl : m = 0 ∨ o + m * j.size ≤ cs.length)
    (hg : gres ops G ⟨none, .call { callee := .builtin .clear, args := #[xx], argTypes := #[t] }, ty, pos, after, gd⟩ = some true)
    (k : ∀ w', Holds I w' (blk b e (over cs o (repL m j.zero.cells.toList)) :: L) → VcL P n ops K rest G env w') : VcL P n ops K (⟨none, .call { callee := .builtin .clear, args := #[xx], argTypes := #[t] }, ty, pos, after, gd⟩ :: rest) G env w := by
  have hE := elemJ_sound hT ht
  have hrl : (repL m j.zero.cells.toList).length = m * j.size := by rw [repL_length, Array.length_toList, hE.zero]
  have hone : ∀ u ∈ repL m j.zero.cells.toList, oneC u = true := fun u hu => by
    unfold repL at hu
    obtain ⟨l, h1, h2⟩ := List.mem_flatten.1 hu
    rw [List.eq_of_mem_replicate h1] at h2
    exact List.all_eq_true.1 hz u h2
  have key : ∃ w', (Builtin.clear_ #[t] ty #[.slice (some ⟨b, o, none⟩) m cap]).run P w = .ok (.tuple #[]) w' ∧ Holds I w' (blk b e (over cs o (repL m j.zero.cells.toList)) :: L) := by
    unfold Builtin.clear_
    simp only [List.getElem?_toArray, List.getElem?_cons_zero]
    cases m with
    | zero =>
      refine ⟨w, ?_, by simp only [repL, List.replicate_zero, List.flatten_nil, over_nil]; exact H⟩
      rw [run_bind (run_underlying hE.under w)]
      rfl
    | succ m =>
      obtain ⟨w', h6, h7⟩ := run_storeCells (P := P) (o := o) (repL (m + 1) j.zero.cells.toList) 0 _ w H (by rw [hrl]; omega) hone
      refine ⟨w', ?_, h7⟩
      rw [run_bind (run_underlying hE.under w)]
      have e1 : (Builtin.zeroCells j.zero.cells (m + 1)).toList = repL (m + 1) j.zero.cells.toList := by
        unfold Builtin.zeroCells
        have := range_rep j.zero.cells j.size hE.zero hE.pos (m + 1)
        rw [← hE.zero] at this
        rw [this]
      have e2 : (do storeCells ⟨b, o, none⟩ (Builtin.zeroCells (← zeroValue e).cells (m + 1)).toList : Sem Unit).run P w = .ok () w' := by
        rw [run_bind (hE.elem.run_zero w), e1]
        exact h6
      refine (run_bind (hE.elem.run_zero w)).trans ?_
      rw [e1, run_bind h6]
      rfl
  obtain ⟨w', h1, h2⟩ := key
  refine VcL.val (v := .tuple #[]) hg rfl rfl ⟨fun a ha => .inl ?_⟩ (k w' h2)
  rw [execOp_builtin, builtin_clear]
  simp only [List.map_toArray, List.map_cons, List.map_nil]
  rw [opv_sound ha hx]
  exact run_v h1

theorem VcL.copyB {I : Imm} {L : List Asn} {dx xx : Operand} {xt : Nat} {e : Nat} {j : TI} {xv : Value} {b o dl dc m : Nat} {cs ds : List Value} (hT : TabOk P T)
    (hs : opv env dx = some (.slice (some ⟨b, o, none⟩) dl dc)) (hx : opv env xx = some xv) (ht : elemJ T t = some (e, j)) (H : Holds I w (blk b e cs :: L)) (hsrc : ∀ k, k ≤ m → (Builtin.firstCells j.size k xv).run P w = .ok (ds.take (k * j.size)).toArray w) (hlen : (Builtin.lenOf xv).run P w = .ok m w) (hdl : ds.length = m * j.size)
    (h1 : ∀ u ∈ ds, oneC u = true) (hb : o + (min m dl) * j.size ≤ cs.length)
    (hg : gres ops G ⟨some dst, .call { callee := .builtin .copy, args := #[dx, xx], argTypes := #[t, xt] }, ty, pos, after, gd⟩ = some true) (hn : inN n (some dst) = true) (ho : outG G (some dst) = true)
    (k : ∀ w', Holds I w' (blk b e (over cs o (ds.take (min m dl * j.size))) :: L) → VcL P n ops K rest G ((dst, .int .i64 (min m dl : Nat)) :: env) w') : VcL P n ops K (⟨some dst, .call { callee := .builtin .copy, args := #[dx, xx], argTypes := #[t, xt] }, ty, pos, after, gd⟩ :: rest) G env w :=
  VcL.eff hg hn ho (OpE.copy hT hs hx ht H hsrc hlen hdl (fun u hu => h1 u (List.mem_of_mem_take hu)) hb) fun v w' ⟨hv, H'⟩ => by subst hv; exact k w' H'

/-! ### Rows of elements -/
theorem flat_split {α : Type} {enc : α → List Value} {l : List α} {i : Nat} {x : α} (hx : l[i]? = some x) : l.flatMap enc = (l.take i).flatMap enc ++ enc x ++ (l.drop (i + 1)).flatMap enc := by
  have hlt := (List.getElem?_eq_some_iff.1 hx).1
  have e1 : l = l.take i ++ x :: l.drop (i + 1) := by
    rw [← (List.getElem?_eq_some_iff.1 hx).2, List.getElem_cons_drop, List.take_append_drop]
  conv => lhs; rw [e1]
  rw [List.flatMap_append, List.flatMap_cons, List.append_assoc]
theorem flat_take {α : Type} {enc : α → List Value} {sz : Nat} (he : ∀ x, (enc x).length = sz) (l : List α) (i : Nat) : (l.flatMap enc).take (i * sz) = (l.take i).flatMap enc := by
  by_cases hi : i ≤ l.length
  · conv => lhs; rw [← List.take_append_drop i l, List.flatMap_append]
    have : ((l.take i).flatMap enc).length = i * sz := by rw [flat_len he, List.length_take, Nat.min_eq_left hi]
    rw [← this, List.take_left]
  · rw [List.take_of_length_le (i := i) (by omega), List.take_of_length_le]
    rw [flat_len he]
    exact Nat.mul_le_mul_right _ (by omega)
theorem flat_drop {α : Type} {enc : α → List Value} {sz : Nat} (he : ∀ x, (enc x).length = sz) (l : List α) (i : Nat) : (l.flatMap enc).drop (i * sz) = (l.drop i).flatMap enc := by
  by_cases hi : i ≤ l.length
  · conv => lhs; rw [← List.take_append_drop i l, List.flatMap_append]
    have : ((l.take i).flatMap enc).length = i * sz := by rw [flat_len he, List.length_take, Nat.min_eq_left hi]
    rw [← this, List.drop_left]
  · rw [List.drop_of_length_le (i := i) (by omega), List.drop_of_length_le]
    · rfl
    · rw [flat_len he]
      exact Nat.mul_le_mul_right _ (by omega)
/-- An element is put into a row. -/
theorem over_row {α : Type} {enc : α → List Value} {sz : Nat} (he : ∀ x, (enc x).length = sz) {pre rest : List Value} {l : List α} {i : Nat} {x y : α} (hx : l[i]? = some x) : over (pre ++ l.flatMap enc ++ rest) (pre.length + i * sz) (enc y) = pre ++ (l.set i y).flatMap enc ++ rest := by
  have hlt := (List.getElem?_eq_some_iff.1 hx).1
  have e1 : (l.set i y)[i]? = some y := by simp [hlt]
  rw [flat_split hx, flat_split e1]
  have h1 : ((l.take i).flatMap enc).length = i * sz := by rw [flat_len he, List.length_take, Nat.min_eq_left (by omega)]
  have e2 : (l.set i y).take i = l.take i := by rw [List.take_set_of_le (Nat.le_refl i)]
  have e3 : (l.set i y).drop (i + 1) = l.drop (i + 1) := by rw [List.drop_set_of_lt (by omega)]
  rw [e2, e3]
  unfold over
  have e4 : pre ++ ((l.take i).flatMap enc ++ enc x ++ (l.drop (i + 1)).flatMap enc) ++ rest = (pre ++ (l.take i).flatMap enc) ++ (enc x ++ ((l.drop (i + 1)).flatMap enc ++ rest)) := by simp
  rw [e4]
  have e5 : pre.length + i * sz = (pre ++ (l.take i).flatMap enc).length := by rw [List.length_append, h1]
  rw [e5, List.take_left, List.drop_append, he]
  have e6 : (pre ++ (l.take i).flatMap enc).drop ((pre ++ (l.take i).flatMap enc).length + sz) = [] := List.drop_of_length_le (by omega)
  rw [e6, show (pre ++ (l.take i).flatMap enc).length + sz - (pre ++ (l.take i).flatMap enc).length = (enc x).length by rw [he]; omega, List.drop_left]
  simp

/-! ### '==' of structs -/
def scalarEq (d : TypeDesc) (x y : Value) : Option Bool := match d, x, y with
  | .int _, .int k a, .int k' b => bif kindEq k k' then some (decide (a = b)) else none
  | .bool, .bool a, .bool b => some (a == b)
  | .string, .string a, .string b => some (a == b)
  | _, _, _ => none
theorem scalarEq_sound {t d : Nat} {i : TI} (ht : TypeOk P t i) {x y : Value} {b : Bool} (h : scalarEq i.desc x y = some b) (w : World) : (Op.equalIn (d + 1) t x y).run P w = .ok b w := by
  unfold Op.equalIn
  rw [run_bind (ht.run_under w)]
  unfold scalarEq at h
  split at h
  · rename_i hd
    rw [hd]
    cases hk : kindEq _ _ <;> rw [hk] at h <;> simp only [cond_true, cond_false, reduceCtorEq, Option.some.injEq] at h
    have := kindEq_eq hk
    subst this; subst h
    simp [go_sem]
    rfl
  · rename_i hd
    rw [hd]
    simp only [Option.some.injEq] at h; subst h; rfl
  · rename_i hd
    rw [hd]
    simp only [Option.some.injEq] at h; subst h; rfl
  · cases h
def eqF (T : Tab) : List Field → List Value → List Value → Option Bool
  | [], _, _ => some true
  | ⟨_, ty, off, _, _, _, _⟩ :: r, xs, ys => match T.get ty, nth xs off, nth ys off with
    | some i, some x, some y => match aggT i.desc, scalarEq i.desc x y, r with
      | false, some b, [] => some b
      | false, some b, r => match eqF T r xs ys with
        | some c => some (b && c)
        | none => none
      | _, _, _ => none
    | _, _, _ => none
theorem eqF_sound (hT : TabOk P T) {d : Nat} : ∀ {fs : List Field} {xs ys : List Value} {b : Bool}, fs.all (fun f => !(f.name == "_")) = true → eqF T fs xs ys = some b → (Op.eqFields (d + 1) xs.toArray ys.toArray fs).run P w = .ok b w
  | [], xs, ys, b, _, h => by simp only [eqF, Option.some.injEq] at h; subst h; simp [Op.eqFields]
  | ⟨nm, ty, off, em, tg, pk, bo⟩ :: r, xs, ys, b, hn, h => by
    simp only [List.all_cons, Bool.and_eq_true] at hn
    have hn' : nm ≠ "_" := by simpa using hn.1
    unfold eqF at h
    split at h
    · rename_i i x y hi hx hy
      have hp : ∀ (l : List Value) (v : Value), nth l off = some v → aggT i.desc = false → (part ty l.toArray off).run P w = .ok v w := fun l v hl ha => by
        unfold part
        rw [run_bind ((hT.out _ _ hi).run_isAgg w), ha]
        rw [nth_eq] at hl
        simp [hl, go_sem]
      split at h
      · rename_i b1 ha hs
        simp only [Option.some.injEq] at h; subst h
        rw [Op.eqFields]
        simp only [if_pos hn', Sem.run_bind, hp _ _ hx ha, hp _ _ hy ha, scalarEq_sound (hT.out _ _ hi) hs, Result.andThen_ok]
        cases b1 <;> simp [Op.eqFields]
      · rename_i b1 ha hs hr
        split at h
        · rename_i c hc
          simp only [Option.some.injEq] at h; subst h
          have ih := eqF_sound (d := d) hT hn.2 hc
          rw [Op.eqFields]
          simp only [if_pos hn', Sem.run_bind, hp _ _ hx ha, hp _ _ hy ha, scalarEq_sound (hT.out _ _ hi) hs, Result.andThen_ok]
          cases b1
          · simp
          · simpa using ih
        · cases h
      · cases h
    · cases h
def fieldsT (T : Tab) (t : Nat) : Option (List Field) := match T.get t with
  | some ⟨.struct fs, _, _, _⟩ => some fs.toList
  | _ => none
abbrev eqR (op : BinOp) (b : Bool) : Bool := match op with
  | .eql => b
  | _ => !b
theorem OpV.eqS {dst : Option Nat} {x y : Operand} {t : Nat} {op : BinOp} {xs ys : Array Value} {fs : List Field} {b : Bool} {yt : Nat} (hT : TabOk P T) (hx : opv env x = some (.agg xs)) (hy : opv env y = some (.agg ys)) (hf : fieldsT T t = some fs) (hst : P.stoodInHeld t = false) (hgd : P.eqGuardType P.depth t = false) (hnm : fs.all (fun f => !(f.name == "_")) = true) (he : eqF T fs xs.toList ys.toList = some b) (hop : op = .eql ∨ op = .neq) : OpV P n env ⟨dst, .binOp op t x y yt, ty, pos, after, gd⟩ w (.bool (eqR op b)) w := by
  refine ⟨fun a ha => .inl ?_⟩
  have hu : ∃ fa : Array Field, P.underlying t = some (.struct fa) ∧ fa.toList = fs := by
    unfold fieldsT at hf
    split at hf
    · rename_i fa s1 b1 z1 hi
      simp only [Option.some.injEq] at hf
      exact ⟨fa, (hT.out _ _ hi).under, hf⟩
    · cases hf
  obtain ⟨fa, hu, rfl⟩ := hu
  have hfo : P.fieldsOf t = fa := by simp [Program.fieldsOf, hu]
  have heq : (Op.equal t (.agg xs) (.agg ys)).run P w = .ok b w := by
    show (Op.equalIn (9998 + 1 + 1) t (.agg xs) (.agg ys)).run P w = _
    rw [run_equalIn_struct (P := P) w (9998 + 1) t xs ys (by rw [hfo]; exact hu) hst, hfo]
    have := eqF_sound (w := w) (d := 9998) hT hnm he
    simpa using this
  show (do let r ← (do eqGuard op t x y (a.eval x) (a.eval y); Go.binOp op t (a.eval x) (a.eval y) : Sem Value); pure (Next.value r) : Sem Next).run P w = _
  rw [opv_sound ha hx, opv_sound ha hy]
  refine run_v (w' := w) ?_
  have hgu : (eqGuard op t x y (.agg xs) (.agg ys)).run P w = .ok () w := by
    rcases hop with rfl | rfl <;> simp [eqGuard, program, Sem.run, hgd, go_sem]
  rw [run_bind hgu]
  rcases hop with rfl | rfl
  · show (do pure (.bool (← Op.equal t (.agg xs) (.agg ys))) : Sem Value).run P w = _
    rw [run_bind heq]; rfl
  · show (do pure (.bool (!(← Op.equal t (.agg xs) (.agg ys)))) : Sem Value).run P w = _
    rw [run_bind heq]; rfl
theorem VcL.eqS {op : BinOp} {xs ys : Array Value} {fs : List Field} {b : Bool} {yt : Nat} (hT : TabOk P T) (hx : opv env x = some (.agg xs)) (hy : opv env y = some (.agg ys)) (hg : gres ops G ⟨some dst, .binOp op t x y yt, ty, pos, after, gd⟩ = some true) (hn : inN n (some dst) = true) (ho : outG G (some dst) = true) (hf : fieldsT T t = some fs) (hst : P.stoodInHeld t = false) (hgd : P.eqGuardType P.depth t = false) (hnm : fs.all (fun f => !(f.name == "_")) = true) (he : eqF T fs xs.toList ys.toList = some b) (hop : op = .eql ∨ op = .neq)
    (k : VcL P n ops K rest G ((dst, .bool (eqR op b)) :: env) w) : VcL P n ops K (⟨some dst, .binOp op t x y yt, ty, pos, after, gd⟩ :: rest) G env w :=
  VcL.val hg hn ho (OpV.eqS hT hx hy hf hst hgd hnm he hop) k
theorem VcD.eqS {S : Phase} {i : Nat} {p : Plan} {op : BinOp} {xs ys : Array Value} {fs : List Field} {b : Bool} {yt : Nat} (hT : TabOk P T) (hi : nthO ops.toList i = some ⟨some dst, .binOp op t x y yt, ty, pos, after, gd⟩) (hx : opv env x = some (.agg xs)) (hy : opv env y = some (.agg ys)) (hg : gres ops G ⟨some dst, .binOp op t x y yt, ty, pos, after, gd⟩ = some true) (hn : inN n (some dst) = true) (ho : outG G (some dst) = true) (hf : fieldsT T t = some fs) (hst : P.stoodInHeld t = false) (hgd : P.eqGuardType P.depth t = false) (hnm : fs.all (fun f => !(f.name == "_")) = true) (he : eqF T fs xs.toList ys.toList = some b) (hop : op = .eql ∨ op = .neq)
    (k : VcD P n ops S K p G ((dst, .bool (eqR op b)) :: env) w) : VcD P n ops S K (.pure i p) G env w :=
  VcD.valP hi hg hn ho (fun w => OpV.eqS hT hx hy hf hst hgd hnm he hop) (fun e => by cases e) k
end
end Go.Proofs.YtpfgcchammlpgaaV
