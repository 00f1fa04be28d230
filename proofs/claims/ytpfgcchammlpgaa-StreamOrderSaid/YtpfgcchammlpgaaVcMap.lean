import Derived.Test.YtpfgcchammlpgaaVcArr
import Derived.Maps.RangeRun
set_option linter.unusedVariables false
set_option linter.unusedSimpArgs false
/- Maps: a list of keys and values, in the order in which they came. -/
namespace Go.Proofs.YtpfgcchammlpgaaV
open Go Go.RowKit Go.BigFrame Go.MapKept

/-- Keys: how they are written as values. -/
class Key (κ : Type) where
  enc : κ → Value
  desc : TypeDesc
  inj : ∀ a b, enc a = enc b → a = b
  isKey : ∀ a, IsKey desc (enc a)
instance : Key Int := ⟨fun n => .int .i64 n, .int .i64, fun a b h => by injection h, fun _ => rfl⟩
instance : Key ByteArray := ⟨fun s => .string s, .string, fun a b h => by injection h, fun _ => trivial⟩

def entL {κ : Type} [Key κ] (es : Array MapEntry) : List (κ × Value) → Prop := fun l => es.toList.map (fun e => (e.key, e.val)) = l.map fun p => (Key.enc p.1, p.2)
/-- A map in memory. -/
structure mp {κ : Type} [Key κ] (m : Nat) (l : List (κ × Value)) (h : HL) : Prop where mk ::
  out : ∃ es clk, h = [(m, .map es clk)] ∧ Stamped es clk ∧ entL es l

theorem Holds.mp_pt {κ : Type} [Key κ] {I : Imm} {w : World} {L : List Asn} {m : Nat} {l : List (κ × Value)} (h : Holds I w (mp m l :: L)) : ∃ es clk, Stamped es clk ∧ entL es l ∧ Holds I w (Go.Proofs.YtpfgcchammlpgaaV.pt m (.map es clk) :: L) := by
  obtain ⟨h1, h2, h3, h4, k, ⟨k1, k2, rfl, ⟨es, clk, hx, hs, he⟩, hk⟩, ho⟩ := h
  exact ⟨es, clk, hs, he, h1, h2, h3, h4, k1 ++ k2, ⟨k1, k2, rfl, ⟨hx⟩, hk⟩, ho⟩
theorem Holds.of_mp {κ : Type} [Key κ] {I : Imm} {w : World} {L : List Asn} {m : Nat} {l : List (κ × Value)} {es : Array MapEntry} {clk : Nat} (hs : Stamped es clk) (he : entL es l) (h : Holds I w (Go.Proofs.YtpfgcchammlpgaaV.pt m (.map es clk) :: L)) : Holds I w (mp m l :: L) := by
  obtain ⟨h1, h2, h3, h4, k, ⟨k1, k2, rfl, ⟨hx⟩, hk⟩, ho⟩ := h
  exact ⟨h1, h2, h3, h4, k1 ++ k2, ⟨k1, k2, rfl, ⟨es, clk, hx, hs, he⟩, hk⟩, ho⟩
theorem entL.keys {κ : Type} [Key κ] {es : Array MapEntry} {l : List (κ × Value)} (h : entL es l) : ∀ x ∈ es.toList, IsKey (Key.desc κ) x.key := fun x hx => by
  have : (x.key, x.val) ∈ es.toList.map (fun e => (e.key, e.val)) := List.mem_map.2 ⟨x, hx, rfl⟩
  rw [h] at this
  obtain ⟨p, _, hp⟩ := List.mem_map.1 this
  injection hp with h1 h2
  rw [← h1]; exact Key.isKey _
theorem entL.at {κ : Type} [Key κ] {es : Array MapEntry} {l : List (κ × Value)} (h : entL es l) (i : Nat) : (es.toList[i]?).map (fun e => (e.key, e.val)) = (l[i]?).map fun p => (Key.enc p.1, p.2) := by
  have := congrArg (fun x => x[i]?) h
  simpa using this
theorem entL.len {κ : Type} [Key κ] {es : Array MapEntry} {l : List (κ × Value)} (h : entL es l) : es.size = l.length := by
  have := congrArg List.length h
  simpa using this

section
variable {κ : Type} [Key κ]
def mget [DecidableEq κ] (l : List (κ × Value)) (k : κ) : Option Value := (l.find? fun p => decide (p.1 = k)).map (·.2)
def mset [DecidableEq κ] (l : List (κ × Value)) (k : κ) (v : Value) : List (κ × Value) := match l.findIdx? fun p => decide (p.1 = k) with
  | some i => l.set i (k, v)
  | none => l ++ [(k, v)]
def mdel [DecidableEq κ] (l : List (κ × Value)) (k : κ) : List (κ × Value) := match l.findIdx? fun p => decide (p.1 = k) with
  | some i => l.eraseIdx i
  | none => l

theorem find_key [DecidableEq κ] {es : Array MapEntry} {l : List (κ × Value)} (h : entL es l) (k : κ) :
    (Instr.findNow (Key.desc κ) (Key.enc k) es.toList 0 = some none ∧ (∀ x ∈ es.toList, x.key ≠ Key.enc k) ∧ l.findIdx? (fun p => decide (p.1 = k)) = none ∧ mget l k = none) ∨
    ∃ j e v, Instr.findNow (Key.desc κ) (Key.enc k) es.toList 0 = some (some (j, v)) ∧ es.toList[j]? = some e ∧ e.key = Key.enc k ∧ e.val = v ∧ l[j]? = some (k, v) := by
  rcases findNow_spec (Key.isKey k) es.toList 0 h.keys with ⟨h1, h2⟩ | ⟨j, e, h1, h2, h3⟩
  · have hn : ∀ p ∈ l, ¬ p.1 = k := fun p hp e => by
      have : (Key.enc p.1, p.2) ∈ l.map (fun p => (Key.enc p.1, p.2)) := List.mem_map.2 ⟨p, hp, rfl⟩
      rw [← h] at this
      obtain ⟨x, hx, hx2⟩ := List.mem_map.1 this
      injection hx2 with h5 h6
      exact h2 x hx (by rw [h5, e])
    refine .inl ⟨h1, h2, ?_, ?_⟩
    · rw [List.findIdx?_eq_none_iff]; intro x hx; simpa using hn x hx
    · unfold mget
      have : l.find? (fun p => decide (p.1 = k)) = none := by rw [List.find?_eq_none]; intro x hx; simpa using hn x hx
      rw [this]; rfl
  · refine .inr ⟨j, e, e.val, by simpa using h1, h2, h3, rfl, ?_⟩
    have := h.at j
    rw [h2] at this
    cases hl : l[j]? with
    | none => rw [hl] at this; cases this
    | some p =>
      rw [hl] at this
      simp only [Option.map_some, Option.some.injEq, Prod.mk.injEq] at this
      rw [h3] at this
      have h5 := Key.inj _ _ this.1
      rw [h5, this.2]
theorem keys_inj {es : Array MapEntry} {clk : Nat} {l : List (κ × Value)} (hs : Stamped es clk) (h : entL es l) {i j : Nat} {k : κ} {u v : Value} (hi : l[i]? = some (k, u)) (hj : l[j]? = some (k, v)) : i = j := by
  obtain ⟨_, _, h3⟩ := hs
  have h1 := h.at i
  have h2 := h.at j
  rw [hi] at h1; rw [hj] at h2
  have hnd := h3
  have e1 : (es.toList.map (·.key))[i]? = some (Key.enc k) := by
    rw [List.getElem?_map]
    cases hx : es.toList[i]? with
    | none => rw [hx] at h1; cases h1
    | some x => rw [hx] at h1; simp only [Option.map_some, Option.some.injEq, Prod.mk.injEq] at h1; simp [h1.1]
  have e2 : (es.toList.map (·.key))[j]? = some (Key.enc k) := by
    rw [List.getElem?_map]
    cases hx : es.toList[j]? with
    | none => rw [hx] at h2; cases h2
    | some x => rw [hx] at h2; simp only [Option.map_some, Option.some.injEq, Prod.mk.injEq] at h2; simp [h2.1]
  obtain ⟨l1, e1'⟩ := List.getElem?_eq_some_iff.1 e1
  obtain ⟨l2, e2'⟩ := List.getElem?_eq_some_iff.1 e2
  rcases Nat.lt_trichotomy i j with hij | hij | hij
  · exact absurd (e1'.trans e2'.symm) ((List.pairwise_iff_getElem.1 hnd) i j l1 l2 hij)
  · exact hij
  · exact absurd (e2'.trans e1'.symm) ((List.pairwise_iff_getElem.1 hnd) j i l2 l1 hij)
theorem findIdx_at [DecidableEq κ] {es : Array MapEntry} {clk : Nat} {l : List (κ × Value)} (hs : Stamped es clk) (h : entL es l) {j : Nat} {k : κ} {v : Value} (hj : l[j]? = some (k, v)) : l.findIdx? (fun p => decide (p.1 = k)) = some j ∧ mget l k = some v := by
  obtain ⟨hl, he⟩ := List.getElem?_eq_some_iff.1 hj
  have hno : ∀ i (hi : i < j), ¬ (l[i]'(by omega)).1 = k := fun i hi e => by
    have h5 : l[i]? = some (k, (l[i]'(by omega)).2) := by rw [List.getElem?_eq_getElem (by omega)]; rw [← e]
    have := keys_inj hs h h5 hj
    omega
  constructor
  · rw [List.findIdx?_eq_some_iff_getElem]
    exact ⟨hl, by simp [he], fun i hi => by simpa using hno i hi⟩
  · unfold mget
    have : l.find? (fun p => decide (p.1 = k)) = some (k, v) := by
      rw [List.find?_eq_some_iff_getElem]
      exact ⟨by simp, j, hl, he, fun i hi => by simpa using hno i hi⟩
    rw [this]; rfl
end

/-- A map type: what its keys are, its values' type. -/
def mapT (T : Tab) (t : Nat) : Option (TypeDesc × Nat × TI) := match T.get t with
  | some ⟨.map k e, _, _, _⟩ => match T.get k, T.get e with
    | some i, some j => some (i.desc, e, j)
    | _, _ => none
  | _ => none
theorem mapT_sound {P : Program} {T : Tab} (hT : TabOk P T) {t e : Nat} {d : TypeDesc} {j : TI} (h : mapT T t = some (d, e, j)) : ∃ k, P.underlying t = some (.map k e) ∧ P.underlying k = some d ∧ TypeOk P e j := by
  unfold mapT at h
  split at h
  · rename_i k e' s1 b1 z1 hi
    split at h
    · rename_i i j' h1 h2
      simp only [Option.some.injEq, Prod.mk.injEq] at h
      obtain ⟨rfl, rfl, rfl⟩ := h
      exact ⟨k, (hT.out t _ hi).under, (hT.out k _ h1).under, hT.out _ _ h2⟩
    · cases h
  · cases h

def foundV (ok : Bool) (z : Value) : Option Value → Value
  | some v => match ok with
    | true => .tuple #[v, .bool true]
    | false => v
  | none => match ok with
    | true => .tuple #[z, .bool false]
    | false => z

section
variable {P : Program} {T : Tab} {n : Fi} {ops : Array Oper} {K : Kont} {G : Gds} {env : Env} {w : World} {rest : List Oper} {dst : Nat} {ty : Nat} {pos : String} {after : Array Edge} {gd : Option (Nat × Bool)} {t : Nat} {x y : Operand}
variable {κ : Type} [Key κ]
theorem heap_put {w : World} {r : Nat} {o : Obj} (o' : Obj) (hb : w.heap[r]? = some o) : (ChangeMaps.setBlock w r o').heap[r]? = some o' ∧ ∀ r', r' ≠ r → (ChangeMaps.setBlock w r o').heap[r']? = w.heap[r']? := heap_set hb
theorem run_setMap {P : Program} {w : World} {r : Nat} {es : Array MapEntry} {clock : Nat} (o : Obj) (hb : w.heap[r]? = some (.map es clock)) : (setObj r o).run P w = .ok () (ChangeMaps.setBlock w r o) := run_setObj_map o hb

theorem OpE.makeMap {I : Imm} {L : List Asn} {o : Oper} (H : Holds I w L) (ho : o.op = .makeMap t none) : OpE P n env o w fun v w' => ∃ m, v = .map (some m) ∧ Holds I w' (mp (κ := κ) m [] :: L) := ⟨.map (some w.heap.size), w.alloc (.map #[] 0), ⟨fun a ha => .inl (by
  unfold execOp
  rw [ho]
  dsimp only
  refine run_v ?_
  simp [Instr.makeMap, go_sem])⟩, _, rfl, Holds.of_mp (stamped_empty 0) rfl (H.alloc _)⟩
theorem OpV.lookup [DecidableEq κ] (hT : TabOk P T) {I : Imm} {L : List Asn} {dst : Option Nat} {m : Nat} {l : List (κ × Value)} {ok : Bool} {k : κ} {e : Nat} {j : TI} (hx : opv env x = some (.map (some m))) (hy : opv env y = some (Key.enc k)) (ht : mapT T t = some (Key.desc κ, e, j)) (H : Holds I w (mp m l :: L)) :
    OpV P n env ⟨dst, .lookup t x y ok, ty, pos, after, gd⟩ w (foundV ok j.zero (mget l k)) w := ⟨fun a ha => .inl (by
  obtain ⟨kt, h1, h2, h3⟩ := mapT_sound hT ht
  obtain ⟨es, clk, hs, he, Hp⟩ := H.mp_pt
  have hb := Hp.pt
  unfold execOp
  dsimp only
  rw [opv_sound ha hx, opv_sound ha hy]
  refine run_v ?_
  rcases find_key he k with ⟨h4, h5, h6, h7⟩ | ⟨i, x, v, h4, h5, h6, h7, h8⟩
  · simp only [Instr.lookup, Sem.run_bind, run_underlying h1, MapKept.run_getObj_map hb, run_checkKey h2 (Key.isKey k), run_findKey h2 h4, h3.run_zero, Result.andThen, Sem.run_pure]
    rw [h7]
    cases ok <;> rfl
  · obtain ⟨h9, h10⟩ := findIdx_at hs he h8
    simp only [Instr.lookup, Sem.run_bind, run_underlying h1, MapKept.run_getObj_map hb, run_checkKey h2 (Key.isKey k), run_findKey h2 h4, Result.andThen, Sem.run_pure]
    rw [h10]
    cases ok <;> rfl)⟩

theorem run_mapUpdate [DecidableEq κ] {I : Imm} {L : List Asn} (hT : TabOk P T) {m : Nat} {l : List (κ × Value)} {k : κ} {e : Nat} {j : TI} {v : Value} (ht : mapT T t = some (Key.desc κ, e, j)) (H : Holds I w (mp m l :: L)) :
    ∃ w', (Instr.mapUpdate t (.map (some m)) (Key.enc k) v).run P w = .ok () w' ∧ Holds I w' (mp m (mset l k v) :: L) := by
  obtain ⟨kt, h1, h2, h3⟩ := mapT_sound hT ht
  obtain ⟨es, clk, hs, he, Hp⟩ := H.mp_pt
  have hb := Hp.pt
  rcases find_key he k with ⟨h4, h5, h6, h7⟩ | ⟨i, x, u, h4, h5, h6, h7, h8⟩
  · refine ⟨ChangeMaps.setBlock w m (.map (es.push { key := Key.enc k, val := v, born := clk }) (clk + 1)), ?_, ?_⟩
    · simp only [Instr.mapUpdate, Sem.run_bind, run_underlying h1, MapKept.run_getObj_map hb, run_checkKey h2 (Key.isKey k), run_findKey h2 h4, Result.andThen, Sem.run_pure]
      exact run_setMap _ hb
    · have h9 := heap_put (.map (es.push { key := Key.enc k, val := v, born := clk }) (clk + 1)) hb
      refine Holds.of_mp (stamped_push hs h5) ?_ (Hp.put rfl rfl rfl h9.1 h9.2)
      unfold mset
      rw [h6]
      unfold entL at he ⊢
      simp [he]
  · obtain ⟨h9, h10⟩ := findIdx_at hs he h8
    have hi : es[i]? = some x := by simpa using h5
    have hstay : ∀ w, (Instr.keyThatStays (((es[i]?).map (·.key)).getD (Key.enc k)) (Key.enc k)).run P w = .ok (Key.enc k) w := fun w => by
      rw [hi]
      simp only [Option.map_some, Option.getD_some, h6]
      unfold Instr.keyThatStays
      have : Instr.sameBits 10000 (Key.enc k) (Key.enc k) = true := by
        have := Key.isKey k
        generalize Key.enc k = kv at this
        generalize Key.desc κ = d at this
        cases d <;> cases kv <;> simp_all [IsKey, Instr.sameBits, bytes_beq]
      rw [this]
      rfl
    refine ⟨ChangeMaps.setBlock w m (.map (es.modify i fun e => { e with key := Key.enc k, val := v }) clk), ?_, ?_⟩
    · simp only [Instr.mapUpdate, Sem.run_bind, run_underlying h1, MapKept.run_getObj_map hb, run_checkKey h2 (Key.isKey k), run_findKey h2 h4, hstay, Result.andThen, Sem.run_pure]
      exact run_setMap _ hb
    · have h11 := heap_put (.map (es.modify i fun e => { e with key := Key.enc k, val := v }) clk) hb
      refine Holds.of_mp (stamped_modify hs i (fun e => { e with key := Key.enc k, val := v }) (fun _ _ => rfl) (fun e he' hei => by rw [hi] at hei; injection hei with hei; subst hei; exact h6.symm)) ?_ (Hp.put rfl rfl rfl h11.1 h11.2)
      unfold mset
      rw [h9]
      unfold entL at he ⊢
      dsimp only
      apply List.ext_getElem?
      intro q
      have hq := entL.at (l := l) he q
      simp only [List.getElem?_map, Array.getElem?_toList, Array.getElem?_modify] at hq ⊢
      by_cases hiq : i = q
      · subst hiq
        have hlt := (List.getElem?_eq_some_iff.1 h8).1
        rw [hi]
        simp [hlt]
      · simp only [hiq, if_false, List.getElem?_set_ne hiq]
        exact hq

theorem eraseIdx_mapE {α β : Type} (f : α → β) : ∀ (l : List α) (i : Nat), (l.eraseIdx i).map f = (l.map f).eraseIdx i
  | [], _ => by simp
  | x :: r, 0 => by simp
  | x :: r, i + 1 => by simp [eraseIdx_mapE f r i]
theorem run_delete [DecidableEq κ] {I : Imm} {L : List Asn} (hT : TabOk P T) {m : Nat} {l : List (κ × Value)} {k : κ} {e kt' : Nat} {j : TI} (ht : mapT T t = some (Key.desc κ, e, j)) (H : Holds I w (mp m l :: L)) :
    ∃ w', (Builtin.delete_ #[t, kt'] ty #[.map (some m), Key.enc k]).run P w = .ok (.tuple #[]) w' ∧ Holds I w' (mp m (mdel l k) :: L) := by
  obtain ⟨kt, h1, h2, h3⟩ := mapT_sound hT ht
  obtain ⟨es, clk, hs, he, Hp⟩ := H.mp_pt
  have hb := Hp.pt
  rcases find_key he k with ⟨h4, h5, h6, h7⟩ | ⟨i, x, u, h4, h5, h6, h7, h8⟩
  · refine ⟨ChangeMaps.setBlock w m (.map es clk), ?_, ?_⟩
    · simp only [Builtin.delete_, List.getElem?_toArray, List.getElem?_cons_zero, List.getElem?_cons_succ, Sem.run_bind, run_underlying h1, MapKept.run_getObj_map hb, run_checkKey h2 (Key.isKey k), run_findKey h2 h4, run_setMap _ hb, Result.andThen, Sem.run_pure]
    · have h9 := heap_put (.map es clk) hb
      refine Holds.of_mp hs ?_ (Hp.put rfl rfl rfl h9.1 h9.2)
      unfold mdel
      rw [h6]
      exact he
  · obtain ⟨h9, h10⟩ := findIdx_at hs he h8
    refine ⟨ChangeMaps.setBlock w m (.map (es.eraseIdxIfInBounds i) clk), ?_, ?_⟩
    · simp only [Builtin.delete_, List.getElem?_toArray, List.getElem?_cons_zero, List.getElem?_cons_succ, Sem.run_bind, run_underlying h1, MapKept.run_getObj_map hb, run_checkKey h2 (Key.isKey k), run_findKey h2 h4, run_setMap _ hb, Result.andThen, Sem.run_pure]
    · have h11 := heap_put (.map (es.eraseIdxIfInBounds i) clk) hb
      refine Holds.of_mp (stamped_erase hs i) ?_ (Hp.put rfl rfl rfl h11.1 h11.2)
      unfold mdel
      rw [h9]
      unfold entL at he ⊢
      dsimp only
      have hlt : i < es.size := by rw [entL.len (l := l) he]; exact (List.getElem?_eq_some_iff.1 h8).1
      have e1 : (es.eraseIdxIfInBounds i).toList = es.toList.eraseIdx i := by
        unfold Array.eraseIdxIfInBounds
        rw [dif_pos hlt, Array.toList_eraseIdx]
      rw [e1, eraseIdx_mapE, he, eraseIdx_mapE]

theorem arr_empty_or_push {α : Type} (xs : Array α) : xs = #[] ∨ ∃ s a, xs = Array.push s a := by
  rcases List.eq_nil_or_concat xs.toList with h | ⟨l, a, h⟩
  · left; exact Array.toList_inj.1 h
  · right; exact ⟨l.toArray, a, Array.toList_inj.1 (by rw [h]; simp)⟩
/-! The rules. -/
theorem VcL.makeMap {I : Imm} {L : List Asn} (κ : Type) [Key κ] (H : Holds I w L) (hg : gres ops G ⟨some dst, .makeMap t none, ty, pos, after, gd⟩ = some true) (hn : inN n (some dst) = true) (ho : outG G (some dst) = true)
    (k : ∀ m w', Holds I w' (mp (κ := κ) m [] :: L) → VcL P n ops K rest G ((dst, .map (some m)) :: env) w') : VcL P n ops K (⟨some dst, .makeMap t none, ty, pos, after, gd⟩ :: rest) G env w :=
  VcL.eff hg hn ho (OpE.makeMap (κ := κ) H rfl) fun v w' ⟨m, hv, H'⟩ => by subst hv; exact k m w' H'
theorem VcL.lookup [DecidableEq κ] {I : Imm} {L : List Asn} {m : Nat} {l : List (κ × Value)} {ok : Bool} {q : κ} {e : Nat} {j : TI} {kv : Value} (hT : TabOk P T) (hx : opv env x = some (.map (some m))) (hy : opv env y = some kv) (H : Holds I w (mp m l :: L)) (hk : Key.enc q = kv) (ht : mapT T t = some (Key.desc κ, e, j))
    (hg : gres ops G ⟨some dst, .lookup t x y ok, ty, pos, after, gd⟩ = some true) (hn : inN n (some dst) = true) (ho : outG G (some dst) = true)
    (k : VcL P n ops K rest G ((dst, foundV ok j.zero (mget l q)) :: env) w) : VcL P n ops K (⟨some dst, .lookup t x y ok, ty, pos, after, gd⟩ :: rest) G env w := by
  subst hk
  exact VcL.val hg hn ho (OpV.lookup hT hx hy ht H) k
theorem VcL.mapUpdate [DecidableEq κ] {I : Imm} {L : List Asn} {z : Operand} {m : Nat} {l : List (κ × Value)} {q : κ} {e : Nat} {j : TI} {kv v : Value} (hT : TabOk P T) (hx : opv env x = some (.map (some m))) (hy : opv env y = some kv) (hz : opv env z = some v) (H : Holds I w (mp m l :: L)) (hk : Key.enc q = kv) (ht : mapT T t = some (Key.desc κ, e, j))
    (hg : gres ops G ⟨none, .mapUpdate t x y z, ty, pos, after, gd⟩ = some true)
    (k : ∀ w', Holds I w' (mp m (mset l q v) :: L) → VcL P n ops K rest G env w') : VcL P n ops K (⟨none, .mapUpdate t x y z, ty, pos, after, gd⟩ :: rest) G env w := by
  subst hk
  obtain ⟨w', h1, h2⟩ := run_mapUpdate (v := v) (k := q) hT ht H
  refine VcL.val (v := undef) hg rfl rfl ⟨fun a ha => .inr ⟨rfl, ?_⟩⟩ (k w' h2)
  unfold execOp
  dsimp only
  rw [opv_sound ha hx, opv_sound ha hy, opv_sound ha hz]
  exact run_u h1
theorem VcL.insert [DecidableEq κ] {I : Imm} {L : List Asn} {z : Operand} {m : Nat} {l : List (κ × Value)} {q : κ} {e : Nat} {j : TI} {kv v : Value} (hT : TabOk P T) (hx : opv env x = some (.map (some m))) (hy : opv env y = some kv) (hz : opv env z = some v) (H : Holds I w (mp m l :: L)) (hk : Key.enc q = kv) (ht : mapT T t = some (Key.desc κ, e, j))
    (hg : gres ops G ⟨none, .insert t x y z, ty, pos, after, gd⟩ = some true)
    (k : ∀ w', Holds I w' (mp m (mset l q v) :: L) → VcL P n ops K rest G env w') : VcL P n ops K (⟨none, .insert t x y z, ty, pos, after, gd⟩ :: rest) G env w := by
  subst hk
  obtain ⟨w', h1, h2⟩ := run_mapUpdate (v := v) (k := q) hT ht H
  refine VcL.val (v := undef) hg rfl rfl ⟨fun a ha => .inr ⟨rfl, ?_⟩⟩ (k w' h2)
  unfold execOp
  dsimp only
  rw [opv_sound ha hx, opv_sound ha hy, opv_sound ha hz]
  exact run_u h1
theorem VcL.delete [DecidableEq κ] {I : Imm} {L : List Asn} {m kt' : Nat} {l : List (κ × Value)} {q : κ} {e : Nat} {j : TI} {kv : Value} (hT : TabOk P T) (hx : opv env x = some (.map (some m))) (hy : opv env y = some kv) (H : Holds I w (mp m l :: L)) (hk : Key.enc q = kv) (ht : mapT T t = some (Key.desc κ, e, j))
    (hg : gres ops G ⟨none, .call { callee := .builtin .delete, args := #[x, y], argTypes := #[t, kt'] }, ty, pos, after, gd⟩ = some true)
    (k : ∀ w', Holds I w' (mp m (mdel l q) :: L) → VcL P n ops K rest G env w') : VcL P n ops K (⟨none, .call { callee := .builtin .delete, args := #[x, y], argTypes := #[t, kt'] }, ty, pos, after, gd⟩ :: rest) G env w := by
  subst hk
  obtain ⟨w', h1, h2⟩ := run_delete (ty := ty) (kt' := kt') (k := q) hT ht H
  refine VcL.val (v := .tuple #[]) hg rfl rfl ⟨fun a ha => .inl ?_⟩ (k w' h2)
  rw [execOp_builtin, builtin_delete]
  simp only [List.map_toArray, List.map_cons, List.map_nil]
  rw [opv_sound ha hx, opv_sound ha hy]
  exact run_v h1
theorem VcL.mapLen {I : Imm} {L : List Asn} {m : Nat} {l : List (κ × Value)} {e : Nat} {j : TI} {d : TypeDesc} (hT : TabOk P T) (hx : opv env x = some (.map (some m))) (H : Holds I w (mp m l :: L)) (ht : mapT T t = some (d, e, j))
    (hg : gres ops G ⟨some dst, .call { callee := .builtin .len, args := #[x], argTypes := #[t] }, ty, pos, after, gd⟩ = some true) (hn : inN n (some dst) = true) (ho : outG G (some dst) = true)
    (k : VcL P n ops K rest G ((dst, .int .i64 l.length) :: env) w) : VcL P n ops K (⟨some dst, .call { callee := .builtin .len, args := #[x], argTypes := #[t] }, ty, pos, after, gd⟩ :: rest) G env w := by
  obtain ⟨kt, h1, h2, h3⟩ := mapT_sound hT ht
  obtain ⟨es, clk, hs, he, Hp⟩ := H.mp_pt
  refine VcL.val hg hn ho ⟨fun a ha => .inl ?_⟩ k
  rw [execOp_builtin, builtin_len]
  simp only [List.map_toArray, List.map_cons, List.map_nil]
  rw [opv_sound ha hx]
  refine run_v ?_
  simp only [Builtin.len_, List.getElem?_toArray, List.getElem?_cons_zero, Sem.run_bind, run_underlying h1, MapKept.run_getObj_map Hp.pt, Result.andThen, Sem.run_pure]
  rw [entL.len (l := l) he]
  rfl

/-! Walking over a map that does not change. -/
/-- A map and its walk: what is left, and what came last. -/
structure wk {κ : Type} [Key κ] (m it : Nat) (l left : List (κ × Value)) (last : Option (κ × Value)) (h : HL) : Prop where mk ::
  out : ∃ es clk seen, h = [(m, .map es clk), (it, .mapIter (some m) clk seen clk)] ∧ Stamped es clk ∧ entL es l ∧ (leftOf es seen).toList.map (fun e => (e.key, e.val)) = left.map (fun p => (Key.enc p.1, p.2)) ∧
    (∀ p, last = some p → ∃ e ∈ es.toList, seen.back? = some e.born ∧ e.key = Key.enc p.1 ∧ e.val = p.2)
theorem Holds.wk_pt {I : Imm} {w : World} {L : List Asn} {m it : Nat} {l left : List (κ × Value)} {last : Option (κ × Value)} (h : Holds I w (wk m it l left last :: L)) : ∃ es clk seen, Stamped es clk ∧ entL es l ∧ (leftOf es seen).toList.map (fun e => (e.key, e.val)) = left.map (fun p => (Key.enc p.1, p.2)) ∧
    (∀ p, last = some p → ∃ e ∈ es.toList, seen.back? = some e.born ∧ e.key = Key.enc p.1 ∧ e.val = p.2) ∧ Holds I w (Go.Proofs.YtpfgcchammlpgaaV.pt m (.map es clk) :: Go.Proofs.YtpfgcchammlpgaaV.pt it (.mapIter (some m) clk seen clk) :: L) := by
  obtain ⟨h1, h2, h3, h4, k, ⟨k1, k2, rfl, ⟨es, clk, seen, hx, hs, he, hl, ha⟩, hk⟩, ho⟩ := h
  refine ⟨es, clk, seen, hs, he, hl, ha, h1, h2, h3, h4, k1 ++ k2, ⟨[(m, .map es clk)], (it, .mapIter (some m) clk seen clk) :: k2, by rw [hx]; rfl, ⟨rfl⟩, [(it, .mapIter (some m) clk seen clk)], k2, rfl, ⟨rfl⟩, hk⟩, ho⟩
theorem Holds.of_wk {I : Imm} {w : World} {L : List Asn} {m it clk : Nat} {es : Array MapEntry} {seen : Array Nat} {l left : List (κ × Value)} {last : Option (κ × Value)} (hs : Stamped es clk) (he : entL es l) (hl : (leftOf es seen).toList.map (fun e => (e.key, e.val)) = left.map (fun p => (Key.enc p.1, p.2)))
    (ha : ∀ p, last = some p → ∃ e ∈ es.toList, seen.back? = some e.born ∧ e.key = Key.enc p.1 ∧ e.val = p.2) (h : Holds I w (Go.Proofs.YtpfgcchammlpgaaV.pt m (.map es clk) :: Go.Proofs.YtpfgcchammlpgaaV.pt it (.mapIter (some m) clk seen clk) :: L)) : Holds I w (wk m it l left last :: L) := by
  obtain ⟨h1, h2, h3, h4, k, ⟨k1, k2, rfl, ⟨hx⟩, k3, k4, rfl, ⟨hy⟩, hk⟩, ho⟩ := h
  exact ⟨h1, h2, h3, h4, (k1 ++ k3) ++ k4, ⟨k1 ++ k3, k4, rfl, ⟨es, clk, seen, by rw [hx, hy]; rfl, hs, he, hl, ha⟩, hk⟩, by rw [List.append_assoc]; exact ho⟩
/-- The walk is over: the map again. -/
theorem Holds.wk_end {I : Imm} {w : World} {L : List Asn} {m it : Nat} {l left : List (κ × Value)} {last : Option (κ × Value)} (h : Holds I w (wk m it l left last :: L)) : Holds I w (mp m l :: L) := by
  obtain ⟨es, clk, seen, hs, he, _, _, H⟩ := h.wk_pt
  exact Holds.of_mp hs he H.swap.drop
theorem VcL.range {I : Imm} {L : List Asn} {m : Nat} {l : List (κ × Value)} {e : Nat} {j : TI} {d : TypeDesc} (hT : TabOk P T) (hx : opv env x = some (.map (some m))) (H : Holds I w (mp m l :: L)) (ht : mapT T t = some (d, e, j))
    (hg : gres ops G ⟨some dst, .range t x, ty, pos, after, gd⟩ = some true) (hn : inN n (some dst) = true) (ho : outG G (some dst) = true)
    (k : ∀ it w', Holds I w' (wk m it l l none :: L) → VcL P n ops K rest G ((dst, .pointer (some ⟨it, 0, none⟩)) :: env) w') : VcL P n ops K (⟨some dst, .range t x, ty, pos, after, gd⟩ :: rest) G env w := by
  obtain ⟨kt, h1, h2, h3⟩ := mapT_sound hT ht
  obtain ⟨es, clk, hs, he, Hp⟩ := H.mp_pt
  refine VcL.val hg hn ho ⟨fun a ha => .inl ?_⟩ (k w.heap.size (w.alloc (.mapIter (some m) clk #[] clk)) (Holds.of_wk (seen := #[]) hs he ?_ (fun p hp => by cases hp) (Hp.alloc _).swap))
  · unfold execOp
    dsimp only
    rw [opv_sound ha hx]
    exact run_v (run_range_map w t kt e m es clk h1 Hp.pt)
  · have : leftOf es #[] = es := by unfold leftOf; simp
    rw [this]; exact he
noncomputable def decK (p : Value × Value) : Option (κ × Value) := by
  classical
  exact if h : ∃ k : κ, Key.enc k = p.1 then some (Classical.choose h, p.2) else none
theorem decK_enc (p : κ × Value) : decK (κ := κ) (Key.enc p.1, p.2) = some p := by
  unfold decK
  have h : ∃ k : κ, Key.enc k = (Key.enc p.1, p.2).1 := ⟨p.1, rfl⟩
  rw [dif_pos h]
  have := Key.inj _ _ (Classical.choose_spec h)
  simp only [Option.some.injEq]
  rw [this]
theorem decK_map (l : List (κ × Value)) : (l.map fun p => (Key.enc p.1, p.2)).filterMap decK = l := by
  rw [List.filterMap_map]
  induction l with
  | nil => rfl
  | cons p r ih => rw [List.filterMap_cons]; simp only [Function.comp, decK_enc, ih]
theorem filter_born : ∀ (L : List MapEntry), (L.map (·.born)).Nodup → ∀ e ∈ L, L.Perm (e :: L.filter fun x => !(x.born == e.born))
  | [], _, e, he => by cases he
  | x :: r, hn, e, he => by
    simp only [List.map_cons, List.nodup_cons] at hn
    rcases List.mem_cons.1 he with rfl | he
    · have h1 : r.filter (fun x => !(x.born == e.born)) = r := by
        rw [List.filter_eq_self]
        intro y hy
        have : y.born ≠ e.born := fun h => hn.1 (h ▸ List.mem_map_of_mem hy)
        simpa using this
      rw [List.filter_cons_of_neg (by simp), h1]
    · have hne : x.born ≠ e.born := fun h => hn.1 (h ▸ List.mem_map_of_mem he)
      rw [List.filter_cons_of_pos (by simpa using hne)]
      exact ((filter_born r hn.2 e he).cons x).trans (List.Perm.swap _ _ _)
theorem VcL.next {I : Imm} {L : List Asn} {m it : Nat} {l left : List (κ × Value)} {last : Option (κ × Value)} (hx : opv env x = some (.pointer (some ⟨it, 0, none⟩))) (H : Holds I w (wk m it l left last :: L))
    (hg : gres ops G ⟨some dst, .next x false, ty, pos, after, gd⟩ = some true) (hn : inN n (some dst) = true) (ho : outG G (some dst) = true)
    (k1 : left = [] → VcL P n ops K rest G ((dst, .tuple #[.bool false]) :: env) w)
    (k2 : ∀ q v left' w', left.Perm ((q, v) :: left') → Holds I w' (wk m it l left' (some (q, v)) :: L) → VcL P n ops K rest G ((dst, .tuple #[.bool true, Key.enc q, v]) :: env) w') : VcL P n ops K (⟨some dst, .next x false, ty, pos, after, gd⟩ :: rest) G env w := by
  obtain ⟨es, clk, seen, hs, he, hl, hla, Hp⟩ := H.wk_pt
  have hm := Hp.pt
  have hi := Hp.swap.pt
  rcases run_next_at (P := P) w ty it m clk clk seen es clk hi hm hs.1 (Nat.le_refl _) with ⟨h0, hr⟩ | ⟨e, he1, w1, hw1, hr⟩
  · refine VcL.val hg hn ho ⟨fun a ha => .inl ?_⟩ (k1 ?_)
    · unfold execOp
      dsimp only
      rw [opv_sound ha hx]
      exact run_v hr
    · have := congrArg List.length hl
      simp only [List.length_map, Array.length_toList] at this
      exact List.length_eq_zero_iff.1 (by omega)
  · have hee : e ∈ es.toList := by
      unfold leftOf at he1
      simp at he1
      simpa using he1.1
    have hnd : ((leftOf es seen).toList.map (·.born)).Nodup := by
      have : (leftOf es seen).toList.Sublist es.toList := by unfold leftOf; rw [Array.toList_filter]; exact List.filter_sublist
      exact (this.map _).nodup hs.2.1
    have hperm := filter_born _ hnd e he1
    have hnew : (leftOf es (seen.push e.born)).toList = (leftOf es seen).toList.filter fun x => !(x.born == e.born) := by
      unfold leftOf
      rw [Array.toList_filter, Array.toList_filter, List.filter_filter]
      congr 1
      funext x
      simp only [Array.contains_push, Bool.not_or]
      rw [Bool.and_comm]
    have hmem : (e.key, e.val) ∈ left.map fun p => (Key.enc p.1, p.2) := by rw [← hl]; exact List.mem_map.2 ⟨e, he1, rfl⟩
    obtain ⟨⟨q, v⟩, hqm, hqv⟩ := List.mem_map.1 hmem
    injection hqv with hq1 hq2
    dsimp only at hq1 hq2
    have hsub : ∀ x ∈ (leftOf es (seen.push e.born)).toList, ∃ p : κ × Value, (Key.enc p.1, p.2) = (x.key, x.val) := fun x hx => by
      rw [hnew] at hx
      have hx2 := (List.mem_filter.1 hx).1
      have : (x.key, x.val) ∈ left.map fun p => (Key.enc p.1, p.2) := by rw [← hl]; exact List.mem_map.2 ⟨x, hx2, rfl⟩
      obtain ⟨p, _, hp⟩ := List.mem_map.1 this
      exact ⟨p, hp⟩
    have hex : ∀ (Z : List MapEntry), (∀ x ∈ Z, ∃ p : κ × Value, (Key.enc p.1, p.2) = (x.key, x.val)) → ∃ left' : List (κ × Value), Z.map (fun e => (e.key, e.val)) = left'.map fun p => (Key.enc p.1, p.2) := by
      intro Z
      induction Z with
      | nil => exact fun _ => ⟨[], rfl⟩
      | cons z r ih =>
        intro hz
        obtain ⟨p, hp⟩ := hz z List.mem_cons_self
        obtain ⟨l', hl'⟩ := ih fun x hx => hz x (List.mem_cons_of_mem _ hx)
        exact ⟨p :: l', by rw [List.map_cons, List.map_cons, hp, hl']⟩
    obtain ⟨left', hl'⟩ := hex _ hsub
    have hpm : left.Perm ((q, v) :: left') := by
      have h5 := (hperm.map fun e => (e.key, e.val))
      rw [hl, List.map_cons, ← hnew, hl'] at h5
      have h6 := h5.filterMap (decK (κ := κ))
      rw [decK_map, List.filterMap_cons, ← hq1, ← hq2] at h6
      have h7 := decK_enc (κ := κ) (q, v)
      dsimp only at h7
      rw [h7] at h6
      dsimp only at h6
      rw [decK_map] at h6
      exact h6
    have hw1h : w1.heap = w.heap ∧ w1.os = w.os ∧ w1.tape = w.tape ∧ w1.output = w.output := by rcases hw1 with rfl | rfl <;> exact ⟨rfl, rfl, rfl, rfl⟩
    have hi1 : w1.heap[it]? = some (.mapIter (some m) clk seen clk) := by rw [hw1h.1]; exact hi
    have hset : (ChangeMaps.setBlock w1 it (.mapIter (some m) clk (seen.push e.born) clk)).heap[it]? = some (.mapIter (some m) clk (seen.push e.born) clk) ∧ ∀ c, c ≠ it → (ChangeMaps.setBlock w1 it (.mapIter (some m) clk (seen.push e.born) clk)).heap[c]? = w.heap[c]? := by
      have := heap_put (.mapIter (some m) clk (seen.push e.born) clk) hi1
      exact ⟨this.1, fun c hc => by rw [this.2 c hc, hw1h.1]⟩
    have H2 := Hp.swap.put (w' := ChangeMaps.setBlock w1 it (.mapIter (some m) clk (seen.push e.born) clk)) hw1h.2.1 hw1h.2.2.1 hw1h.2.2.2 hset.1 hset.2
    refine VcL.val hg hn ho ⟨fun a ha => .inl ?_⟩ (k2 q v left' _ hpm (Holds.of_wk hs he hl' (fun p hp => ?_) H2.swap))
    · unfold execOp
      dsimp only
      rw [opv_sound ha hx, hq1, hq2]
      exact run_v hr
    · injection hp with hp
      subst hp
      exact ⟨e, hee, Array.back?_push, hq1.symm, hq2.symm⟩
theorem VcL.entry {I : Imm} {L : List Asn} {m it : Nat} {l left : List (κ × Value)} {q : κ} {v : Value} (hx : opv env x = some (.pointer (some ⟨it, 0, none⟩))) (H : Holds I w (wk m it l left (some (q, v)) :: L))
    (hg : gres ops G ⟨some dst, .entry x, ty, pos, after, gd⟩ = some true) (hn : inN n (some dst) = true) (ho : outG G (some dst) = true)
    (k : VcL P n ops K rest G ((dst, .tuple #[Key.enc q, v]) :: env) w) : VcL P n ops K (⟨some dst, .entry x, ty, pos, after, gd⟩ :: rest) G env w := by
  obtain ⟨es, clk, seen, hs, he, hl, hla, Hp⟩ := H.wk_pt
  have hm := Hp.pt
  have hi := Hp.swap.pt
  obtain ⟨e, he1, he2, he3, he4⟩ := hla _ rfl
  dsimp only at he3 he4
  obtain ⟨seen', rfl⟩ : ∃ s : Array Nat, seen = s.push e.born := by
    rcases arr_empty_or_push seen with h0 | ⟨s, a, h0⟩
    · rw [h0] at he2; simp at he2
    · refine ⟨s, ?_⟩
      rw [h0] at he2
      rw [Array.back?_push] at he2
      injection he2 with he2
      rw [h0, he2]
  have hr := run_entry_at (P := P) w it m clk seen' es clk e hi hm he1 hs.2.1
  refine VcL.val hg hn ho ⟨fun a ha => .inl ?_⟩ k
  unfold execOp
  dsimp only
  rw [opv_sound ha hx, ← he3, ← he4]
  exact run_v hr
end

/-! ### What is never changed again -/
structure Imm.Le (I J : Imm) : Prop where mk ::
  blk : ∀ b o, I.blk b = some o → J.blk b = some o
  os : J.os = I.os
  tape : J.tape = I.tape
  output : J.output = I.output
theorem Imm.Le.rfl' (I : Imm) : Imm.Le I I := ⟨fun _ _ h => h, rfl, rfl, rfl⟩
theorem Imm.Le.trans {I J K : Imm} (h : Imm.Le I J) (k : Imm.Le J K) : Imm.Le I K := ⟨fun b o x => k.blk b o (h.blk b o x), k.os.trans h.os, k.tape.trans h.tape, k.output.trans h.output⟩
def Imm.add (I : Imm) (b : Nat) (o : Obj) : Imm := { I with blk := fun c => if c = b then some o else I.blk c }
theorem Holds.less {I J : Imm} {w : World} {L : List Asn} (h : Holds J w L) (hl : Imm.Le I J) : Holds I w L := by
  obtain ⟨h1, h2, h3, h4, k, hs, ho⟩ := h
  refine ⟨h1.trans hl.os, h2.trans hl.tape, h3.trans hl.output, fun b o hb => h4 b o (hl.blk b o hb), k, hs, ho.nodup, fun p hp => ⟨(ho.here p hp).1, ?_⟩⟩
  cases hb : I.blk p.1 with
  | none => rfl
  | some o => have := hl.blk _ _ hb; rw [(ho.here p hp).2] at this; cases this
theorem Holds.freezePt {I : Imm} {w : World} {L : List Asn} {b : Nat} {o : Obj} (h : Holds I w (Go.Proofs.YtpfgcchammlpgaaV.pt b o :: L)) : Imm.Le I (I.add b o) ∧ Holds (I.add b o) w L := by
  obtain ⟨h1, h2, h3, h4, k, ⟨k1, k2, rfl, ⟨rfl⟩, hs⟩, ho⟩ := h
  have hb := ho.here (b, o) (by simp)
  have hnd := ho.nodup
  simp only [List.singleton_append, List.map_cons, List.nodup_cons] at hnd
  refine ⟨⟨fun c x hc => ?_, rfl, rfl, rfl⟩, h1, h2, h3, fun c x hc => ?_, k2, hs, hnd.2, fun p hp => ?_⟩
  · show (if c = b then some o else I.blk c) = some x
    rw [if_neg (fun e => by subst e; rw [hb.2] at hc; cases hc)]; exact hc
  · have hc' : (if c = b then some o else I.blk c) = some x := hc
    split at hc'
    · rename_i e; subst e; injection hc' with hc'; subst hc'; exact hb.1
    · exact h4 c x hc'
  · obtain ⟨h5, h6⟩ := ho.here p (List.mem_append_right _ hp)
    refine ⟨h5, ?_⟩
    show (if p.1 = b then some o else I.blk p.1) = none
    rw [if_neg (fun e : p.1 = b => hnd.1 (e ▸ List.mem_map_of_mem hp))]; exact h6
theorem RdI.mono {I J : Imm} {b o : Nat} {cs : List Value} (h : RdI I b o cs) (hl : Imm.Le I J) : RdI J b o cs := ⟨fun j v hj => by
  obtain ⟨c, e, fr, h1, h2⟩ := h.out j v hj
  exact ⟨c, e, fr, hl.blk _ _ h1, h2⟩⟩
theorem SlI.mono {I J : Imm} {v : Value} {sz n : Nat} {cs : List Value} (h : SlI I v sz n cs) (hl : Imm.Le I J) : SlI J v sz n cs := by
  obtain ⟨A, cap, h1, h2, h3, h4, h5⟩ := h.out
  exact ⟨A, cap, h1, h2, h3, h4, fun a ha h0 => by obtain ⟨b, o, e, h6⟩ := h5 a ha h0; exact ⟨b, o, e, h6.mono hl⟩⟩
theorem SlI.nil {I : Imm} {sz : Nat} : SlI I (.slice none 0 0) sz 0 [] := ⟨none, 0, rfl, by simp, Nat.le_refl _, fun _ => ⟨rfl, rfl⟩, fun a ha => by cases ha⟩
/-- A block that is not written any more. -/
theorem Holds.freezeBlk {I : Imm} {w : World} {L : List Asn} {b e : Nat} {cs : List Value} (h : Holds I w (blk b e cs :: L)) : ∃ J, Imm.Le I J ∧ Holds J w L ∧ ∀ pre mid post, cs = pre ++ mid ++ post → RdI J b pre.length mid := by
  obtain ⟨fr, _, H⟩ := h.blk_pt
  obtain ⟨h1, h2⟩ := H.freezePt
  refine ⟨_, h1, h2, fun pre mid post hc => ⟨fun j v hj => ⟨cs.toArray, e, fr, by show (if b = b then _ else _) = _; rw [if_pos rfl], ?_⟩⟩⟩
  have hl := (List.getElem?_eq_some_iff.1 hj).1
  simp only [List.getElem?_toArray]
  rw [hc, List.append_assoc, List.getElem?_append_right (by omega), List.getElem?_append_left (by omega), show pre.length + j - pre.length = j by omega]
  exact hj
theorem Holds.freezeOwn {I : Imm} {w : World} {L : List Asn} {v : Value} {e sz n : Nat} {cs : List Value} (h : Holds I w (own v e sz n cs :: L)) : ∃ J, Imm.Le I J ∧ Holds J w L ∧ SlI J v sz n cs := by
  rcases h.own_cases with ⟨rfl, rfl, rfl, H⟩ | ⟨b, o, cap, pre, rest, rfl, h1, h2, h3, h4, H⟩
  · exact ⟨I, Imm.Le.rfl' I, H, SlI.nil⟩
  · obtain ⟨J, h5, h6, h7⟩ := H.freezeBlk
    refine ⟨J, h5, h6, some ⟨b, o, none⟩, cap, rfl, h2, h1, (fun e => by cases e), fun a ha h0 => ?_⟩
    injection ha with ha
    subst ha
    subst h3
    exact ⟨b, _, rfl, h7 pre cs rest rfl⟩

section
variable {P : Program} {T : Tab} {n : Fi} {ops : Array Oper} {K : Kont} {G : Gds} {env : Env} {w : World} {rest : List Oper} {dst : Nat} {ty : Nat} {pos : String} {after : Array Edge} {gd : Option (Nat × Bool)} {t : Nat} {x y : Operand}
theorem OpE.makeSlice {I : Imm} {L : List Asn} (hT : TabOk P T) (H : Holds I w L) {o : Oper} {e m : Nat} {j : TI} {k1 k2 : IntKind} (ho : o.op = .makeSlice t x y) (hx : opv env x = some (.int k1 m)) (hy : opv env y = some (.int k2 m)) (ht : elemJ T t = some (e, j)) (hm : m * j.bytes ≤ 2 ^ 46) :
    OpE P n env o w fun v w' => Holds I w' (own v e j.size m (repL m j.zero.cells.toList) :: L) := by
  have hE := elemJ_sound hT ht
  obtain ⟨ti, hi1, hi2, hi3, hi4⟩ := hE.elem.run_info w
  have hz : (repL m j.zero.cells.toList).length = m * j.size := by rw [repL_length, Array.length_toList, hE.zero]
  have hmb : m ≤ 2 ^ 46 := Nat.le_trans (Nat.le_mul_of_pos_right _ hE.bpos) hm
  have hw : IntKind.i64.wrap (m : Int) = m := wrap_i64 (by omega) (by omega)
  refine ⟨.slice (some ⟨w.heap.size, 0, none⟩) m m, w.alloc (.cells (repL m j.zero.cells.toList).toArray e), ⟨fun a ha => .inl ?_⟩, ?_⟩
  · unfold execOp
    rw [ho]
    dsimp only
    rw [opv_sound ha hx, opv_sound ha hy]
    refine run_v ?_
    unfold Instr.makeSlice
    rw [run_bind (run_underlying hE.under w)]
    dsimp only
    have has : ∀ k, (asInt (.int k (m : Int))).run P w = .ok (m : Int) w := fun _ => rfl
    rw [run_bind (has k1), run_bind (has k2), run_bind hi1]
    simp only [hw, hi3]
    have hbm : ((j.bytes : Int) * (m : Int)) = ((m * j.bytes : Nat) : Int) := by rw [Int.natCast_mul]; exact Int.mul_comm _ _
    rw [if_neg (by simp only [hbm, Bool.or_eq_true, decide_eq_true_eq]; omega)]
    have hroom : (askRoom ((m : Int).toNat * ti.bytes)).run P w = .ok () w := by
      unfold askRoom
      split <;> rfl
    rw [hi3] at hroom
    rw [run_bind hroom, run_bind (hE.elem.run_size w)]
    simp only [Int.toNat_natCast]
    by_cases h0 : m * j.size = 0
    · rw [if_pos h0]
      have hm0 : m = 0 := by
        rcases Nat.mul_eq_zero.1 h0 with h | h
        · exact h
        · exact absurd h (by have := hE.pos; omega)
      subst hm0
      simp [repL, go_sem, newRow]
    · rw [if_neg h0]
      simp only [Sem.run_bind, hE.elem.run_zero w, Result.andThen, Sem.run_pure]
      have e1 : (Array.range (m * j.size)).map (fun x => j.zero.cells[x % j.zero.cells.size]!) = (repL m j.zero.cells.toList).toArray := range_rep _ _ hE.zero hE.pos m
      rw [e1]
      rfl
  · have h4 : Holds I (w.alloc (.cells (repL m j.zero.cells.toList).toArray e)) (blk w.heap.size e ([] ++ repL m j.zero.cells.toList ++ []) :: L) := by simpa using H.allocBlk (repL m j.zero.cells.toList) e
    exact h4.own_mk (Nat.le_refl _) hz (by simp)
theorem VcL.makeSlice {I : Imm} {L : List Asn} {e m : Nat} {j : TI} {k1 k2 : IntKind} (hT : TabOk P T) (H : Holds I w L) (hx : opv env x = some (.int k1 m)) (hy : opv env y = some (.int k2 m)) (ht : elemJ T t = some (e, j)) (hm : m * j.bytes ≤ 2 ^ 46)
    (hg : gres ops G ⟨some dst, .makeSlice t x y, ty, pos, after, gd⟩ = some true) (hn : inN n (some dst) = true) (ho : outG G (some dst) = true)
    (k : ∀ v w', Holds I w' (own v e j.size m (repL m j.zero.cells.toList) :: L) → VcL P n ops K rest G ((dst, v) :: env) w') : VcL P n ops K (⟨some dst, .makeSlice t x y, ty, pos, after, gd⟩ :: rest) G env w :=
  VcL.eff hg hn ho (OpE.makeSlice hT H rfl hx hy ht hm) fun v w' H' => k v w' H'
/-- Bytes of a string, in memory of their own; a string of bytes. -/
theorem VcL.toBytes {I : Imm} {L : List Asn} {s d e : Nat} {str : ByteArray} {is ie id : TI} (hT : TabOk P T) (H : Holds I w L) (hx : opv env x = some (.string str)) (hs : T.get s = some is) (hsd : is.desc = .string) (hd : T.get d = some id) (hdd : id.desc = .slice e) (he : T.get e = some ie) (hed : ie.desc = .int .u8)
    (hg : gres ops G ⟨some dst, .convert s d x, ty, pos, after, gd⟩ = some true) (hn : inN n (some dst) = true) (ho : outG G (some dst) = true)
    (k : ∀ v w', Holds I w' (own v e 1 str.size (str.data.toList.map byteV) :: L) → VcL P n ops K rest G ((dst, v) :: env) w') : VcL P n ops K (⟨some dst, .convert s d x, ty, pos, after, gd⟩ :: rest) G env w :=
  VcL.eff hg hn ho (OpE.toBytes hT H rfl hx hs hsd hd hdd he hed) fun v w' H' => k v w' H'
theorem VcL.ofBytes {s d e m : Nat} {v : Value} {is ie id : TI} {bs : List UInt8} (hT : TabOk P T) (hx : opv env x = some v) (hs : T.get s = some is) (hsd : is.desc = .slice e) (he : T.get e = some ie) (hed : ie.desc = .int .u8) (hd : T.get d = some id) (hdd : id.desc = .string) (h : Src w 1 v m (bs.map byteV)) (hv : ∃ a c, v = .slice a m c)
    (hg : gres ops G ⟨some dst, .convert s d x, ty, pos, after, gd⟩ = some true) (hn : inN n (some dst) = true) (ho : outG G (some dst) = true)
    (k : VcL P n ops K rest G ((dst, .string ⟨bs.toArray⟩) :: env) w) : VcL P n ops K (⟨some dst, .convert s d x, ty, pos, after, gd⟩ :: rest) G env w :=
  VcL.val hg hn ho (OpV.ofBytes hT rfl hx hs hsd he hed hd hdd h hv) k
/-- A choice whose condition is open. -/
theorem VcL.pickO {c : Nat} {b : Bool} {vx vy : Value} (hc : env.get c = some (.bool b)) (hx : b = true → opv env x = some vx) (hy : b = false → opv env y = some vy)
    (hg : gres ops G ⟨some dst, .pick (.tmp c) x y, ty, pos, after, gd⟩ = some true) (hn : inN n (some dst) = true) (ho : outG G (some dst) = true)
    (k : VcL P n ops K rest G ((dst, bif b then vx else vy) :: env) w) : VcL P n ops K (⟨some dst, .pick (.tmp c) x y, ty, pos, after, gd⟩ :: rest) G env w :=
  VcL.val hg hn ho ⟨fun a ha => .inl (by
    have h1 := ha.get c _ hc
    show (do pure (Next.value (if ← asBool (a.tmps.getD c undef) then a.eval x else a.eval y)) : Sem Next).run P w = _
    rw [h1]
    cases b with
    | true => have := opv_sound ha (hx rfl); simp only [cond_true]; rw [← this]; rfl
    | false => have := opv_sound ha (hy rfl); simp only [cond_false]; rw [← this]; rfl)⟩ k
/-! Shifts by a number that is not written out. -/
def shV (op : BinOp) (k : IntKind) (a : Int) (m : Nat) : Int := match op with
  | .shl => k.wrap (a * 2 ^ (min m k.bits))
  | _ => a.fdiv (2 ^ (min m k.bits))
theorem OpV.sh {dst : Option Nat} {op : BinOp} {k k' : IntKind} {a b : Int} {m yt : Nat} (hop : op = .shl ∨ op = .shr) (hx : opv env x = some (.int k a)) (hy : opv env y = some (.int k' b)) (hb : b = (m : Int)) : OpV P n env ⟨dst, .binOp op t x y yt, ty, pos, after, gd⟩ w (.int k (shV op k a m)) w := ⟨fun ac ha => .inl (by
  subst hb
  have hc : intConst op k a (m : Int) = some (.int k (shV op k a m)) := by rcases hop with rfl | rfl <;> rfl
  obtain ⟨h1, h2⟩ := run_const (P := P) (t := t) (x := x) (y := y) (k' := k') hc (.inr hop) w
  show (do let r ← (do eqGuard op t x y (ac.eval x) (ac.eval y); Go.binOp op t (ac.eval x) (ac.eval y) : Sem Value); pure (Next.value r) : Sem Next).run P w = _
  rw [opv_sound ha hx, opv_sound ha hy]
  refine run_v (w' := w) ?_
  rw [run_bind h1]
  exact h2)⟩
theorem VcL.shl {k k' : IntKind} {a b : Int} {m yt : Nat} (hx : opv env x = some (.int k a)) (hy : opv env y = some (.int k' b)) (hb : b = (m : Int)) (hg : gres ops G ⟨some dst, .binOp .shl t x y yt, ty, pos, after, gd⟩ = some true) (hn : inN n (some dst) = true) (ho : outG G (some dst) = true)
    (kk : VcL P n ops K rest G ((dst, .int k (k.wrap (a * 2 ^ (min m k.bits)))) :: env) w) : VcL P n ops K (⟨some dst, .binOp .shl t x y yt, ty, pos, after, gd⟩ :: rest) G env w :=
  VcL.val hg hn ho (OpV.sh (.inl rfl) hx hy hb) kk
theorem VcL.shr {k k' : IntKind} {a b : Int} {m yt : Nat} (hx : opv env x = some (.int k a)) (hy : opv env y = some (.int k' b)) (hb : b = (m : Int)) (hg : gres ops G ⟨some dst, .binOp .shr t x y yt, ty, pos, after, gd⟩ = some true) (hn : inN n (some dst) = true) (ho : outG G (some dst) = true)
    (kk : VcL P n ops K rest G ((dst, .int k (a.fdiv (2 ^ (min m k.bits)))) :: env) w) : VcL P n ops K (⟨some dst, .binOp .shr t x y yt, ty, pos, after, gd⟩ :: rest) G env w :=
  VcL.val hg hn ho (OpV.sh (.inr rfl) hx hy hb) kk
theorem VcD.shl {S : Phase} {i : Nat} {p : Plan} {k k' : IntKind} {a b : Int} {m yt : Nat} (hi : nthO ops.toList i = some ⟨some dst, .binOp .shl t x y yt, ty, pos, after, gd⟩) (hx : opv env x = some (.int k a)) (hy : opv env y = some (.int k' b)) (hb : b = (m : Int)) (hg : gres ops G ⟨some dst, .binOp .shl t x y yt, ty, pos, after, gd⟩ = some true) (hn : inN n (some dst) = true) (ho : outG G (some dst) = true)
    (kk : VcD P n ops S K p G ((dst, .int k (k.wrap (a * 2 ^ (min m k.bits)))) :: env) w) : VcD P n ops S K (.pure i p) G env w :=
  VcD.valP hi hg hn ho (fun w => OpV.sh (.inl rfl) hx hy hb) (fun e => by cases e) kk
theorem VcD.shr {S : Phase} {i : Nat} {p : Plan} {k k' : IntKind} {a b : Int} {m yt : Nat} (hi : nthO ops.toList i = some ⟨some dst, .binOp .shr t x y yt, ty, pos, after, gd⟩) (hx : opv env x = some (.int k a)) (hy : opv env y = some (.int k' b)) (hb : b = (m : Int)) (hg : gres ops G ⟨some dst, .binOp .shr t x y yt, ty, pos, after, gd⟩ = some true) (hn : inN n (some dst) = true) (ho : outG G (some dst) = true)
    (kk : VcD P n ops S K p G ((dst, .int k (a.fdiv (2 ^ (min m k.bits)))) :: env) w) : VcD P n ops S K (.pure i p) G env w :=
  VcD.valP hi hg hn ho (fun w => OpV.sh (.inr rfl) hx hy hb) (fun e => by cases e) kk
end
end Go.Proofs.YtpfgcchammlpgaaV
