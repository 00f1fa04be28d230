/- Arguments of any kind, read as data, laid open as lists, structs, numbers and strings: kind by kind. -/
import Derived.Deep.Slices
import Derived.OpenShut
import Derived.SizedLaws
import Derived.ProofKit
import Derived.Test.YtkmbcjpedmlhfaaWWords
import Derived.Test.YtkmbcjpedmlhfaaWMore
namespace Go.Proofs.Ytkmbcjpedmlhfaa.Open
open Go.RowKit Go.Proofs.YtkmbcjpedmlhfaaW.PrintWords Go.ChangeShapes Go.WideShapes

/-- A value of type t that can be read is one of kind d, and meets ok. -/
structure Opn {α : Type} (P : Program) (t : TypeId) (d : Kd α) (ok : α → Prop) : Prop where mk ::
  out : ∀ {H : Type} {enc : TypeId × Value → H} {w : World} {spare : Nat → Bool} {held : Bool} {fuel : Nat} {cs : List Value} {x : DataW H × List MemPlace},
    DataW.trod enc P w 0 spare held fuel t cs = some x → (∀ n ∈ x.1.weights P t, n ≤ reachBytes) → ∃ a, d.K w a cs ∧ ok a
theorem Opn.int {P : Program} {t : TypeId} {k : IntKind} (ht : P.underlying t = some (.int k)) : Opn P t (Kd.int k) (fun a => (Lit.int k a).wf = true) := ⟨fun h _ => by
  obtain ⟨n, rfl, rfl, hw⟩ := DataW.trod_int ht h
  exact ⟨n, rfl, hw⟩⟩
theorem Opn.bool {P : Program} {t : TypeId} (ht : P.underlying t = some .bool) : Opn P t Kd.bool (fun _ => True) := ⟨fun h _ => by
  obtain ⟨n, rfl, rfl⟩ := DataW.trod_bool ht h
  exact ⟨n, rfl, trivial⟩⟩
theorem Opn.string {P : Program} {t : TypeId} (ht : P.underlying t = some .string) : Opn P t Kd.string (fun s => s.size ≤ 140737488351232) := ⟨fun h hw => by
  obtain ⟨s, rfl, rfl, _⟩ := DataW.trod_string ht h
  have := hw s.data.toList.length (by simp [DataW.weights])
  refine ⟨s, rfl, ?_⟩
  rw [data_length] at this
  exact this⟩
theorem add_add (a : Addr) (x y : Nat) : (a.add x).add y = a.add (x + y) := by
  unfold Addr.add
  by_cases h1 : x = 0 <;> by_cases h2 : y = 0 <;> simp [h1, h2, Nat.add_assoc]
theorem weights_all {H : Type} {P : Program} {e : TypeId} {n : Nat} {d : DataW H} (h : n ∈ d.weights P e) : ∀ {l : List (DataW H)}, d ∈ l → n ∈ DataW.weightsAll P e l
  | [], hm => by simp at hm
  | x :: r, hm => by
    simp only [DataW.weightsAll, List.mem_append]
    rcases List.mem_cons.1 hm with rfl | hm
    · exact .inl h
    · exact .inr (weights_all h hm)
theorem Opn.slice {α : Type} {P : Program} {t e : TypeId} {d : Kd α} {ok : α → Prop} (ht : P.underlying t = some (.slice e)) (hc : P.cellsOf e = d.sz) (h : Opn P e d ok) :
    Opn P t (Kd.slice e d) (fun xs => xs.length * P.bytesOf e ≤ 140737488351232 ∧ xs.length ≤ maxLen ∧ ∀ x ∈ xs, ok x) := ⟨fun {H enc w spare held fuel cs x} h1 hw => by
  rcases Go.Deep.open_slice ht h1 with ⟨rfl, rfl⟩ | ⟨a, len, cap, m, n, D, Pl, rfl, hb, hl, hm, hmm, rfl, hx⟩
  · exact ⟨[], ⟨none, 0, rfl, Nat.le_refl _, Kd.C_nil _ _⟩, by simp, by simp [maxLen], by simp⟩
  · have hlm : len ≤ m := by rw [hmm]; split <;> omega
    have hwt : (len + (m - len)) * P.bytesOf e ≤ reachBytes := hw _ (by simp [DataW.weights, ht])
    have he : ∀ i, i < len → ∃ a', ok a' ∧ ∃ c, c.length = d.sz ∧ d.K w a' c ∧ ∀ k u, c[k]? = some u → w.cell? (a.add (i * d.sz + k)) = some u := by
      intro i hi
      obtain ⟨c, h2, h3⟩ := hx i (by omega)
      obtain ⟨_, h4, h5⟩ := World.cells?_some h2
      obtain ⟨a', h6, h7⟩ := h.out h3 (fun n hn => hw n (by
        simp only [DataW.weights, ht, List.mem_cons, List.mem_append]
        exact .inr (.inl (weights_all hn (List.mem_map.2 ⟨i, List.mem_range.2 hi, rfl⟩)))))
      refine ⟨a', h7, c, h4.trans hc, h6, fun k u hu => ?_⟩
      have hk : k < c.length := (List.getElem?_eq_some_iff.1 hu).1
      have := h5 k (by omega)
      rw [add_add, hc] at this
      rw [this]; exact hu
    let f : Fin len → α := fun i => Classical.choose (he i.1 i.2)
    have hf : ∀ i : Fin len, _ := fun i => Classical.choose_spec (he i.1 i.2)
    have hln : (List.ofFn f).length = len := List.length_ofFn
    refine ⟨List.ofFn f, ⟨some a, cap, by rw [hln], by omega, hln.trans hln.symm, ?_, fun _ => ⟨a, rfl, fun j p hp => ?_⟩⟩, ?_, ?_, ?_⟩
    · rw [hln]; unfold maxLen at hm; omega
    · have hj : j < len := by have := (List.getElem?_eq_some_iff.1 hp).1; omega
      have : p = f ⟨j, hj⟩ := by
        rw [List.getElem?_ofFn] at hp
        simpa [hj] using hp.symm
      subst this
      obtain ⟨_, c, h2, h3, h4⟩ := hf ⟨j, hj⟩
      exact ⟨c, h2, h3, h4⟩
    · rw [hln]; exact Nat.le_trans (Nat.mul_le_mul_right _ (Nat.le_add_right _ _)) hwt
    · rw [hln]; omega
    · intro x hx'
      obtain ⟨i, rfl⟩ := List.mem_ofFn.1 hx'
      exact (hf i).1⟩
/-- A struct's fields from cell o on. -/
structure OpnF {α : Type} (P : Program) (o : Nat) (fs : List Field) (d : Kd α) (ok : α → Prop) : Prop where mk ::
  out : ∀ {H : Type} {enc : TypeId × Value → H} {w : World} {spare : Nat → Bool} {held : Bool} {fuel : Nat} {cs : List Value} {xs : List (DataW H × List MemPlace)},
    xs.length = fs.length → (∀ (i : Nat) (f : Field), fs[i]? = some f → DataW.trod enc P w 0 spare held fuel f.type ((cs.drop f.offset).take (P.cellsOf f.type)) = xs[i]?) →
    (∀ n ∈ DataW.weightsEach P (fs.map (·.type)) (xs.map (·.1)), n ≤ reachBytes) → ∃ a, d.K w a ((cs.drop o).take d.sz) ∧ ok a
theorem OpnF.one {α : Type} {P : Program} {o : Nat} {f : Field} {d : Kd α} {ok : α → Prop} (ho : f.offset = o) (hc : P.cellsOf f.type = d.sz) (h : Opn P f.type d ok) : OpnF P o [f] d ok := ⟨fun {H enc w spare held fuel cs xs} hl h1 hw => by
  match xs, hl with
  | [x], _ =>
    have h2 := h1 0 f rfl
    rw [ho, hc] at h2
    exact h.out h2 (fun n hn => hw n (by simpa [DataW.weightsEach] using hn))⟩
theorem OpnF.cons {α β : Type} {P : Program} {o : Nat} {f : Field} {fs : List Field} {a : Kd α} {b : Kd β} {ok1 : α → Prop} {ok2 : β → Prop} (ho : f.offset = o) (hc : P.cellsOf f.type = a.sz) (h : Opn P f.type a ok1) (hr : OpnF P (o + a.sz) fs b ok2) :
    OpnF P o (f :: fs) (Kd.pair a b) (fun x => ok1 x.1 ∧ ok2 x.2) := ⟨fun {H enc w spare held fuel cs xs} hl h1 hw => by
  match xs, hl with
  | x :: ys, hl =>
    have h2 := h1 0 f rfl
    rw [ho, hc] at h2
    obtain ⟨p, hp, hp2⟩ := h.out h2 (fun n hn => hw n (by simp only [List.map_cons, DataW.weightsEach, List.mem_append]; exact .inl hn))
    obtain ⟨q, hq, hq2⟩ := hr.out (by simpa using hl) (fun i g hg => h1 (i + 1) g hg) (fun n hn => hw n (by simp only [List.map_cons, DataW.weightsEach, List.mem_append]; exact .inr hn))
    refine ⟨(p, q), ⟨_, _, ?_, hp, hq⟩, hp2, hq2⟩
    show (cs.drop o).take (a.sz + b.sz) = _
    rw [List.take_add, List.drop_drop]⟩
theorem Opn.struct {α : Type} {P : Program} {t : TypeId} {fs : Array Field} {d : Kd α} {ok : α → Prop} (ht : P.underlying t = some (.struct fs)) (hc : P.cellsOf t = d.sz) (h : OpnF P 0 fs.toList d ok) : Opn P t d ok := ⟨fun {H enc w spare held fuel cs x} h1 hw => by
  obtain ⟨xs, n, rfl, rfl, hl, hn, h2⟩ := DataW.trod_struct ht h1
  obtain ⟨a, ha, ha2⟩ := h.out (by simpa using hn) (fun i f hf => h2 i f (by simpa using hf)) (fun n hn => hw n (by simp only [DataW.weights, ht]; exact hn))
  refine ⟨a, ?_, ha2⟩
  rw [List.drop_zero, List.take_of_length_le (by omega)] at ha
  exact ha⟩
theorem Opn.array2 {α : Type} {P : Program} {t e : TypeId} {d : Kd α} {ok : α → Prop} (ht : P.underlying t = some (.array 2 e)) (hc : P.cellsOf e = d.sz) (hc2 : P.cellsOf t = d.sz + d.sz) (h : Opn P e d ok) : Opn P t (Kd.pair d d) (fun x => ok x.1 ∧ ok x.2) := ⟨fun {H enc w spare held fuel cs x} h1 hw => by
  obtain ⟨xs, n, rfl, rfl, hl, hn, h2⟩ := DataW.trod_array ht h1
  match xs, hn with
  | [p, q], _ =>
    have a0 := h2 0 (by omega)
    have a1 := h2 1 (by omega)
    rw [hc] at a0 a1
    have hw' : ∀ n ∈ DataW.weightsAll P e [p.1, q.1], n ≤ reachBytes := fun n hn => hw n (by simp only [DataW.weights, ht]; exact hn)
    obtain ⟨u, hu, hu2⟩ := h.out (by simpa using a0) (fun n hn => hw' n (by simp only [DataW.weightsAll, List.mem_append]; exact .inl hn))
    obtain ⟨v, hv, hv2⟩ := h.out (by simpa using a1) (fun n hn => hw' n (by simp only [DataW.weightsAll, List.mem_append]; exact .inr (.inl hn)))
    refine ⟨(u, v), ⟨_, _, ?_, hu, hv⟩, hu2, hv2⟩
    have e1 : cs.take (d.sz + d.sz) = cs := List.take_of_length_le (by omega)
    rw [← List.take_add]
    exact e1.symm⟩
theorem okWide_array {P : Program} {w : World} {r : Reach} {base : Nat} {t : TypeId} {v : Value} {n : Nat} {e : TypeId} (ht : P.underlying t = some (.array n e)) (h : Value.okWide P w r base t v) : ∃ cs, v = .agg cs ∧ cs.size = P.cellsOf t := by
  simp only [Value.okWide, ht] at h
  obtain ⟨cs, h1, h2, _⟩ := h
  exact ⟨cs, h1, h2⟩
theorem Opn.iso {α β : Type} {P : Program} {t : TypeId} {d : Kd α} {ok : α → Prop} (f : β → α) (hf : ∀ a, ∃ b, f b = a) (h : Opn P t d ok) : Opn P t (Kd.iso d f) (fun b => ok (f b)) := ⟨fun h1 hw => by
  obtain ⟨a, ha, hk⟩ := h.out h1 hw
  obtain ⟨b, rfl⟩ := hf a
  exact ⟨b, ha, hk⟩⟩
theorem Opn.mono {α : Type} {P : Program} {t : TypeId} {d : Kd α} {ok ok' : α → Prop} (h : Opn P t d ok) (hk : ∀ a, ok a → ok' a) : Opn P t d ok' := ⟨fun h1 hw => by
  obtain ⟨a, ha, h2⟩ := h.out h1 hw
  exact ⟨a, ha, hk a h2⟩⟩
/-- What the row tells of an argument: its weights are within the reach. -/
theorem within {H : Type} {P : Program} {ts : List TypeId} {ds : List (DataW H)} {j : Nat} {t : TypeId} {d : DataW H} (h : (DataW.weightsEach P ts ds).all (· ≤ reachBytes) = true) (ht : ts[j]? = some t) (hd : ds[j]? = some d) :
    ∀ n ∈ d.weights P t, n ≤ reachBytes := fun n hn => by
  have := List.all_eq_true.1 h n (DataW.weights_mem_each ht hd n hn)
  simpa using this
theorem top_slice {α : Type} {d : Kd α} {e : Nat} {w : World} {a : Option Addr} {len cap : Nat} {xs : List α} (h : (Kd.slice e d).K w xs (Value.slice a len cap).cells.toList) : len = xs.length ∧ xs.length ≤ cap ∧ d.C w a xs.length xs := by
  obtain ⟨A, c, h1, h2, h3⟩ := h
  simp [Value.cells] at h1
  obtain ⟨rfl, rfl, rfl⟩ := h1
  exact ⟨rfl, h2, h3⟩
theorem top_agg {c : Array Value} {l : List Value} (h : (Value.agg c).cells.toList = l) : Value.agg c = Value.agg l.toArray := by
  have : c.toList = l := h
  rw [← this]
theorem top_one {α : Type} {enc : α → Value} {h1 : ∀ x, (enc x).oneCell' = true} {w : World} {x : α} {v : Value} (hv : v.oneCell' = true) (h : (Kd.scalar enc h1).K w x v.cells.toList) : v = enc x := by
  have h2 : v.cells.toList = [enc x] := h
  cases v <;> simp_all [Value.cells, Value.oneCell']
theorem V_scalar {α : Type} {enc : α → Value} {h1 : ∀ x, (enc x).oneCell' = true} {e base : Nat} {W : World} {A : Option Addr} {c : Nat} {xs : List α} (hl : xs.length ≤ c) (h : (Kd.scalar enc h1).C W A xs.length xs) :
    Kd.V (Kd.scalar enc h1) e W base (fun _ => True) (.slice A xs.length c) xs :=
  Kd.V_mk hl (fun W' hm => ⟨h.1, h.2.1, fun hn => by
    obtain ⟨ad, e, hc⟩ := h.2.2 hn
    refine ⟨ad, e, fun j p hj => ?_⟩
    obtain ⟨c, h2, h3, h4⟩ := hc j p hj
    refine ⟨c, h2, h3, fun i u hu => ?_⟩
    have h5 := h4 i u hu
    have h6 := hm _ trivial (World.block_lt_of_cell? W _ h5)
    unfold World.cell? at h5 ⊢
    rw [h6]
    exact h5⟩)
end Go.Proofs.Ytkmbcjpedmlhfaa.Open
