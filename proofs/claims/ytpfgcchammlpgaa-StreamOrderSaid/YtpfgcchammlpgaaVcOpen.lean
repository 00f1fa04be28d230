import Derived.Test.YtpfgcchammlpgaaVcGrow
import Derived.Deep.Slices
import Derived.OpenShut
import Derived.SizedLaws
import Derived.ProofKit
set_option linter.unusedVariables false
set_option linter.unusedSimpArgs false
/- Arguments of any kind, read as data, laid open: what their cells are, and what lies where they point. -/
namespace Go.Proofs.YtpfgcchammlpgaaV
open Go Go.RowKit Go.ChangeShapes Go.WideShapes

/-- A value of type t that can be read in w has the cells of some a that meets ok. -/
structure Opn {α : Type} (P : Program) (t : TypeId) (sz : Nat) (enc : α → List Value) (ok : World → α → Prop) : Prop where mk ::
  len : ∀ a, (enc a).length = sz
  out : ∀ {H : Type} {enc' : TypeId × Value → H} {w : World} {spare : Nat → Bool} {held : Bool} {fuel : Nat} {cs : List Value} {x : DataW H × List MemPlace},
    DataW.trod enc' P w 0 spare held fuel t cs = some x → (∀ n ∈ x.1.weights P t, n ≤ reachBytes) → ∃ a, cs = enc a ∧ ok w a
theorem Opn.int {P : Program} {t : TypeId} {k : IntKind} (ht : P.underlying t = some (.int k)) : Opn P t 1 (fun a : Int => [.int k a]) (fun _ a => (Lit.int k a).wf = true) := ⟨fun _ => rfl, fun h _ => by
  obtain ⟨n, rfl, rfl, hw⟩ := DataW.trod_int ht h
  exact ⟨n, rfl, hw⟩⟩
theorem Opn.bool {P : Program} {t : TypeId} (ht : P.underlying t = some .bool) : Opn P t 1 (fun a : Bool => [.bool a]) (fun _ _ => True) := ⟨fun _ => rfl, fun h _ => by
  obtain ⟨n, rfl, rfl⟩ := DataW.trod_bool ht h
  exact ⟨n, rfl, trivial⟩⟩
theorem str_len (s : ByteArray) : s.data.toList.length = s.size := Array.length_toList
theorem Opn.string {P : Program} {t : TypeId} (ht : P.underlying t = some .string) : Opn P t 1 (fun s : ByteArray => [.string s]) (fun _ s => s.size ≤ 140737488351232) := ⟨fun _ => rfl, fun h hw => by
  obtain ⟨s, rfl, rfl, _⟩ := DataW.trod_string ht h
  have := hw s.data.toList.length (by simp [DataW.weights])
  refine ⟨s, rfl, ?_⟩
  rw [str_len] at this
  exact this⟩
theorem addr_add (a : Addr) (x y : Nat) : (a.add x).add y = a.add (x + y) := by
  unfold Addr.add
  by_cases h1 : x = 0 <;> by_cases h2 : y = 0 <;> simp [h1, h2, Nat.add_assoc]
theorem weights_all {H : Type} {P : Program} {e : TypeId} {n : Nat} {d : DataW H} (h : n ∈ d.weights P e) : ∀ {l : List (DataW H)}, d ∈ l → n ∈ DataW.weightsAll P e l
  | [], hm => by simp at hm
  | x :: r, hm => by
    simp only [DataW.weightsAll, List.mem_append]
    rcases List.mem_cons.1 hm with rfl | hm
    · exact .inl h
    · exact .inr (weights_all h hm)
/-- Where a slice lies, its room, and what it holds. -/
abbrev SlD (α : Type) := Option Addr × Nat × List α
abbrev SlD.v {α : Type} (x : SlD α) : Value := .slice x.1 x.2.2.length x.2.1
theorem rdI_of {w : World} {a : Addr} {cs : List Value} (h : ∀ j v, cs[j]? = some v → w.cell? (a.add j) = some v) (h0 : 0 < cs.length) : ∃ b o, a = ⟨b, o, none⟩ ∧ RdI (Imm.of w) b o cs := by
  obtain ⟨b, o, sp⟩ := a
  have h1 := h 0 cs[0] (by simp [h0])
  have hsp : sp = none := by
    unfold World.cell? at h1
    simp only [Addr.add, if_pos] at h1
    split at h1
    · cases sp with
      | none => rfl
      | some s => simp at h1
    · cases h1
  subst hsp
  refine ⟨b, o, rfl, ⟨fun j v hj => ?_⟩⟩
  have h2 := h j v hj
  rw [Addr.add_mk] at h2
  unfold World.cell? at h2
  dsimp only at h2
  split at h2
  · rename_i c e fr hb
    exact ⟨c, e, fr, hb, by simpa using h2⟩
  · cases h2
theorem Opn.slice {α : Type} {P : Program} {t e : TypeId} {sz : Nat} {enc : α → List Value} {ok : World → α → Prop} (ht : P.underlying t = some (.slice e)) (hc : P.cellsOf e = sz) (h0 : 0 < sz) (h : Opn P e sz enc ok) :
    Opn P t 1 (fun x : SlD α => [SlD.v x]) (fun w x => SlI (Imm.of w) (SlD.v x) sz x.2.2.length (x.2.2.flatMap enc) ∧ x.2.2.length * P.bytesOf e ≤ 140737488351232 ∧ x.2.2.length ≤ maxLen ∧ ∀ y ∈ x.2.2, ok w y) := ⟨fun _ => rfl, fun {H enc' w spare held fuel cs x} h1 hw => by
  rcases Go.Deep.open_slice ht h1 with ⟨rfl, rfl⟩ | ⟨a, len, cap, m, n, D, Pl, rfl, hb, hl, hm, hmm, rfl, hx⟩
  · exact ⟨(none, 0, []), rfl, ⟨none, 0, rfl, by simp, Nat.le_refl _, fun _ => ⟨rfl, rfl⟩, fun a ha => by cases ha⟩, by simp, by simp [maxLen], by simp⟩
  · have hlm : len ≤ m := by rw [hmm]; split <;> omega
    have hwt : (len + (m - len)) * P.bytesOf e ≤ reachBytes := hw _ (by simp [DataW.weights, ht])
    have he : ∀ i, i < len → ∃ a', ok w a' ∧ ∀ k u, (enc a')[k]? = some u → w.cell? (a.add (i * sz + k)) = some u := by
      intro i hi
      obtain ⟨c, h2, h3⟩ := hx i (by omega)
      obtain ⟨_, h4, h5⟩ := World.cells?_some h2
      obtain ⟨a', rfl, h7⟩ := h.out h3 (fun n hn => hw n (by
        simp only [DataW.weights, ht, List.mem_cons, List.mem_append]
        exact .inr (.inl (weights_all hn (List.mem_map.2 ⟨i, List.mem_range.2 hi, rfl⟩)))))
      refine ⟨a', h7, fun k u hu => ?_⟩
      have hk : k < (enc a').length := (List.getElem?_eq_some_iff.1 hu).1
      have := h5 k (by rw [← h4]; exact hk)
      rw [addr_add, hc] at this
      rw [this]; exact hu
    let f : Fin len → α := fun i => Classical.choose (he i.1 i.2)
    have hf : ∀ i : Fin len, _ := fun i => Classical.choose_spec (he i.1 i.2)
    have hln : (List.ofFn f).length = len := List.length_ofFn
    have hrow : ∀ j v, ((List.ofFn f).flatMap enc)[j]? = some v → w.cell? (a.add j) = some v := by
      intro j v hj
      have hjl : j < len * sz := by
        have := (List.getElem?_eq_some_iff.1 hj).1
        rwa [flat_len h.len, hln] at this
      have hi : j / sz < len := (Nat.div_lt_iff_lt_mul h0).2 hjl
      have hx' : (List.ofFn f)[j / sz]? = some (f ⟨j / sz, hi⟩) := by rw [List.getElem?_ofFn]; simp [hi]
      have e1 := flat_split (enc := enc) hx'
      have hpre : ((List.ofFn f).take (j / sz) |>.flatMap enc).length = j / sz * sz := by rw [flat_len h.len, List.length_take, hln]; congr 1; omega
      have hdm : j / sz * sz + j % sz = j := by rw [Nat.mul_comm]; exact Nat.div_add_mod j sz
      have hmod : j % sz < sz := Nat.mod_lt _ h0
      have hu : (enc (f ⟨j / sz, hi⟩))[j % sz]? = some v := by
        rw [e1, List.append_assoc, List.getElem?_append_right (by omega), List.getElem?_append_left (by rw [hpre, h.len]; omega), hpre] at hj
        rwa [show j - j / sz * sz = j % sz by omega] at hj
      have := (hf ⟨j / sz, hi⟩).2 _ _ hu
      rwa [hdm] at this
    refine ⟨(some a, cap, List.ofFn f), by show _ = [Value.slice (some a) (List.ofFn f).length cap]; rw [hln], ⟨some a, cap, rfl, by rw [flat_len h.len], by show (List.ofFn f).length ≤ cap; rw [hln]; exact hl, (fun e => by cases e), fun a' ha' hn => ?_⟩, ?_, ?_, ?_⟩
    · simp only [Option.some.injEq] at ha'
      subst ha'
      refine rdI_of hrow ?_
      rw [flat_len h.len]
      exact Nat.mul_pos hn h0
    · show (List.ofFn f).length * _ ≤ _
      rw [hln]; exact Nat.le_trans (Nat.mul_le_mul_right _ (Nat.le_add_right _ _)) hwt
    · show (List.ofFn f).length ≤ _
      rw [hln]; omega
    · intro x hx'
      obtain ⟨i, rfl⟩ := List.mem_ofFn.1 hx'
      exact (hf i).1⟩
/-- A struct's fields from cell o on. -/
structure OpnF {α : Type} (P : Program) (o : Nat) (fs : List Field) (sz : Nat) (enc : α → List Value) (ok : World → α → Prop) : Prop where mk ::
  len : ∀ a, (enc a).length = sz
  out : ∀ {H : Type} {enc' : TypeId × Value → H} {w : World} {spare : Nat → Bool} {held : Bool} {fuel : Nat} {cs : List Value} {xs : List (DataW H × List MemPlace)},
    xs.length = fs.length → (∀ (i : Nat) (f : Field), fs[i]? = some f → DataW.trod enc' P w 0 spare held fuel f.type ((cs.drop f.offset).take (P.cellsOf f.type)) = xs[i]?) →
    (∀ n ∈ DataW.weightsEach P (fs.map (·.type)) (xs.map (·.1)), n ≤ reachBytes) → ∃ a, (cs.drop o).take sz = enc a ∧ ok w a
theorem OpnF.one {α : Type} {P : Program} {o sz : Nat} {f : Field} {enc : α → List Value} {ok : World → α → Prop} (ho : f.offset = o) (hc : P.cellsOf f.type = sz) (h : Opn P f.type sz enc ok) : OpnF P o [f] sz enc ok := ⟨h.len, fun {H enc' w spare held fuel cs xs} hl h1 hw => by
  match xs, hl with
  | [x], _ =>
    have h2 := h1 0 f rfl
    rw [ho, hc] at h2
    exact h.out h2 (fun n hn => hw n (by simpa [DataW.weightsEach] using hn))⟩
theorem OpnF.cons {α β : Type} {P : Program} {o sz sz2 sz3 : Nat} {f : Field} {fs : List Field} {enc : α → List Value} {enc2 : β → List Value} {ok1 : World → α → Prop} {ok2 : World → β → Prop} (ho : f.offset = o) (hc : P.cellsOf f.type = sz) (hz : sz + sz2 = sz3) (h : Opn P f.type sz enc ok1) (hr : OpnF P (o + sz) fs sz2 enc2 ok2) :
    OpnF P o (f :: fs) sz3 (fun x : α × β => enc x.1 ++ enc2 x.2) (fun w x => ok1 w x.1 ∧ ok2 w x.2) := ⟨fun a => by rw [List.length_append, h.len, hr.len, hz], fun {H enc' w spare held fuel cs xs} hl h1 hw => by
  subst hz
  match xs, hl with
  | x :: ys, hl =>
    have h2 := h1 0 f rfl
    rw [ho, hc] at h2
    obtain ⟨p, hp, hp2⟩ := h.out h2 (fun n hn => hw n (by simp only [List.map_cons, DataW.weightsEach, List.mem_append]; exact .inl hn))
    obtain ⟨q, hq, hq2⟩ := hr.out (by simpa using hl) (fun i g hg => h1 (i + 1) g hg) (fun n hn => hw n (by simp only [List.map_cons, DataW.weightsEach, List.mem_append]; exact .inr hn))
    refine ⟨(p, q), ?_, hp2, hq2⟩
    show (cs.drop o).take (sz + sz2) = _
    rw [List.take_add, List.drop_drop, hp, hq]⟩
theorem Opn.struct {α : Type} {P : Program} {t : TypeId} {fs : Array Field} {sz : Nat} {enc : α → List Value} {ok : World → α → Prop} (ht : P.underlying t = some (.struct fs)) (hc : P.cellsOf t = sz) (h : OpnF P 0 fs.toList sz enc ok) : Opn P t sz enc ok := ⟨h.len, fun {H enc' w spare held fuel cs x} h1 hw => by
  obtain ⟨xs, n, rfl, rfl, hl, hn, h2⟩ := DataW.trod_struct ht h1
  obtain ⟨a, ha, ha2⟩ := h.out (by simpa using hn) (fun i f hf => h2 i f (by simpa using hf)) (fun n hn => hw n (by simp only [DataW.weights, ht]; exact hn))
  refine ⟨a, ?_, ha2⟩
  rw [List.drop_zero, List.take_of_length_le (by omega)] at ha
  exact ha⟩
theorem Opn.iso {α β : Type} {P : Program} {t : TypeId} {sz : Nat} {enc : α → List Value} {enc2 : β → List Value} {ok : World → α → Prop} (f : α → β) (he : ∀ a, enc2 (f a) = enc a) (hs : ∀ b, ∃ a, f a = b) {ok2 : World → β → Prop} (hk : ∀ w a, ok w a → ok2 w (f a)) (h : Opn P t sz enc ok) : Opn P t sz enc2 ok2 := ⟨fun b => by obtain ⟨a, rfl⟩ := hs b; rw [he]; exact h.len a, fun h1 hw => by
  obtain ⟨a, rfl, ha⟩ := h.out h1 hw
  exact ⟨f a, (he a).symm, hk _ _ ha⟩⟩
/-- What the row tells of an argument: its weights are within the reach. -/
theorem within {H : Type} {P : Program} {ts : List TypeId} {ds : List (DataW H)} {j : Nat} {t : TypeId} {d : DataW H} (h : (DataW.weightsEach P ts ds).all (· ≤ reachBytes) = true) (ht : ts[j]? = some t) (hd : ds[j]? = some d) :
    ∀ n ∈ d.weights P t, n ≤ reachBytes := fun n hn => by
  have := List.all_eq_true.1 h n (DataW.weights_mem_each ht hd n hn)
  simpa using this
theorem top_agg {v : Value} {c : Array Value} {l : List Value} (hv : v = .agg c) (h : v.cells.toList = l) : v = .agg l.toArray := by
  subst hv
  have : c.toList = l := h
  rw [← this]
theorem top_one {v u : Value} (hv : ∀ c, v ≠ .agg c) (h : v.cells.toList = [u]) : v = u := by
  cases v <;> simp_all [Value.cells]
end Go.Proofs.YtpfgcchammlpgaaV
