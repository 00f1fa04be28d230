import Derived.Test.YtpfgcchammlpgaaVcMap
set_option linter.unusedVariables false
set_option linter.unusedSimpArgs false
/- Lists, as the walks ask for them. -/
namespace Go.Proofs.YtpfgcchammlpgaaV
open Go Go.RowKit Go.BigFrame
section
variable {α : Type} [Inhabited α]
def atD (l : List α) (k : Nat) : α := l.getD k default
theorem atD_get {l : List α} {k : Nat} (h : k < l.length) : l[k]? = some (atD l k) := by unfold atD; rw [List.getD_eq_getElem?_getD, List.getElem?_eq_getElem h]; rfl
theorem atD_of {l : List α} {k : Nat} {x : α} (h : l[k]? = some x) : atD l k = x := by unfold atD; rw [List.getD_eq_getElem?_getD, h]; rfl
theorem atD_mem {l : List α} {k : Nat} (h : k < l.length) : atD l k ∈ l := List.mem_of_getElem? (atD_get h)
theorem mem_atD {l : List α} {x : α} (h : x ∈ l) : ∃ k, k < l.length ∧ atD l k = x := by
  obtain ⟨k, hk, rfl⟩ := List.getElem_of_mem h
  exact ⟨k, hk, atD_of (List.getElem?_eq_getElem hk)⟩
theorem drop_atD {l : List α} {k : Nat} (h : k < l.length) : l.drop k = atD l k :: l.drop (k + 1) := by
  rw [atD_of (List.getElem?_eq_getElem h)]; exact (List.getElem_cons_drop (h := h)).symm
theorem take_atD {l : List α} {k : Nat} (h : k < l.length) : l.take (k + 1) = l.take k ++ [atD l k] := by rw [List.take_add_one, atD_get h]; rfl
theorem any_take {l : List α} {p : α → Bool} {k : Nat} (h : k < l.length) : (l.take (k + 1)).any p = ((l.take k).any p || p (atD l k)) := by rw [take_atD h, List.any_append]; simp
theorem all_take {l : List α} {p : α → Bool} {k : Nat} (h : k < l.length) : (l.take (k + 1)).all p = ((l.take k).all p && p (atD l k)) := by rw [take_atD h, List.all_append]; simp
/-- Where the first one is that meets p; -1: there is none. -/
def idxF (p : α → Bool) (l : List α) : Int := match l.findIdx? p with
  | some k => k
  | none => -1
theorem idxF_yes {p : α → Bool} {l : List α} {k : Nat} (hk : k < l.length) (h : p (atD l k) = true) (hall : ∀ j, j < k → p (atD l j) = false) : idxF p l = k := by
  have : l.findIdx? p = some k := by
    rw [List.findIdx?_eq_some_iff_getElem]
    refine ⟨hk, ?_, fun j hj => ?_⟩
    · rw [← atD_of (List.getElem?_eq_getElem hk)]; exact h
    · have hjl : j < l.length := by omega
      rw [← atD_of (List.getElem?_eq_getElem hjl), hall j hj]; simp
  unfold idxF
  rw [this]
theorem idxF_no {p : α → Bool} {l : List α} (hall : ∀ j, j < l.length → p (atD l j) = false) : idxF p l = -1 := by
  have : l.findIdx? p = none := by
    rw [List.findIdx?_eq_none_iff]
    intro x hx
    obtain ⟨j, hj, rfl⟩ := mem_atD hx
    exact hall j hj
  unfold idxF
  rw [this]
theorem idxF_cases (p : α → Bool) (l : List α) : (idxF p l = -1 ∧ ∀ x ∈ l, p x = false) ∨ ∃ k, k < l.length ∧ idxF p l = (k : Int) ∧ p (atD l k) = true ∧ ∀ j, j < k → p (atD l j) = false := by
  unfold idxF
  cases h : l.findIdx? p with
  | none => left; rw [List.findIdx?_eq_none_iff] at h; exact ⟨rfl, fun x hx => by simpa using h x hx⟩
  | some k =>
    rw [List.findIdx?_eq_some_iff_getElem] at h
    obtain ⟨h1, h2, h3⟩ := h
    refine .inr ⟨k, h1, rfl, ?_, fun j hj => ?_⟩
    · rw [atD_of (List.getElem?_eq_getElem h1)]; exact h2
    · have := h3 j hj
      rw [atD_of (List.getElem?_eq_getElem (by omega))]; simpa using this
theorem idxF_any (p : α → Bool) (l : List α) : decide (0 ≤ idxF p l) = l.any p := by
  rcases idxF_cases p l with ⟨h1, h2⟩ | ⟨k, hk, h1, h2, _⟩
  · rw [h1]
    have : l.any p = false := by rw [List.any_eq_false]; intro x hx; simpa using h2 x hx
    rw [this]; rfl
  · rw [h1]
    have : l.any p = true := List.any_eq_true.2 ⟨_, atD_mem hk, h2⟩
    rw [this]; simp
end
/-- Bytes. -/
def byC (b : UInt8) : List Value := [byteV b]
theorem byC_len (b : UInt8) : (byC b).length = 1 := rfl
theorem by_flat (l : List UInt8) : l.flatMap byC = l.map byteV := by induction l with
  | nil => rfl
  | cons b r ih => rw [List.flatMap_cons, ih]; rfl
theorem by_one (l : List UInt8) : ∀ u ∈ l.map byteV, oneC u = true := fun u hu => by obtain ⟨b, _, rfl⟩ := List.mem_map.1 hu; rfl
def inC (n : Int) : List Value := [.int .i64 n]
theorem inC_len (n : Int) : (inC n).length = 1 := rfl
theorem in_one (l : List Int) : ∀ u ∈ l.flatMap inC, oneC u = true := fun u hu => by
  obtain ⟨b, _, hb⟩ := List.mem_flatMap.1 hu
  obtain rfl : u = .int .i64 b := by simpa [inC] using hb
  rfl
theorem ba_loop (b : ByteArray) : ∀ (m i : Nat) (r : List UInt8), b.size - i = m → ByteArray.toList.loop b i r = r.reverse ++ b.data.toList.drop i
  | 0, i, r, h => by
    unfold ByteArray.toList.loop
    rw [if_neg (by omega), List.drop_of_length_le (by rw [Array.length_toList]; exact Nat.le_of_sub_eq_zero h)]
    simp
  | m + 1, i, r, h => by
    have hi : i < b.data.toList.length := by rw [Array.length_toList]; show i < b.size; omega
    unfold ByteArray.toList.loop
    rw [if_pos (by omega), ba_loop b m (i + 1) _ (by omega)]
    rw [show b.data.toList.drop i = b.data.toList[i] :: b.data.toList.drop (i + 1) from (List.getElem_cons_drop (h := hi)).symm]
    have : b.get! i = b.data.toList[i] := by
      show b.data[i]! = _
      rw [getElem!_pos b.data i (by simpa using hi)]
      simp
    rw [this]
    simp
theorem ba_toList (b : ByteArray) : b.toList = b.data.toList := by
  unfold ByteArray.toList
  rw [ba_loop b _ 0 [] rfl]
  simp
theorem ba_beq (a b : ByteArray) : (a.toList == b.toList) = decide (a = b) := by
  rw [ba_toList, ba_toList]
  by_cases h : a = b
  · subst h; simp
  · have : a.data.toList ≠ b.data.toList := fun e => h (by cases a; cases b; simp only [Array.toList_inj] at e; rw [e])
    rw [decide_eq_false h]
    simpa using this
theorem ba_at (s : ByteArray) {j : Nat} (h : j < s.size) : (s[j]'h) = atD s.data.toList j := by
  have hl : j < s.data.toList.length := by rw [Array.length_toList]; exact h
  rw [atD_of (List.getElem?_eq_getElem hl)]
  rfl
theorem ba_len (s : ByteArray) : s.data.toList.length = s.size := Array.length_toList
/-- What reads so, where nothing is known of what lies there but that it is never changed. -/
theorem SlI.toSl {I : Imm} {L : List Asn} {v : Value} {sz n : Nat} {cs : List Value} (h : SlI I v sz n cs) : SlR I L v sz n cs := h.toR
theorem SlR.ups {I : Imm} {L : List Asn} {v : Value} {sz n : Nat} {cs : List Value} (h : SlR I L v sz n cs) : ∀ A : List Asn, SlR I (A ++ L) v sz n cs
  | [] => h
  | _ :: A => (h.ups A).up
/-- A slice's first so many. -/
theorem SlR.take {I : Imm} {L : List Asn} {A : Option Addr} {cap sz n : Nat} {cs : List Value} (h : SlR I L (.slice A n cap) sz n cs) {k : Nat} (hk : k ≤ n) : SlR I L (.slice A k cap) sz k (cs.take (k * sz)) := by
  obtain ⟨A', cap', e, h1, h2, h3, h4⟩ := h.out
  injection e with e1 e2 e3
  subst e1; subst e3
  have hle : k * sz ≤ n * sz := Nat.mul_le_mul_right _ hk
  refine ⟨A, cap, rfl, by rw [List.length_take, h1]; omega, by omega, fun e => ⟨by have := h3 e; omega, (h3 e).2⟩, fun a ha h0 => ?_⟩
  obtain ⟨b, o, hbo, hr⟩ := h4 a ha (by omega)
  refine ⟨b, o, hbo, ⟨fun w H j v hj => hr.out w H j v ?_⟩⟩
  rw [List.getElem?_take] at hj
  split at hj
  · exact hj
  · cases hj
theorem SlR.drop {I : Imm} {L : List Asn} {b o : Nat} {cap sz n : Nat} {cs : List Value} (h : SlR I L (.slice (some ⟨b, o, none⟩) n cap) sz n cs) {k p : Nat} (hk : k ≤ n) (hp : k < cap → p = o + k * sz) : SlR I L (.slice (some ⟨b, p, none⟩) (n - k) (cap - k)) sz (n - k) (cs.drop (k * sz)) := by
  obtain ⟨A', cap', e, h1, h2, h3, h4⟩ := h.out
  injection e with e1 e2 e3
  subst e1; subst e3
  refine ⟨_, cap - k, rfl, by rw [List.length_drop, h1, Nat.sub_mul], by omega, (fun e => by cases e), fun a ha h0 => ?_⟩
  obtain ⟨b', o', hbo, hr⟩ := h4 _ rfl (by omega)
  injection hbo with hb1 hb2
  subst hb1; subst hb2
  injection ha with ha
  subst ha
  refine ⟨b, p, rfl, ⟨fun w H j v hj => ?_⟩⟩
  rw [hp (by omega), Nat.add_assoc]
  exact hr.out w H (k * sz + j) v (by rwa [List.getElem?_drop] at hj)
section
variable {P : Program} {T : Tab} {n : Fi} {ops : Array Oper} {K : Kont} {G : Gds} {env : Env} {w : World} {rest : List Oper} {dst : Nat} {ty : Nat} {pos : String} {after : Array Edge} {gd : Option (Nat × Bool)} {t : Nat} {x y : Operand} {S : Phase} {i : Nat} {p : Plan}
theorem VcD.index {s : ByteArray} {kk : IntKind} {j : Int} {ti : TI} (hT : TabOk P T) (hi : nthO ops.toList i = some ⟨some dst, .index t x y, ty, pos, after, gd⟩) (hx : opv env x = some (.string s)) (hy : opv env y = some (.int kk j)) (hg : gres ops G ⟨some dst, .index t x y, ty, pos, after, gd⟩ = some true) (hn : inN n (some dst) = true) (ho : outG G (some dst) = true)
    (ht : T.get t = some ti) (hd : ti.desc = .string) (h0 : 0 ≤ j) (h1 : j < s.size) (k : VcD P n ops S K p G ((dst, (.int .u8 (s[j.toNat]'(by omega)).toNat)) :: env) w) : VcD P n ops S K (.pure i p) G env w :=
  VcD.valP hi hg hn ho (fun w => OpV.index hT rfl hx hy ht hd h0 h1) (fun e => by cases e) k
end
end Go.Proofs.YtpfgcchammlpgaaV
