import Derived.Test.YtpfgcchammlpgaaVcSeq
set_option linter.unusedVariables false
set_option linter.unusedSimpArgs false
/- Rows of structs that are read and written in their places. -/
namespace Go.Proofs.YtpfgcchammlpgaaV
open Go Go.RowKit Go.BigFrame
section
variable {α : Type} {enc : α → List Value} {sz : Nat}
theorem row_at (he : ∀ x, (enc x).length = sz) {pre rest : List Value} {l : List α} {k : Nat} {z : α} (hk : l[k]? = some z) {f : Nat} {v : Value} (hv : (enc z)[f]? = some v) : (pre ++ l.flatMap enc ++ rest)[pre.length + k * sz + f]? = some v := by
  have hf : f < sz := by rw [← he z]; exact (List.getElem?_eq_some_iff.1 hv).1
  have h1 : ((l.take k).flatMap enc).length = k * sz := by rw [flat_len he, List.length_take, Nat.min_eq_left (Nat.le_of_lt (List.getElem?_eq_some_iff.1 hk).1)]
  rw [flat_split hk]
  have e : pre ++ ((l.take k).flatMap enc ++ enc z ++ (l.drop (k + 1)).flatMap enc) ++ rest = (pre ++ (l.take k).flatMap enc) ++ (enc z ++ ((l.drop (k + 1)).flatMap enc ++ rest)) := by simp
  rw [e, List.getElem?_append_right (by rw [List.length_append, h1]; omega), List.getElem?_append_left (by rw [List.length_append, h1, he]; omega)]
  rw [show pre.length + k * sz + f - (pre ++ (l.take k).flatMap enc).length = f by rw [List.length_append, h1]; omega]
  exact hv
theorem over_field (he : ∀ x, (enc x).length = sz) {pre rest : List Value} {l : List α} {k : Nat} {z y : α} (hk : l[k]? = some z) {f : Nat} {vs : List Value} (hy : enc y = (enc z).take f ++ vs ++ (enc z).drop (f + vs.length)) (hf : f + vs.length ≤ sz) :
    over (pre ++ l.flatMap enc ++ rest) (pre.length + k * sz + f) vs = pre ++ (l.set k y).flatMap enc ++ rest := by
  have hlt := (List.getElem?_eq_some_iff.1 hk).1
  have h1 : ((l.take k).flatMap enc).length = k * sz := by rw [flat_len he, List.length_take, Nat.min_eq_left (Nat.le_of_lt hlt)]
  have e1 : (l.set k y)[k]? = some y := by simp [hlt]
  have e2 : (l.set k y).take k = l.take k := by rw [List.take_set_of_le (Nat.le_refl k)]
  have e3 : (l.set k y).drop (k + 1) = l.drop (k + 1) := by rw [List.drop_set_of_lt (by omega)]
  rw [flat_split hk, flat_split e1, e2, e3, hy]
  have hz : (enc z).take f ++ (((enc z).drop f).take vs.length) ++ (enc z).drop (f + vs.length) = enc z := by
    rw [List.append_assoc, ← List.drop_drop, List.take_append_drop, List.take_append_drop]
  have e4 : pre ++ ((l.take k).flatMap enc ++ enc z ++ (l.drop (k + 1)).flatMap enc) ++ rest = (pre ++ (l.take k).flatMap enc ++ (enc z).take f) ++ (((enc z).drop f).take vs.length) ++ ((enc z).drop (f + vs.length) ++ (l.drop (k + 1)).flatMap enc ++ rest) := by
    conv => lhs; rw [← hz]
    simp only [List.append_assoc]
  rw [e4, over_mid]
  · simp only [List.append_assoc]
  · simp only [List.length_append, h1, List.length_take, he]; omega
  · rw [List.length_take, List.length_drop, he]; omega
end
theorem set_at {α : Type} {l : List α} {k : Nat} {y : α} (h : k < l.length) : (l.set k y)[k]? = some y := List.getElem?_set_self h
theorem set_at2 {α : Type} {l : List α} {k : Nat} {x y : α} (h : k < l.length) : ((l.set k x).set k y)[k]? = some y := List.getElem?_set_self (by simpa using h)
section
variable {P : Program} {T : Tab} {n : Fi} {ops : Array Oper} {K : Kont} {G : Gds} {env : Env} {w : World} {rest : List Oper} {dst : Nat} {ty : Nat} {pos : String} {after : Array Edge} {gd : Option (Nat × Bool)} {t : Nat} {x y : Operand}
variable {α : Type} {enc : α → List Value} {sz : Nat} {I : Imm} {L : List Asn} {b e k f a : Nat} {pre post : List Value} {l : List α} {z : α}
theorem RdW.mono {J : Imm} {o : Nat} {cs : List Value} (h : RdW I L b o cs) (hl : Imm.Le I J) : RdW J L b o cs := ⟨fun w H => h.out w (H.less hl)⟩
theorem SlR.mono {J : Imm} {v : Value} {m : Nat} {cs : List Value} (h : SlR I L v sz m cs) (hl : Imm.Le I J) : SlR J L v sz m cs := by
  obtain ⟨A, cap, h1, h2, h3, h4, h5⟩ := h.out
  exact ⟨A, cap, h1, h2, h3, h4, fun a ha h0 => by obtain ⟨b, o, e, h6⟩ := h5 a ha h0; exact ⟨b, o, e, h6.mono hl⟩⟩
/-- What a row has at a place. -/
theorem Holds.rowCell (H : Holds I w (blk b e (pre ++ l.flatMap enc ++ post) :: L)) (he : ∀ x, (enc x).length = sz) (hk : l[k]? = some z) {v : Value} (hv : (enc z)[f]? = some v) : w.cell? ⟨b, pre.length + k * sz + f, none⟩ = some v := H.cell (row_at he hk hv)
theorem Holds.rowCell0 (H : Holds I w (blk b e (pre ++ l.flatMap enc ++ post) :: L)) (he : ∀ x, (enc x).length = sz) (hk : l[k]? = some z) {v : Value} (hv : (enc z)[0]? = some v) : w.cell? ⟨b, pre.length + k * sz, none⟩ = some v := H.rowCell he hk (f := 0) hv
theorem Holds.rowRd (H : Holds I w (blk b e (pre ++ l.flatMap enc ++ post) :: L)) (he : ∀ x, (enc x).length = sz) (hk : l[k]? = some z) {vs : List Value} {m : Nat} (hv : sub (enc z) f m = some vs) : Rd w b (pre.length + k * sz + f) vs := fun j v hj => by
  rw [Nat.add_assoc]
  refine H.rowCell he hk ?_
  rw [sub_eq hv, List.getElem?_take] at hj
  split at hj
  · rwa [List.getElem?_drop] at hj
  · cases hj
theorem Holds.rowRd0 (H : Holds I w (blk b e (pre ++ l.flatMap enc ++ post) :: L)) (he : ∀ x, (enc x).length = sz) (hk : l[k]? = some z) {vs : List Value} {m : Nat} (hv : sub (enc z) 0 m = some vs) : Rd w b (pre.length + k * sz) vs := H.rowRd (f := 0) he hk hv
theorem VcL.loadRowN {m : Nat} {vs : List Value} (hT : TabOk P T) (hx : opv env x = some (.pointer (some ⟨b, a, none⟩))) (hg : gres ops G ⟨some dst, .load t x, ty, pos, after, gd⟩ = some true) (hn : inN n (some dst) = true) (ho : outG G (some dst) = true) (ht : isAggT T t = some true) (hm : sizeT T t = some m)
    (H : Holds I w (blk b e (pre ++ l.flatMap enc ++ post) :: L)) (he : ∀ x, (enc x).length = sz) (hk : l[k]? = some z) (ha : a = pre.length + k * sz + f) (hv : sub (enc z) f m = some vs) (hl : vs.length = m)
    (kk : VcL P n ops K rest G ((dst, (.agg vs.toArray)) :: env) w) : VcL P n ops K (⟨some dst, .load t x, ty, pos, after, gd⟩ :: rest) G env w := by
  subst ha
  exact VcL.loadR hT hx hg hn ho ht hm (H.rowRd he hk hv) hl kk
theorem VcL.loadRowN0 {m : Nat} {vs : List Value} (hT : TabOk P T) (hx : opv env x = some (.pointer (some ⟨b, a, none⟩))) (hg : gres ops G ⟨some dst, .load t x, ty, pos, after, gd⟩ = some true) (hn : inN n (some dst) = true) (ho : outG G (some dst) = true) (ht : isAggT T t = some true) (hm : sizeT T t = some m)
    (H : Holds I w (blk b e (pre ++ l.flatMap enc ++ post) :: L)) (he : ∀ x, (enc x).length = sz) (hk : l[k]? = some z) (ha : a = pre.length + k * sz) (hv : sub (enc z) 0 m = some vs) (hl : vs.length = m)
    (kk : VcL P n ops K rest G ((dst, (.agg vs.toArray)) :: env) w) : VcL P n ops K (⟨some dst, .load t x, ty, pos, after, gd⟩ :: rest) G env w :=
  VcL.loadRowN (f := 0) hT hx hg hn ho ht hm H he hk ha hv hl kk
variable {S : Phase} {i : Nat} {p : Plan}
theorem VcD.loadRowN {m : Nat} {vs : List Value} (hT : TabOk P T) (hi : nthO ops.toList i = some ⟨some dst, .load t x, ty, pos, after, gd⟩) (hx : opv env x = some (.pointer (some ⟨b, a, none⟩))) (hg : gres ops G ⟨some dst, .load t x, ty, pos, after, gd⟩ = some true) (hn : inN n (some dst) = true) (ho : outG G (some dst) = true) (ht : isAggT T t = some true) (hm : sizeT T t = some m)
    (H : ∀ w, S w → Holds I w (blk b e (pre ++ l.flatMap enc ++ post) :: L)) (he : ∀ x, (enc x).length = sz) (hk : l[k]? = some z) (ha : a = pre.length + k * sz + f) (hv : sub (enc z) f m = some vs) (hl : vs.length = m)
    (kk : VcD P n ops S K p G ((dst, (.agg vs.toArray)) :: env) w) : VcD P n ops S K (.take i p) G env w := by
  subst ha
  exact VcD.loadR hT hi hx hg hn ho ht hm (fun w hw => (H w hw).rowRd he hk hv) hl kk
theorem VcD.loadRowN0 {m : Nat} {vs : List Value} (hT : TabOk P T) (hi : nthO ops.toList i = some ⟨some dst, .load t x, ty, pos, after, gd⟩) (hx : opv env x = some (.pointer (some ⟨b, a, none⟩))) (hg : gres ops G ⟨some dst, .load t x, ty, pos, after, gd⟩ = some true) (hn : inN n (some dst) = true) (ho : outG G (some dst) = true) (ht : isAggT T t = some true) (hm : sizeT T t = some m)
    (H : ∀ w, S w → Holds I w (blk b e (pre ++ l.flatMap enc ++ post) :: L)) (he : ∀ x, (enc x).length = sz) (hk : l[k]? = some z) (ha : a = pre.length + k * sz) (hv : sub (enc z) 0 m = some vs) (hl : vs.length = m)
    (kk : VcD P n ops S K p G ((dst, (.agg vs.toArray)) :: env) w) : VcD P n ops S K (.take i p) G env w :=
  VcD.loadRowN (f := 0) hT hi hx hg hn ho ht hm H he hk ha hv hl kk
/-- A load that is the only operation to come. -/
theorem VcD.load1O {ad : Addr} {v : Value} (hT : TabOk P T) (hi : nthO ops.toList i = some ⟨some dst, .load t x, ty, pos, after, gd⟩) (hx : opv env x = some (.pointer (some ad))) (hg : gres ops G ⟨some dst, .load t x, ty, pos, after, gd⟩ = some true) (hn : inN n (some dst) = true) (ho : outG G (some dst) = true) (ht : isAggT T t = some false)
    (hc : w.cell? ad = some v) (hS : (S.next i) w) (kk : VcD P n ops (S.next i) K p G ((dst, v) :: env) w) : VcD P n ops S K (.only i p) G env w :=
  VcD.only (EfO.val hi hg hn ho (OpV.load rfl hx (LoadV.one hT ht hc)) hS kk)
theorem Holds.rdWhole {cs : List Value} (H : Holds I w (blk b e cs :: L)) : Rd w b 0 cs := H.rdAt (pre := []) (post := []) (by simp) rfl
theorem EfO.load1 {S : World → Prop} {ad : Addr} {v : Value} {kk : Gds → Env → World → Prop} (hT : TabOk P T) (hi : nthO ops.toList i = some ⟨some dst, .load t x, ty, pos, after, gd⟩) (hx : opv env x = some (.pointer (some ad))) (hg : gres ops G ⟨some dst, .load t x, ty, pos, after, gd⟩ = some true) (hn : inN n (some dst) = true) (ho : outG G (some dst) = true) (ht : isAggT T t = some false)
    (hc : w.cell? ad = some v) (hS : S w) (hk : kk G ((dst, v) :: env) w) : EfO P n ops S G env w i kk :=
  EfO.val hi hg hn ho (OpV.load rfl hx (LoadV.one hT ht hc)) hS hk
/-- A literal's block as a slice that can grow. -/
theorem Holds.pt_own {m : Nat} {cs : List Value} (hl : cs.length = m * sz) (H : Holds I w (Go.Proofs.YtpfgcchammlpgaaV.pt b (.cells cs.toArray e (0, 0)) :: L)) : Holds I w (own (.slice (some ⟨b, 0, none⟩) m m) e sz m cs :: L) := by
  have h1 : Holds I w (blk b e ([] ++ cs ++ []) :: L) := by simpa using Holds.of_pt (fr := (0, 0)) (by intro i _; simp) H
  exact h1.own_mk (Nat.le_refl _) hl (by simp)
/-- A store into a row. -/
theorem VcL.storeRow {v : Value} {vs : List Value} (q : α) (hT : TabOk P T) (he : ∀ x, (enc x).length = sz) (H : Holds I w (blk b e (pre ++ l.flatMap enc ++ post) :: L)) (hk : l[k]? = some z) (hx : opv env x = some (.pointer (some ⟨b, pre.length + k * sz + f, none⟩))) (hy : opv env y = some v) (hc : cellsF v = some vs) (h1 : vs.all oneC = true) (hs : sizeT T t = some vs.length)
    (hq : enc q = (enc z).take f ++ vs ++ (enc z).drop (f + vs.length)) (hf : Nat.ble (f + vs.length) sz = true) (hg : gres ops G ⟨none, .store t x y, ty, pos, after, gd⟩ = some true)
    (kk : ∀ w', Holds I w' (blk b e (pre ++ (l.set k q).flatMap enc ++ post) :: L) → VcL P n ops K rest G env w') : VcL P n ops K (⟨none, .store t x y, ty, pos, after, gd⟩ :: rest) G env w := by
  have hf' := Nat.le_of_ble_eq_true hf
  have hlt := (List.getElem?_eq_some_iff.1 hk).1
  have hle : (k + 1) * sz ≤ l.length * sz := Nat.mul_le_mul_right _ hlt
  rw [Nat.add_mul] at hle
  refine VcL.storeAt hT hx H hy hc h1 hs (by simp only [List.length_append, flat_len he]; omega) hg fun w' H' => kk w' ?_
  rw [over_field he hk hq hf'] at H'
  exact H'
theorem VcL.storeRow0 {v : Value} {vs : List Value} (q : α) (hT : TabOk P T) (he : ∀ x, (enc x).length = sz) (H : Holds I w (blk b e (pre ++ l.flatMap enc ++ post) :: L)) (hk : l[k]? = some z) (hx : opv env x = some (.pointer (some ⟨b, pre.length + k * sz, none⟩))) (hy : opv env y = some v) (hc : cellsF v = some vs) (h1 : vs.all oneC = true) (hs : sizeT T t = some vs.length)
    (hq : enc q = vs ++ (enc z).drop vs.length) (hf : Nat.ble vs.length sz = true) (hg : gres ops G ⟨none, .store t x y, ty, pos, after, gd⟩ = some true)
    (kk : ∀ w', Holds I w' (blk b e (pre ++ (l.set k q).flatMap enc ++ post) :: L) → VcL P n ops K rest G env w') : VcL P n ops K (⟨none, .store t x y, ty, pos, after, gd⟩ :: rest) G env w :=
  VcL.storeRow (f := 0) q hT he H hk hx hy hc h1 hs (by simpa using hq) (by simpa using hf) hg kk
/-- The same in a region that draws its order. -/
theorem OpE.storeRow {dst : Option Nat} {v : Value} {vs : List Value} (q : α) (hT : TabOk P T) (he : ∀ x, (enc x).length = sz) (H : Holds I w (blk b e (pre ++ l.flatMap enc ++ post) :: L)) (hk : l[k]? = some z) (hx : opv env x = some (.pointer (some ⟨b, pre.length + k * sz + f, none⟩))) (hy : opv env y = some v) (hc : cellsF v = some vs) (h1 : vs.all oneC = true) (hs : sizeT T t = some vs.length)
    (hq : enc q = (enc z).take f ++ vs ++ (enc z).drop (f + vs.length)) (hf : Nat.ble (f + vs.length) sz = true) : OpE P n env ⟨dst, .store t x y, ty, pos, after, gd⟩ w fun u w' => u = undef ∧ Holds I w' (blk b e (pre ++ (l.set k q).flatMap enc ++ post) :: L) := by
  have hf' := Nat.le_of_ble_eq_true hf
  have hlt := (List.getElem?_eq_some_iff.1 hk).1
  have hle : (k + 1) * sz ≤ l.length * sz := Nat.mul_le_mul_right _ hlt
  rw [Nat.add_mul] at hle
  have h := OpE.storeAt (n := n) (P := P) (env := env) (o := ⟨dst, .store t x y, ty, pos, after, gd⟩) hT H rfl hx hy hc h1 hs (by simp only [List.length_append, flat_len he]; omega)
  rwa [over_field he hk hq hf'] at h
/-! The same, where nothing is said of what lies around the row. -/
theorem Holds.own_blk {v : Value} {o cap m : Nat} {cs : List Value} (hv : v = .slice (some ⟨b, o, none⟩) m cap) (H : Holds I w (own v e sz m cs :: L)) : ∃ pre post, pre.length = o ∧ m ≤ cap ∧ cs.length = m * sz ∧ (cap - m) * sz ≤ post.length ∧ Holds I w (blk b e (pre ++ cs ++ post) :: L) := by
  subst hv
  rcases H.own_cases with ⟨h, _⟩ | ⟨b', o', cap', pre, post, h, h1, h2, h3, h4, H'⟩
  · cases h
  · injection h with h5 h6 h7
    injection h5 with h5
    injection h5 with h8 h9
    subst h8; subst h9; subst h7
    exact ⟨pre, post, h3, h1, h2, h4, H'⟩
theorem Holds.ownCell {o cap m : Nat} (H : Holds I w (own (.slice (some ⟨b, o, none⟩) m cap) e sz m (l.flatMap enc) :: L)) (he : ∀ x, (enc x).length = sz) (hk : l[k]? = some z) {v : Value} (hv : (enc z)[f]? = some v) : w.cell? ⟨b, o + k * sz + f, none⟩ = some v := by
  obtain ⟨pre, post, rfl, _, _, _, H'⟩ := Holds.own_blk rfl H
  exact H'.rowCell he hk hv
theorem Holds.ownCell0 {o cap m : Nat} (H : Holds I w (own (.slice (some ⟨b, o, none⟩) m cap) e sz m (l.flatMap enc) :: L)) (he : ∀ x, (enc x).length = sz) (hk : l[k]? = some z) {v : Value} (hv : (enc z)[0]? = some v) : w.cell? ⟨b, o + k * sz, none⟩ = some v := H.ownCell he hk (f := 0) hv
theorem Holds.ownRd {o cap m : Nat} (H : Holds I w (own (.slice (some ⟨b, o, none⟩) m cap) e sz m (l.flatMap enc) :: L)) (he : ∀ x, (enc x).length = sz) (hk : l[k]? = some z) {vs : List Value} {q : Nat} (hv : sub (enc z) f q = some vs) : Rd w b (o + k * sz + f) vs := by
  obtain ⟨pre, post, rfl, _, _, _, H'⟩ := Holds.own_blk rfl H
  exact H'.rowRd he hk hv
theorem VcL.loadOwnN {o cap c m : Nat} {vs : List Value} (hT : TabOk P T) (hx : opv env x = some (.pointer (some ⟨b, a, none⟩))) (hg : gres ops G ⟨some dst, .load t x, ty, pos, after, gd⟩ = some true) (hn : inN n (some dst) = true) (ho : outG G (some dst) = true) (ht : isAggT T t = some true) (hm : sizeT T t = some m)
    (H : Holds I w (own (.slice (some ⟨b, o, none⟩) c cap) e sz c (l.flatMap enc) :: L)) (he : ∀ x, (enc x).length = sz) (hk : l[k]? = some z) (ha : a = o + k * sz + f) (hv : sub (enc z) f m = some vs) (hl : vs.length = m)
    (kk : VcL P n ops K rest G ((dst, (.agg vs.toArray)) :: env) w) : VcL P n ops K (⟨some dst, .load t x, ty, pos, after, gd⟩ :: rest) G env w := by
  subst ha
  exact VcL.loadR hT hx hg hn ho ht hm (H.ownRd he hk hv) hl kk
theorem VcL.loadOwnN0 {o cap c m : Nat} {vs : List Value} (hT : TabOk P T) (hx : opv env x = some (.pointer (some ⟨b, a, none⟩))) (hg : gres ops G ⟨some dst, .load t x, ty, pos, after, gd⟩ = some true) (hn : inN n (some dst) = true) (ho : outG G (some dst) = true) (ht : isAggT T t = some true) (hm : sizeT T t = some m)
    (H : Holds I w (own (.slice (some ⟨b, o, none⟩) c cap) e sz c (l.flatMap enc) :: L)) (he : ∀ x, (enc x).length = sz) (hk : l[k]? = some z) (ha : a = o + k * sz) (hv : sub (enc z) 0 m = some vs) (hl : vs.length = m)
    (kk : VcL P n ops K rest G ((dst, (.agg vs.toArray)) :: env) w) : VcL P n ops K (⟨some dst, .load t x, ty, pos, after, gd⟩ :: rest) G env w :=
  VcL.loadOwnN (f := 0) hT hx hg hn ho ht hm H he hk ha hv hl kk
theorem VcL.storeOwn {o cap c : Nat} {v : Value} {vs : List Value} (q : α) (hT : TabOk P T) (he : ∀ x, (enc x).length = sz) (H : Holds I w (own (.slice (some ⟨b, o, none⟩) c cap) e sz c (l.flatMap enc) :: L)) (hk : l[k]? = some z) (hx : opv env x = some (.pointer (some ⟨b, o + k * sz + f, none⟩))) (hy : opv env y = some v) (hc : cellsF v = some vs) (h1 : vs.all oneC = true) (hs : sizeT T t = some vs.length)
    (hq : enc q = (enc z).take f ++ vs ++ (enc z).drop (f + vs.length)) (hf : Nat.ble (f + vs.length) sz = true) (hg : gres ops G ⟨none, .store t x y, ty, pos, after, gd⟩ = some true)
    (kk : ∀ w', Holds I w' (own (.slice (some ⟨b, o, none⟩) c cap) e sz c ((l.set k q).flatMap enc) :: L) → VcL P n ops K rest G env w') : VcL P n ops K (⟨none, .store t x y, ty, pos, after, gd⟩ :: rest) G env w := by
  obtain ⟨pre, post, rfl, h5, h6, h7, H'⟩ := Holds.own_blk rfl H
  refine VcL.storeRow q hT he H' hk hx hy hc h1 hs hq hf hg fun w' H2 => kk w' (H2.own_mk h5 ?_ h7)
  rw [flat_len he] at h6 ⊢
  rw [List.length_set]; exact h6
theorem VcL.storeOwn0 {o cap c : Nat} {v : Value} {vs : List Value} (q : α) (hT : TabOk P T) (he : ∀ x, (enc x).length = sz) (H : Holds I w (own (.slice (some ⟨b, o, none⟩) c cap) e sz c (l.flatMap enc) :: L)) (hk : l[k]? = some z) (hx : opv env x = some (.pointer (some ⟨b, o + k * sz, none⟩))) (hy : opv env y = some v) (hc : cellsF v = some vs) (h1 : vs.all oneC = true) (hs : sizeT T t = some vs.length)
    (hq : enc q = vs ++ (enc z).drop vs.length) (hf : Nat.ble vs.length sz = true) (hg : gres ops G ⟨none, .store t x y, ty, pos, after, gd⟩ = some true)
    (kk : ∀ w', Holds I w' (own (.slice (some ⟨b, o, none⟩) c cap) e sz c ((l.set k q).flatMap enc) :: L) → VcL P n ops K rest G env w') : VcL P n ops K (⟨none, .store t x y, ty, pos, after, gd⟩ :: rest) G env w :=
  VcL.storeOwn (f := 0) q hT he H hk hx hy hc h1 hs (by simpa using hq) (by simpa using hf) hg kk
theorem OpE.storeOwn {dst : Option Nat} {o cap c : Nat} {v : Value} {vs : List Value} (q : α) (hT : TabOk P T) (he : ∀ x, (enc x).length = sz) (H : Holds I w (own (.slice (some ⟨b, o, none⟩) c cap) e sz c (l.flatMap enc) :: L)) (hk : l[k]? = some z) (hx : opv env x = some (.pointer (some ⟨b, a, none⟩))) (ha : a = o + k * sz + f) (hy : opv env y = some v) (hc : cellsF v = some vs) (h1 : vs.all oneC = true) (hs : sizeT T t = some vs.length)
    (hq : enc q = (enc z).take f ++ vs ++ (enc z).drop (f + vs.length)) (hf : Nat.ble (f + vs.length) sz = true) : OpE P n env ⟨dst, .store t x y, ty, pos, after, gd⟩ w fun u w' => u = undef ∧ Holds I w' (own (.slice (some ⟨b, o, none⟩) c cap) e sz c ((l.set k q).flatMap enc) :: L) := by
  subst ha
  obtain ⟨pre, post, rfl, h5, h6, h7, H'⟩ := Holds.own_blk rfl H
  obtain ⟨u, w', h8, h9, H2⟩ := (OpE.storeRow (dst := dst) (ty := ty) (pos := pos) (after := after) (gd := gd) q hT he H' hk hx hy hc h1 hs hq hf).out
  refine ⟨u, w', h8, h9, H2.own_mk h5 ?_ h7⟩
  rw [flat_len he] at h6 ⊢
  rw [List.length_set]; exact h6
end
/-! ### Maps in drawn regions -/
section
variable {P : Program} {T : Tab} {n : Fi} {env : Env} {w : World} {ty : Nat} {pos : String} {after : Array Edge} {gd : Option (Nat × Bool)} {t : Nat} {x y : Operand} {κ : Type} [Key κ]
theorem OpE.lookup [DecidableEq κ] {I : Imm} {L : List Asn} {dst : Option Nat} {m : Nat} {l : List (κ × Value)} {ok : Bool} {q : κ} {e : Nat} {j : TI} {kv : Value} (hT : TabOk P T) (hx : opv env x = some (.map (some m))) (hy : opv env y = some kv) (H : Holds I w (mp m l :: L)) (hk : Key.enc q = kv) (ht : mapT T t = some (Key.desc κ, e, j)) :
    OpE P n env ⟨dst, .lookup t x y ok, ty, pos, after, gd⟩ w fun u w' => u = foundV ok j.zero (mget l q) ∧ Holds I w' (mp m l :: L) := by
  subst hk
  exact ⟨_, w, OpV.lookup hT hx hy ht H, rfl, H⟩
theorem OpE.mapUpdate [DecidableEq κ] {I : Imm} {L : List Asn} {z : Operand} {m : Nat} {l : List (κ × Value)} {q : κ} {e : Nat} {j : TI} {kv v : Value} (hT : TabOk P T) (hx : opv env x = some (.map (some m))) (hy : opv env y = some kv) (hz : opv env z = some v) (H : Holds I w (mp m l :: L)) (hk : Key.enc q = kv) (ht : mapT T t = some (Key.desc κ, e, j)) :
    OpE P n env ⟨none, .mapUpdate t x y z, ty, pos, after, gd⟩ w fun u w' => u = undef ∧ Holds I w' (mp m (mset l q v) :: L) := by
  subst hk
  obtain ⟨w', h1, h2⟩ := run_mapUpdate (v := v) (k := q) hT ht H
  refine ⟨undef, w', ⟨fun a ha => .inr ⟨rfl, ?_⟩⟩, rfl, h2⟩
  unfold execOp
  dsimp only
  rw [opv_sound ha hx, opv_sound ha hy, opv_sound ha hz]
  exact run_u h1
theorem OpE.insert [DecidableEq κ] {I : Imm} {L : List Asn} {z : Operand} {m : Nat} {l : List (κ × Value)} {q : κ} {e : Nat} {j : TI} {kv v : Value} (hT : TabOk P T) (hx : opv env x = some (.map (some m))) (hy : opv env y = some kv) (hz : opv env z = some v) (H : Holds I w (mp m l :: L)) (hk : Key.enc q = kv) (ht : mapT T t = some (Key.desc κ, e, j)) :
    OpE P n env ⟨none, .insert t x y z, ty, pos, after, gd⟩ w fun u w' => u = undef ∧ Holds I w' (mp m (mset l q v) :: L) := by
  subst hk
  obtain ⟨w', h1, h2⟩ := run_mapUpdate (v := v) (k := q) hT ht H
  refine ⟨undef, w', ⟨fun a ha => .inr ⟨rfl, ?_⟩⟩, rfl, h2⟩
  unfold execOp
  dsimp only
  rw [opv_sound ha hx, opv_sound ha hy, opv_sound ha hz]
  exact run_u h1
end
/-- Parts in another order: each number says which of those that are left comes next. -/
def takes : List Nat → List Asn → Option (List Asn)
  | [], L => some L
  | n :: ns, L => match pick L n with
    | some (A, M) => match takes ns M with
      | some N => some (A :: N)
      | none => none
    | none => none
theorem takes_perm : ∀ {ns : List Nat} {L M : List Asn}, takes ns L = some M → L.Perm M
  | [], L, M, h => by
    injection h with h
    subst h
    exact List.Perm.refl _
  | n :: ns, L, M, h => by
    unfold takes at h
    split at h
    · rename_i A M' hp
      split at h
      · rename_i N hN
        injection h with h
        subst h
        exact (pick_perm hp).trans ((takes_perm hN).cons A)
      · cases h
    · cases h
theorem Holds.re {I : Imm} {w : World} {L M : List Asn} (ns : List Nat) (h : Holds I w L) (hp : takes ns L = some M) : Holds I w M := h.perm (takes_perm hp)
end Go.Proofs.YtpfgcchammlpgaaV
