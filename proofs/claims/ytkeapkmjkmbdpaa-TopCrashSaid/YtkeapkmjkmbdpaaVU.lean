/- append(s, make([]T, m)...), whether there is room or not. -/
import Derived.Test.YtkeapkmjkmbdpaaVT
namespace Go.Proofs.Ytkeapkmjkmbdpaa.V
open Go Go.Proofs.YtkeapkmjkmbdpaaV Go.RowKit Go.BigFrame
set_option linter.unusedVariables false
set_option linter.unusedSimpArgs false
set_option maxHeartbeats 1000000
section
variable {P : Program} {T : Tab} {n : Fi} {ops : Array Oper} {K : Kont} {G : Gds} {env : Env} {w : World} {rest : List Oper} {dst : Nat} {ty : Nat} {pos : String} {after : Array Edge} {gd : Option (Nat × Bool)} {t : Nat} {x y : Operand}
theorem zeros_one {m : Nat} {z : List Value} (hz : z.all oneC = true) : ∀ u ∈ repL m z, oneC u = true := fun u hu => by
  unfold repL at hu
  obtain ⟨l, h1, h2⟩ := List.mem_flatten.1 hu
  rw [List.eq_of_mem_replicate h1] at h2
  exact List.all_eq_true.1 hz u h2
theorem run_append_make_fits {I : Imm} {L : List Asn} {t e ty : Nat} {xt : Nat} {k0 : IntKind} {j : TI} (hE : Elem P t e j) (hx : P.underlying xt = some (.int k0)) (hz1 : j.zero.cells.toList.all oneC = true)
    {b o cap k m : Nat} {k1 : IntKind} {cs : List Value} (H : Holds I w (blk b e cs :: L)) (hfit : k + m ≤ cap) (hb : m * j.bytes ≤ 2 ^ 46) (hl : o + (k + m) * j.size ≤ cs.length) :
    ∃ w', (Builtin.append_ #[t, xt] ty #[.slice (some ⟨b, o, none⟩) k cap, .int k1 m]).run P w = .ok (.slice (some ⟨b, o, none⟩) (k + m) cap) w' ∧ Holds I w' (blk b e (over cs (o + k * j.size) (repL m j.zero.cells.toList)) :: L) := by
  have hsz := hE.elem.run_size w
  have hbp := hE.bpos
  have hmb : m ≤ 2 ^ 46 := Nat.le_trans (Nat.le_mul_of_pos_right _ hbp) hb
  have hw : IntKind.i64.wrap (m : Int) = m := by rw [IntKind.wrap_i64]; omega
  have hrl : (repL m j.zero.cells.toList).length = m * j.size := by rw [repL_length, Array.length_toList, hE.zero]
  have e0 : (k + m) * j.size = k * j.size + m * j.size := Nat.add_mul _ _ _
  obtain ⟨ti, hi1, hi2, hi3, hi4⟩ := hE.elem.run_info w
  obtain ⟨w', h6, h7⟩ := run_storeCells (P := P) (o := o + k * j.size) (repL m j.zero.cells.toList) 0 _ w H (by omega) (zeros_one hz1)
  refine ⟨w', ?_, h7⟩
  unfold Builtin.append_
  simp only [List.getElem?_toArray, List.getElem?_cons_zero, List.getElem?_cons_succ]
  rw [run_bind (run_underlying hE.under w)]
  dsimp only
  rw [run_bind hsz]
  rw [run_bind (run_underlying hx w)]
  simp only [pure_bind, if_true, Bool.not_true, Bool.false_eq_true, if_false, true_or, and_true]
  have has : (asInt (.int k1 (m : Int))).run P w = .ok (m : Int) w := rfl
  rw [run_bind has, hw, if_neg (by omega)]
  rw [run_bind hi1, if_neg (by rw [hi3]; have : (m : Int) * (j.bytes : Int) = ((m * j.bytes : Nat) : Int) := by simp
                               omega)]
  simp only [Int.toNat_natCast]
  rw [if_pos hfit]
  have happ : (if m * j.size = 0 then pure #[] else do pure (Builtin.zeroCells (← zeroValue e).cells m) : Sem (Array Value)).run P w = .ok (repL m j.zero.cells.toList).toArray w := by
    by_cases h0 : m * j.size = 0
    · rw [if_pos h0]
      have : m = 0 := by
        rcases Nat.mul_eq_zero.1 h0 with h | h
        · exact h
        · have := hE.pos; omega
      subst this
      rfl
    · rw [if_neg h0, run_bind (hE.elem.run_zero w), ← zeroCells_rep j.zero.cells j.size hE.zero hE.pos m]
      simp [go_sem]
  rw [run_bind happ]
  have e1 : (⟨b, o, none⟩ : Addr).add (k * j.size) = ⟨b, o + k * j.size, none⟩ := Addr.add_mk _ _ _
  simp only [e1, List.toList_toArray]
  rw [run_bind h6]
  rfl
theorem VcL.appendMakeOwn {I : Imm} {L : List Asn} {sx xx : Operand} {xt e : Nat} {j : TI} {v : Value} {k' m : Nat} {k1 : IntKind} {mi : Int} {cs : List Value} (hT : TabOk P T)
    (hs : opv env sx = some v) (hx : opv env xx = some (.int k1 mi)) (ht : elemJ T t = some (e, j)) (hxt : intT T xt = true) (hm : mi = m) (H : Holds I w (own v e j.size k' cs :: L)) (hz1 : j.zero.cells.toList.all oneC = true) (hb : (k' + m) * j.bytes ≤ 2 ^ 46)
    (hg : gres ops G ⟨some dst, .call { callee := .builtin .append, args := #[sx, xx], argTypes := #[t, xt] }, ty, pos, after, gd⟩ = some true) (hn : inN n (some dst) = true) (ho : outG G (some dst) = true)
    (k : ∀ v' w', Holds I w' (own v' e j.size (k' + m) (cs ++ repL m j.zero.cells.toList) :: L) → VcL P n ops K rest G ((dst, v') :: env) w') : VcL P n ops K (⟨some dst, .call { callee := .builtin .append, args := #[sx, xx], argTypes := #[t, xt] }, ty, pos, after, gd⟩ :: rest) G env w := by
  have hE := elemJ_sound hT ht
  have hrl : (repL m j.zero.cells.toList).length = m * j.size := by rw [repL_length, Array.length_toList, hE.zero]
  have e0 : (k' + m) * j.size = k' * j.size + m * j.size := Nat.add_mul _ _ _
  have hsrc := H.own_src
  rcases H.own_cases with ⟨rfl, h2, h3, H'⟩ | ⟨b, o, cap, pre, post, rfl, h2, h3, h4, h5, H'⟩
  · subst h2
    subst h3
    by_cases h0 : m = 0
    · subst h0
      obtain ⟨kk, hu⟩ := intT_sound hT hxt
      refine VcL.val hg hn ho (v := .slice none 0 0) (w' := w) ⟨fun a ha => .inl ?_⟩ (k _ w (by simpa [repL] using H))
      rw [execOp_builtin, builtin_append]
      simp only [List.map_toArray, List.map_cons, List.map_nil]
      rw [opv_sound ha hs, opv_sound ha hx, hm]
      refine run_v ?_
      obtain ⟨ti, hi1, hi2, hi3, hi4⟩ := hE.elem.run_info w
      unfold Builtin.append_
      simp only [List.getElem?_toArray, List.getElem?_cons_zero, List.getElem?_cons_succ]
      rw [run_bind (run_underlying hE.under w)]
      dsimp only
      rw [run_bind (hE.elem.run_size w)]
      rw [run_bind (run_underlying hu w)]
      simp only [pure_bind, if_true, Bool.not_true, Bool.false_eq_true, if_false, true_or, and_true]
      have has : (asInt (.int k1 ((0 : Nat) : Int))).run P w = .ok ((0 : Nat) : Int) w := rfl
      have hw0 : IntKind.i64.wrap ((0 : Nat) : Int) = 0 := by rw [IntKind.wrap_i64]; omega
      rw [run_bind has, hw0, if_neg (by omega)]
      rw [run_bind hi1, if_neg (by simp)]
      simp [go_sem]
    · refine VcL.appendMake hT hs hx ht hxt hm H' hsrc (by omega) hb hg hn ho fun b cap rs w' h5 h6 H2 => k _ w' ?_
      have H3 : Holds I w' (blk b e ([] ++ ([] ++ repL m j.zero.cells.toList) ++ rs) :: L) := by simpa using H2
      exact H3.own_mk h5 (by simpa using hrl) h6
  · by_cases hfit : k' + m ≤ cap
    · obtain ⟨kk, hu⟩ := intT_sound hT hxt
      have hroom : (k' + m) * j.size ≤ cap * j.size := Nat.mul_le_mul_right _ hfit
      have hsub : (cap - k') * j.size = cap * j.size - k' * j.size := Nat.sub_mul _ _ _
      have hmb : m * j.bytes ≤ 2 ^ 46 := Nat.le_trans (Nat.mul_le_mul_right _ (by omega)) hb
      obtain ⟨w', h7, h8⟩ := run_append_make_fits (o := o) (cap := cap) (k := k') (ty := ty) (k1 := k1) hE hu hz1 H' hfit hmb (by simp only [List.length_append]; omega)
      refine VcL.val hg hn ho (v := .slice (some ⟨b, o, none⟩) (k' + m) cap) (w' := w') ⟨fun a ha => .inl ?_⟩ (k _ w' ?_)
      · rw [execOp_builtin, builtin_append]
        simp only [List.map_toArray, List.map_cons, List.map_nil]
        rw [opv_sound ha hs, opv_sound ha hx, hm]
        exact run_v h7
      · have e1 : over (pre ++ cs ++ post) (o + k' * j.size) (repL m j.zero.cells.toList) = pre ++ (cs ++ repL m j.zero.cells.toList) ++ post.drop (m * j.size) := by
          unfold over
          rw [show o + k' * j.size = (pre ++ cs).length by rw [List.length_append]; omega, List.take_left, List.drop_length_add_append, hrl]
          simp
        have H3 : Holds I w' (blk b e (pre ++ (cs ++ repL m j.zero.cells.toList) ++ post.drop (m * j.size)) :: L) := e1 ▸ h8
        subst h4
        refine H3.own_mk hfit (by rw [List.length_append]; omega) ?_
        rw [List.length_drop]
        have : (cap - (k' + m)) * j.size = cap * j.size - (k' + m) * j.size := Nat.sub_mul _ _ _
        omega
    · refine VcL.appendMake hT hs hx ht hxt hm H' hsrc (by omega) hb hg hn ho fun b2 cap2 rs w' h7 h8 H2 => k _ w' ?_
      have H3 : Holds I w' (blk b2 e ([] ++ (cs ++ repL m j.zero.cells.toList) ++ rs) :: L) := by simpa using H2.drop1
      exact H3.own_mk h7 (by rw [List.length_append]; omega) h8
/-- []byte of a constant text: its block is marked behind its last cell. -/
theorem VcL.constBytes {I : Imm} {L : List Asn} {s e b : Nat} {cs : List Value} {is ie : TI} (hT : TabOk P T) (hx : opv env x = some (.slice (some ⟨b, 0, none⟩) cs.length cs.length)) (H : Holds I w (pt b (.cells cs.toArray e (0, 0)) :: L)) (hs : T.get s = some is) (hsd : is.desc = .slice e) (he : T.get e = some ie) (hed : ie.desc = .int .u8)
    (hg : gres ops G ⟨some dst, .convert s s x, ty, pos, after, gd⟩ = some true) (hn : inN n (some dst) = true) (ho : outG G (some dst) = true)
    (k : ∀ w', Holds I w' (own (.slice (some ⟨b, 0, none⟩) cs.length cs.length) e 1 cs.length cs :: L) → VcL P n ops K rest G ((dst, .slice (some ⟨b, 0, none⟩) cs.length cs.length) :: env) w') : VcL P n ops K (⟨some dst, .convert s s x, ty, pos, after, gd⟩ :: rest) G env w := by
  have H3 := H.put (w' := w.freeze ⟨b, cs.length, none⟩ 1) (o' := .cells cs.toArray e (cs.length, cs.length + 1)) rfl rfl rfl
    (by
      show (w.heap.modify b _)[b]? = _
      rw [Array.getElem?_modify, if_pos rfl, H.pt]
      rfl)
    (fun c hc => by
      show (w.heap.modify b _)[c]? = _
      rw [Array.getElem?_modify, if_neg (Ne.symm hc)])
  have H3b : Holds I (w.freeze ⟨b, cs.length, none⟩ 1) (blk b e cs :: L) := Holds.of_pt (fun i hi => by simp only; omega) H3
  have H4 : Holds I (w.freeze ⟨b, cs.length, none⟩ 1) (blk b e ([] ++ cs ++ []) :: L) := by simpa using H3b
  refine VcL.val hg hn ho (w' := w.freeze ⟨b, cs.length, none⟩ 1) ⟨fun a ha => .inl ?_⟩ (k _ (H4.own_mk (Nat.le_refl _) (by simp) (by simp)))
  unfold execOp
  dsimp only
  rw [opv_sound ha hx]
  refine run_v ?_
  unfold convert
  rw [run_bind ((hT.out _ _ hs).run_under w), run_bind ((hT.out _ _ hs).run_under w), hsd]
  dsimp only
  rw [run_bind ((hT.out _ _ he).run_under w), hed]
  have hm : (markStringish ⟨b, 0, none⟩).run P w = .ok () (w.freeze ⟨b, cs.length, none⟩ 1) := by
    unfold markStringish
    have hsh : (shape b).run P w = .ok (some (e, cs.length)) w := by
      show Result.ok (World.shape? _ _) _ = _
      unfold World.shape?
      rw [H.pt]
      dsimp only
      rw [List.size_toArray]
    rw [run_bind hsh]
    rfl
  simp only [BEq.rfl]
  rw [run_bind hm]
  rfl
end
end Go.Proofs.Ytkeapkmjkmbdpaa.V
