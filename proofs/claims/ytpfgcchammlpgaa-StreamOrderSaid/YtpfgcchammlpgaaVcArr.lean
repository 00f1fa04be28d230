import Derived.Test.YtpfgcchammlpgaaVcGrow
set_option linter.unusedVariables false
set_option linter.unusedSimpArgs false
namespace Go.Proofs.YtpfgcchammlpgaaV
open Go Go.RowKit Go.BigFrame

/-! ### Arrays behind a pointer -/
section
variable {P : Program} {T : Tab} {n : Fi} {ops : Array Oper} {K : Kont} {G : Gds} {env : Env} {w : World} {rest : List Oper} {dst : Nat} {ty : Nat} {pos : String} {after : Array Edge} {gd : Option (Nat × Bool)} {t : Nat} {x y : Operand}
def arrT (T : Tab) (t : Nat) : Option (Nat × Nat × Nat) := match T.get t with
  | some ⟨.array len e, _, _, _⟩ => match T.get e with
    | some ⟨_, sz, _, _⟩ => some (len, e, sz)
    | none => none
  | _ => none
theorem arrT_sound (hT : TabOk P T) {t len e sz : Nat} (h : arrT T t = some (len, e, sz)) : P.underlying t = some (.array len e) ∧ ∃ j, TypeOk P e j ∧ j.size = sz := by
  unfold arrT at h
  split at h
  · rename_i l' e' s1 b1 z1 hi
    split at h
    · rename_i d2 sz2 b2 z2 hj
      simp only [Option.some.injEq, Prod.mk.injEq] at h
      obtain ⟨rfl, rfl, rfl⟩ := h
      exact ⟨(hT.out t _ hi).under, _, hT.out _ _ hj, rfl⟩
    · cases h
  · cases h
theorem OpV.indexArr (hT : TabOk P T) {dst : Option Nat} {len e sz b p : Nat} {k : IntKind} {j : Int} (hx : opv env x = some (.pointer (some ⟨b, p, none⟩))) (hy : opv env y = some (.int k j))
    (ht : arrT T t = some (len, e, sz)) (h0 : 0 ≤ j) (h1 : j < len) : OpV P n env ⟨dst, .indexAddr t x y, ty, pos, after, gd⟩ w (.pointer (some ⟨b, p + j.toNat * sz, none⟩)) w := ⟨fun a ha => .inl (by
  obtain ⟨h2, i, h3, rfl⟩ := arrT_sound hT ht
  unfold execOp
  dsimp only
  rw [opv_sound ha hx, opv_sound ha hy]
  refine run_v ?_
  unfold Instr.indexAt
  simp only [asIntOf, pure_bind]
  have e1 : ∀ {α : Type} (f : TypeDesc → Sem α), (underlying t >>= f).run P w = (f (.array len e)).run P w := fun f => run_bind (run_underlying h2 w)
  rw [e1]
  simp only [Instr.sureAddr, pure_bind]
  rw [e1]
  simp only [h0, h1, and_self, if_true]
  rw [run_bind (h3.run_size w)]
  simp [go_sem, Addr.add_mk])⟩
theorem VcL.indexArr {b p len e sz : Nat} {kk : IntKind} {j : Int} (hT : TabOk P T) (hx : opv env x = some (.pointer (some ⟨b, p, none⟩))) (hy : opv env y = some (.int kk j)) (hg : gres ops G ⟨some dst, .indexAddr t x y, ty, pos, after, gd⟩ = some true) (hn : inN n (some dst) = true) (ho : outG G (some dst) = true)
    (ht : arrT T t = some (len, e, sz)) (h0 : 0 ≤ j) (h1 : j < len) (k : VcL P n ops K rest G ((dst, (.pointer (some ⟨b, p + j.toNat * sz, none⟩))) :: env) w) : VcL P n ops K (⟨some dst, .indexAddr t x y, ty, pos, after, gd⟩ :: rest) G env w :=
  VcL.val hg hn ho (OpV.indexArr hT hx hy ht h0 h1) k
theorem VcL.indexArr0 {b len e sz : Nat} {kk : IntKind} {j : Int} (hT : TabOk P T) (hx : opv env x = some (.pointer (some ⟨b, 0, none⟩))) (hy : opv env y = some (.int kk j)) (hg : gres ops G ⟨some dst, .indexAddr t x y, ty, pos, after, gd⟩ = some true) (hn : inN n (some dst) = true) (ho : outG G (some dst) = true)
    (ht : arrT T t = some (len, e, sz)) (h0 : 0 ≤ j) (h1 : j < len) (k : VcL P n ops K rest G ((dst, (.pointer (some ⟨b, j.toNat * sz, none⟩))) :: env) w) : VcL P n ops K (⟨some dst, .indexAddr t x y, ty, pos, after, gd⟩ :: rest) G env w := by
  have := OpV.indexArr (w := w) (n := n) (dst := some dst) (ty := ty) (pos := pos) (after := after) (gd := gd) hT hx hy ht h0 h1
  rw [Nat.zero_add] at this
  exact VcL.val hg hn ho this k
variable {S : Phase} {i : Nat} {p : Plan}
theorem VcD.indexArr {b q len e sz : Nat} {kk : IntKind} {j : Int} (hT : TabOk P T) (hi : nthO ops.toList i = some ⟨some dst, .indexAddr t x y, ty, pos, after, gd⟩) (hx : opv env x = some (.pointer (some ⟨b, q, none⟩))) (hy : opv env y = some (.int kk j)) (hg : gres ops G ⟨some dst, .indexAddr t x y, ty, pos, after, gd⟩ = some true) (hn : inN n (some dst) = true) (ho : outG G (some dst) = true)
    (ht : arrT T t = some (len, e, sz)) (h0 : 0 ≤ j) (h1 : j < len) (k : VcD P n ops S K p G ((dst, (.pointer (some ⟨b, q + j.toNat * sz, none⟩))) :: env) w) : VcD P n ops S K (.pure i p) G env w :=
  VcD.valP hi hg hn ho (fun w => OpV.indexArr hT hx hy ht h0 h1) (fun e => by cases e) k
theorem VcD.indexArr0 {b len e sz : Nat} {kk : IntKind} {j : Int} (hT : TabOk P T) (hi : nthO ops.toList i = some ⟨some dst, .indexAddr t x y, ty, pos, after, gd⟩) (hx : opv env x = some (.pointer (some ⟨b, 0, none⟩))) (hy : opv env y = some (.int kk j)) (hg : gres ops G ⟨some dst, .indexAddr t x y, ty, pos, after, gd⟩ = some true) (hn : inN n (some dst) = true) (ho : outG G (some dst) = true)
    (ht : arrT T t = some (len, e, sz)) (h0 : 0 ≤ j) (h1 : j < len) (k : VcD P n ops S K p G ((dst, (.pointer (some ⟨b, j.toNat * sz, none⟩))) :: env) w) : VcD P n ops S K (.pure i p) G env w :=
  VcD.valP hi hg hn ho (fun w => by
    have := OpV.indexArr (w := w) (n := n) (dst := some dst) (ty := ty) (pos := pos) (after := after) (gd := gd) hT hx hy ht h0 h1
    rw [Nat.zero_add] at this
    exact this) (fun e => by cases e) k
end
end Go.Proofs.YtpfgcchammlpgaaV
