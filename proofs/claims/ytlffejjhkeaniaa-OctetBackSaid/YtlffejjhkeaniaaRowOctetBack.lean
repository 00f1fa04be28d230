/- The row of OctetBack: the pure statement carried through the walk to the Go call, for whatever can be read as its arguments. -/
import Derived.Test.YtlffejjhkeaniaaRows
import Derived.Test.YtlffejjhkeaniaaMx10
import Derived.Test.YtlffejjhkeaniaaPureOctetBack
import Derived.Test.YtlffejjhkeaniaaOpen
import Derived.WalkKit
import Derived.ProofKit
import Derived.OpenShut
import Derived.ShutString
import Derived.ChangeOld
import Derived.Below
import Derived.SizedLaws
namespace Go.Proofs.Ytlffejjhkeaniaa.octetBack
open Go.ChangeShapes Go.WideShapes Go.ChangeAt Go.RowKit Go.Proofs.Ytlffejjhkeaniaa.Open Go.Proofs.Ytlffejjhkeaniaa.M Go.Proofs.YtlffejjhkeaniaaW.PrintWords
open Go.ChangeMaps (open_string shut_string)
set_option linter.unusedVariables false
set_option linter.unusedSimpArgs false
theorem own : ownKnob Try.prog.godebug = none := by kernel_rfl
theorem laidOut : laidOutB Try.prog = true := by kernel_rfl
theorem bytes5 : Try.prog.bytesOf 5 = 1 := by kernel_rfl
set_option maxRecDepth 100000 in
theorem lifted (os : Os) (started : os.Started) (H : Type) (enc : TypeId × Value → H) :
    ReturnsInHanded {} Try.checked os 8 .any (Rows.octetBackSpec.pre6 enc Try.prog Try.f8 Rows.octetBackRow.domain false) (Rows.octetBackSpec.post enc Try.prog Try.f8 false true false false) := by
  refine returnsInHanded_of_change_sized (C := Try.checked) own started (by kernel_rfl) Try.func8
    (ChangeSpec.witness6 (enc := enc) (C := Try.checked) false ⟨#[], #[.agg #[.int .i64 0, .int .i64 0, .int .i64 0], .string ByteArray.empty, .agg #[.slice none 0 0, .slice none 0 0]], []⟩ 8 (by kernel_rfl) (by kernel_rfl) (by kernel_rfl) (by kernel_rfl)) ?_
  intro W base args ds gs before hval0 hW hcnd hsz0 _
  have hsz : (DataW.weightsEach Try.prog (Try.f8.params.toList ++ Rows.octetBackSpec.plain.varTypes Try.prog) (ds ++ gs)).all (· ≤ reachBytes) = true := hsz0
  have hval : ∀ (j : Nat) t v, Try.f8.params[j]? = some t → args[j]? = some v → Value.okWide Try.prog W .any base t v := hval0
  have hW' := hW
  obtain ⟨p, q, hA0, hV, rfl, hfz, hnd⟩ := hW
  have hA : DataW.TrodAll enc Try.prog W 0 (fun _ => true) true Try.f8.params.toList args.toList ds p := hA0
  rw [Try.params8] at hA hval hsz
  obtain ⟨v0, vs0, d0, ds0, p0, q0, hargs, rfl, rfl, h0, r0⟩ := trodAll_cons hA
  obtain ⟨v1, vs1, d1, ds1, p1, q1, rfl, rfl, rfl, h1, r1⟩ := trodAll_cons r0
  obtain ⟨v2, vs2, d2, ds2, p2, q2, rfl, rfl, rfl, h2, r2⟩ := trodAll_cons r1
  obtain ⟨rfl, rfl, rfl⟩ := trodAll_nil r2
  obtain rfl : args = #[v0, v1, v2] := by cases args; simp_all
  obtain ⟨rfl, rfl⟩ := trodVars_none hV
  have k0 := h0
  have lt0 : ∀ x ∈ p0, x.block < W.heap.size := by obtain ⟨m, hm⟩ := k0; exact DataW.trod_lt m _ _ _ hm
  obtain ⟨fu0, hf0⟩ := h0
  obtain ⟨x0, hx0, ok0⟩ := (Opn.struct Try.underlying28 (by kernel_rfl) (OpnF.cons rfl (by kernel_rfl) (Opn.int Try.underlying3) (OpnF.cons rfl (by kernel_rfl) (Opn.int Try.underlying3) (OpnF.one rfl (by kernel_rfl) (Opn.int Try.underlying3))))).out hf0 (within hsz (j := 0) (t := 28) rfl rfl)
  try simp only [bytes5] at ok0
  obtain ⟨c0, rfl, _⟩ := okWide_struct Try.underlying28 (hval 0 28 v0 rfl rfl)
  obtain ⟨_, _, e0, rfl, ⟨_, _, rfl, rfl, rfl⟩⟩ := hx0
  have g0 : Value.agg c0 = .agg #[.int .i64 x0.1, .int .i64 x0.2.1, .int .i64 x0.2.2] := top_agg e0
  rw [g0]
  have k1 := h1
  have lt1 : ∀ x ∈ p1, x.block < W.heap.size := by obtain ⟨m, hm⟩ := k1; exact DataW.trod_lt m _ _ _ hm
  obtain ⟨fu1, hf1⟩ := h1
  obtain ⟨x1, hx1, ok1⟩ := (Opn.string Try.underlying9).out hf1 (within hsz (j := 1) (t := 9) rfl rfl)
  try simp only [bytes5] at ok1
  obtain ⟨a1, rfl⟩ : ∃ a, v1 = .string a := by obtain ⟨a, ha, _⟩ := open_string Try.underlying9 (hval 1 9 v1 rfl rfl) k1; exact ⟨a, ha⟩
  obtain rfl : a1 = x1 := by have e_ : [_] = [_] := hx1; simpa using e_
  have k2 := h2
  have lt2 : ∀ x ∈ p2, x.block < W.heap.size := by obtain ⟨m, hm⟩ := k2; exact DataW.trod_lt m _ _ _ hm
  obtain ⟨fu2, hf2⟩ := h2
  obtain ⟨x2, hx2, ok2⟩ := (Opn.array2 Try.underlying41 (by kernel_rfl) (by kernel_rfl) (Opn.slice Try.underlying22 (by kernel_rfl) (Opn.int Try.underlying5))).out hf2 (within hsz (j := 2) (t := 41) rfl rfl)
  try simp only [bytes5] at ok2
  obtain ⟨c2, rfl, _⟩ := okWide_array Try.underlying41 (hval 2 41 v2 rfl rfl)
  obtain ⟨_, _, e2, ⟨A2_0, c2_0, rfl, hc2_0, hr2_0⟩, ⟨A2_1, c2_1, rfl, hc2_1, hr2_1⟩⟩ := hx2
  have g2 : Value.agg c2 = .agg #[.slice A2_0 x2.1.length c2_0, .slice A2_1 x2.2.length c2_1] := top_agg e2
  rw [g2]
  clear hA0 hval0 hsz0 hsz
  obtain ⟨k, h⟩ := Pure.OctetBack _ _ _ _ _ _ ok0.1 ok0.2.1 ok0.2.2 ok1 ok2.1 ok2.2
  refine (tithinglaw01_OctetBack.calls k x0.1 x0.2.1 x0.2.2 a1 (fun _ => True) _ _ x2.1 (fun _ => True) _ _ x2.2 true W (V_scalar hc2_0 hr2_0) (V_scalar hc2_1 hr2_1) h).mono fun e W' ⟨he, bel0⟩ => ?_
  have bel : Below W.heap.size W W' := bel0
  subst he
  rw [← g0] at *
  rw [← g2] at *
  exact ⟨_, rfl, _, _, _, [], _, [], hW', trodAll_mk1 (shut_bool Try.underlying4 _), (trodAll_cons_mk (Below.trod laidOut (by kernel_rfl) (of_decide_eq_true (by kernel_rfl)) k0 bel lt0) (trodAll_cons_mk (Below.trod laidOut (by kernel_rfl) (of_decide_eq_true (by kernel_rfl)) k1 bel lt1) (trodAll_cons_mk (Below.trod laidOut (by kernel_rfl) (of_decide_eq_true (by kernel_rfl)) k2 bel lt2) trodAll_mk0))), rfl, bel.frame _, fun h => by cases h⟩
theorem over : Rows.octetBackRow.holds Try.pinned (OpenSpec.ofChange Rows.octetBackSpec) :=
  OpenClaim.holds_of_wide 8 Try.f8 rfl rfl rfl rfl rfl rfl rfl ⟨rfl, rfl, rfl, rfl, rfl⟩ rfl rfl rfl rfl rfl (by kernel_rfl) Try.func8 (by kernel_rfl)
    (of_decide_eq_true (by kernel_rfl)) (by unfold Func.isWrapper; first | (rw [if_pos (by decide +kernel)]; kernel_rfl) | (rw [if_neg (by decide +kernel)]; exact ⟨rfl, rfl⟩))
    (fun os started H enc _ => lifted os started H enc)
theorem proved : Rows.OctetBackSaid := over
#print axioms proved
end Go.Proofs.Ytlffejjhkeaniaa.octetBack
