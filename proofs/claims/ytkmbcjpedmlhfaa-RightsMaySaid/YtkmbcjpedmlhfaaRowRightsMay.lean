/- The row of RightsMay: the pure statement carried through the walk to the Go call, for whatever can be read as its arguments. -/
import Derived.Test.YtkmbcjpedmlhfaaRows
import Derived.Test.YtkmbcjpedmlhfaaUx44
import Derived.Test.YtkmbcjpedmlhfaaPureRightsMay
import Derived.Test.YtkmbcjpedmlhfaaOpen
import Derived.WalkKit
import Derived.ProofKit
import Derived.OpenShut
import Derived.ShutString
import Derived.ChangeOld
import Derived.Below
import Derived.SizedLaws
namespace Go.Proofs.Ytkmbcjpedmlhfaa.rightsMay
open Go.ChangeShapes Go.WideShapes Go.ChangeAt Go.RowKit Go.Proofs.Ytkmbcjpedmlhfaa.Open Go.Proofs.Ytkmbcjpedmlhfaa.U Go.Proofs.YtkmbcjpedmlhfaaW.PrintWords
open Go.ChangeMaps (open_string shut_string)
set_option linter.unusedVariables false
set_option linter.unusedSimpArgs false
theorem own : ownKnob Try.prog.godebug = none := by kernel_rfl
theorem laidOut : laidOutB Try.prog = true := by kernel_rfl
theorem bytes3 : Try.prog.bytesOf 3 = 8 := by kernel_rfl
theorem bytes24 : Try.prog.bytesOf 24 = 48 := by kernel_rfl
theorem bytes37 : Try.prog.bytesOf 37 = 56 := by kernel_rfl
set_option maxRecDepth 100000 in
theorem lifted (os : Os) (started : os.Started) (H : Type) (enc : TypeId × Value → H) :
    ReturnsInHanded {} Try.checked os 8 .any (Rows.rightsMaySpec.pre6 enc Try.prog Try.f8 Rows.rightsMayRow.domain false) (Rows.rightsMaySpec.post enc Try.prog Try.f8 false true false false) := by
  refine returnsInHanded_of_change_sized (C := Try.checked) own started (by kernel_rfl) Try.func8
    (ChangeSpec.witness6 (enc := enc) (C := Try.checked) false ⟨#[], #[.slice none 0 0, .agg #[.int .i64 0, .string ByteArray.empty], .slice none 0 0], []⟩ 8 (by kernel_rfl) (by kernel_rfl) (by kernel_rfl) (by kernel_rfl)) ?_
  intro W base args ds gs before hval0 hW hcnd hsz0 _
  have hsz : (DataW.weightsEach Try.prog (Try.f8.params.toList ++ Rows.rightsMaySpec.plain.varTypes Try.prog) (ds ++ gs)).all (· ≤ reachBytes) = true := hsz0
  have hval : ∀ (j : Nat) t v, Try.f8.params[j]? = some t → args[j]? = some v → Value.okWide Try.prog W .any base t v := hval0
  have hW' := hW
  obtain ⟨p, q, hA0, hV, rfl, hfz, hnd⟩ := hW
  have hA : DataW.TrodAll enc Try.prog W 0 (fun _ => true) true Try.f8.params.toList args.toList ds p := hA0
  rw [Try.params8] at hA hval hsz
  obtain ⟨v0, vs0, d0, ds0, p0, q0, hargs, rfl, rfl, h0, r0⟩ := trodAll_cons hA
  obtain ⟨v1, vs1, d1, ds1, p1, q1, rfl, rfl, rfl, h1, r1⟩ := trodAll_cons r0
  obtain ⟨v2, vs2, d2, ds2, p2, q2, rfl, rfl, rfl, h2, r2⟩ := trodAll_cons r1
  obtain ⟨rfl, rfl, rfl⟩ := trodAll_nil r2
  obtain rfl : args = #[v0, v1, v2] := by cases args; simp_all
  obtain ⟨rfl, rfl⟩ := trodVars_none hV
  have k0 := h0
  have lt0 : ∀ x ∈ p0, x.block < W.heap.size := by obtain ⟨m, hm⟩ := k0; exact DataW.trod_lt m _ _ _ hm
  obtain ⟨fu0, hf0⟩ := h0
  obtain ⟨x0, hx0, ok0⟩ := (Opn.slice Try.underlying22 (by kernel_rfl) (show Opn Try.prog 37 k37 _ from Opn.iso (fun x : S37 => (x.f0, x.f1, x.f2, x.f3)) (fun ⟨a0_, a1_, a2_, a3_⟩ => ⟨⟨a0_, a1_, a2_, a3_⟩, rfl⟩) (Opn.struct Try.underlying37 (by kernel_rfl) (OpnF.cons rfl (by kernel_rfl) (Opn.int Try.underlying3) (OpnF.cons rfl (by kernel_rfl) (Opn.string Try.underlying9) (OpnF.cons rfl (by kernel_rfl) (Opn.int Try.underlying3) (OpnF.one rfl (by kernel_rfl) (Opn.slice Try.underlying35 (by kernel_rfl) (Opn.int Try.underlying3))))))))).out hf0 (within hsz (j := 0) (t := 22) rfl rfl)
  try simp only [bytes3, bytes24, bytes37] at ok0
  obtain ⟨a0, len0, cap0, rfl⟩ := okWide_slice Try.underlying22 (hval 0 22 v0 rfl rfl)
  obtain ⟨rfl, hc0, hr0⟩ := top_slice hx0
  have k1 := h1
  have lt1 : ∀ x ∈ p1, x.block < W.heap.size := by obtain ⟨m, hm⟩ := k1; exact DataW.trod_lt m _ _ _ hm
  obtain ⟨fu1, hf1⟩ := h1
  obtain ⟨x1, hx1, ok1⟩ := (Opn.struct Try.underlying49 (by kernel_rfl) (OpnF.cons rfl (by kernel_rfl) (Opn.int Try.underlying3) (OpnF.one rfl (by kernel_rfl) (Opn.string Try.underlying9)))).out hf1 (within hsz (j := 1) (t := 49) rfl rfl)
  try simp only [bytes3, bytes24, bytes37] at ok1
  obtain ⟨c1, rfl, _⟩ := okWide_struct Try.underlying49 (hval 1 49 v1 rfl rfl)
  obtain ⟨_, _, e1, rfl, rfl⟩ := hx1
  have g1 : Value.agg c1 = .agg #[.int .i64 x1.1, .string x1.2] := top_agg e1
  rw [g1]
  have k2 := h2
  have lt2 : ∀ x ∈ p2, x.block < W.heap.size := by obtain ⟨m, hm⟩ := k2; exact DataW.trod_lt m _ _ _ hm
  obtain ⟨fu2, hf2⟩ := h2
  obtain ⟨x2, hx2, ok2⟩ := (Opn.slice Try.underlying44 (by kernel_rfl) (show Opn Try.prog 24 k24 _ from Opn.iso (fun x : S24 => (x.f0, x.f1, x.f2, x.f3, x.f4, x.f5)) (fun ⟨a0_, a1_, a2_, a3_, a4_, a5_⟩ => ⟨⟨a0_, a1_, a2_, a3_, a4_, a5_⟩, rfl⟩) (Opn.struct Try.underlying24 (by kernel_rfl) (OpnF.cons rfl (by kernel_rfl) (Opn.int Try.underlying3) (OpnF.cons rfl (by kernel_rfl) (Opn.int Try.underlying3) (OpnF.cons rfl (by kernel_rfl) (Opn.int Try.underlying3) (OpnF.cons rfl (by kernel_rfl) (Opn.int Try.underlying3) (OpnF.cons rfl (by kernel_rfl) (Opn.int Try.underlying3) (OpnF.one rfl (by kernel_rfl) (Opn.bool Try.underlying4)))))))))).out hf2 (within hsz (j := 2) (t := 44) rfl rfl)
  try simp only [bytes3, bytes24, bytes37] at ok2
  obtain ⟨a2, len2, cap2, rfl⟩ := okWide_slice Try.underlying44 (hval 2 44 v2 rfl rfl)
  obtain ⟨rfl, hc2, hr2⟩ := top_slice hx2
  clear hA0 hval0 hsz0 hsz
  obtain ⟨k, h⟩ := Pure.RightsMay _ _ _ _ ok0 ok1.1 ok1.2 ok2
  refine (tithinglaw21_RightsMay.calls k _ _ x0 x1.1 x1.2 _ _ x2 true W hr0 hc0 hr2 hc2 h).mono fun e W' ⟨he, bel0⟩ => ?_
  have bel : Below W.heap.size W W' := bel0
  subst he
  rw [← g1] at *
  exact ⟨_, rfl, _, _, _, [], _, [], hW', trodAll_mk1 (shut_bool Try.underlying4 _), (trodAll_cons_mk (Below.trod laidOut (by kernel_rfl) (of_decide_eq_true (by kernel_rfl)) k0 bel lt0) (trodAll_cons_mk (Below.trod laidOut (by kernel_rfl) (of_decide_eq_true (by kernel_rfl)) k1 bel lt1) (trodAll_cons_mk (Below.trod laidOut (by kernel_rfl) (of_decide_eq_true (by kernel_rfl)) k2 bel lt2) trodAll_mk0))), rfl, bel.frame _, fun h => by cases h⟩
theorem over : Rows.rightsMayRow.holds Try.pinned (OpenSpec.ofChange Rows.rightsMaySpec) :=
  OpenClaim.holds_of_wide 8 Try.f8 rfl rfl rfl rfl rfl rfl rfl ⟨rfl, rfl, rfl, rfl, rfl⟩ rfl rfl rfl rfl rfl (by kernel_rfl) Try.func8 (by kernel_rfl)
    (of_decide_eq_true (by kernel_rfl)) (by unfold Func.isWrapper; first | (rw [if_pos (by decide +kernel)]; kernel_rfl) | (rw [if_neg (by decide +kernel)]; exact ⟨rfl, rfl⟩))
    (fun os started H enc _ => lifted os started H enc)
theorem proved : Rows.RightsMaySaid := over
#print axioms proved
end Go.Proofs.Ytkmbcjpedmlhfaa.rightsMay
