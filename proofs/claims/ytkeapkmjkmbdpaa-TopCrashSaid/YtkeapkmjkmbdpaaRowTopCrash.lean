/- TopCrash: for every input the law returns true and its arguments read as they did: the walk carried to the Go call, for whatever can be read as its arguments. -/
import Derived.Test.YtkeapkmjkmbdpaaRows
import Derived.Test.YtkeapkmjkmbdpaaVCB
import Derived.Test.YtkeapkmjkmbdpaaVOQ
import Derived.Test.YtkeapkmjkmbdpaaVcOpen
import Derived.WalkKit
import Derived.ProofKit
import Derived.OpenShut
import Derived.ShutString
import Derived.ChangeOld
import Derived.Below
import Derived.SizedLaws
namespace Go.Proofs.Ytkeapkmjkmbdpaa.topCrash
open Go Go.ChangeShapes Go.WideShapes Go.ChangeAt Go.RowKit Go.Proofs.YtkeapkmjkmbdpaaV Go.Proofs.Ytkeapkmjkmbdpaa.V
open Go.ChangeMaps (open_string shut_string)
set_option linter.unusedVariables false
set_option linter.unusedSimpArgs false
theorem own : ownKnob Try.prog.godebug = none := by kernel_rfl
theorem laidOut : laidOutB Try.prog = true := by kernel_rfl
set_option maxRecDepth 100000 in
theorem lifted (os : Os) (started : os.Started) (H : Type) (enc : TypeId × Value → H) :
    ReturnsInHanded {} Try.checked os 3 .any (Rows.topCrashSpec.pre6 enc Try.prog Try.f3 Rows.topCrashRow.domain false) (Rows.topCrashSpec.post enc Try.prog Try.f3 false true false false) := by
  refine returnsInHanded_of_change_sized (C := Try.checked) own started (by kernel_rfl) Try.func3
    (ChangeSpec.witness6 (enc := enc) (C := Try.checked) false ⟨#[], #[.int .u8 0, .slice none 0 0, .slice none 0 0, .int .u8 0], []⟩ 8 (by kernel_rfl) (by kernel_rfl) (by kernel_rfl) (by kernel_rfl)) ?_
  intro W base args ds gs before hval0 hW hcnd hsz0 _
  have hsz : (DataW.weightsEach Try.prog (Try.f3.params.toList ++ Rows.topCrashSpec.plain.varTypes Try.prog) (ds ++ gs)).all (· ≤ reachBytes) = true := hsz0
  have hval : ∀ (j : Nat) t v, Try.f3.params[j]? = some t → args[j]? = some v → Value.okWide Try.prog W .any base t v := hval0
  have hW' := hW
  obtain ⟨p, q, hA0, hV, rfl, hfz, hnd⟩ := hW
  have hA : DataW.TrodAll enc Try.prog W 0 (fun _ => true) true Try.f3.params.toList args.toList ds p := hA0
  rw [Try.params3] at hA hval hsz
  obtain ⟨v0, vs0, d0, ds0, p0, q0, hargs, rfl, rfl, h0, r0⟩ := trodAll_cons hA
  obtain ⟨v1, vs1, d1, ds1, p1, q1, rfl, rfl, rfl, h1, r1⟩ := trodAll_cons r0
  obtain ⟨v2, vs2, d2, ds2, p2, q2, rfl, rfl, rfl, h2, r2⟩ := trodAll_cons r1
  obtain ⟨v3, vs3, d3, ds3, p3, q3, rfl, rfl, rfl, h3, r3⟩ := trodAll_cons r2
  obtain ⟨rfl, rfl, rfl⟩ := trodAll_nil r3
  obtain rfl : args = #[v0, v1, v2, v3] := by cases args; simp_all
  obtain ⟨rfl, rfl⟩ := trodVars_none hV
  have k0 := h0
  have lt0 : ∀ x ∈ p0, x.block < W.heap.size := by obtain ⟨m, hm⟩ := k0; exact DataW.trod_lt m _ _ _ hm
  obtain ⟨fu0, hf0⟩ := h0
  obtain ⟨x0, hx0, ok0⟩ := (Opn.int Try.underlying5).out hf0 (within hsz (j := 0) (t := 5) rfl rfl)
  obtain rfl : v0 = .int .u8 x0 := by obtain ⟨_, h_, _⟩ := open_int Try.underlying5 (hval 0 5 v0 rfl rfl) k0; exact top_one (by intro c; rw [h_]; exact fun e => by cases e) hx0
  have k1 := h1
  have lt1 : ∀ x ∈ p1, x.block < W.heap.size := by obtain ⟨m, hm⟩ := k1; exact DataW.trod_lt m _ _ _ hm
  obtain ⟨fu1, hf1⟩ := h1
  obtain ⟨x1, hx1, ok1⟩ := (Opn.slice Try.underlying22 (by kernel_rfl) (by decide) opnPu).out hf1 (within hsz (j := 1) (t := 22) rfl rfl)
  obtain rfl : v1 = SlD.v x1 := by obtain ⟨_, _, _, h_⟩ := okWide_slice Try.underlying22 (hval 1 22 v1 rfl rfl); exact top_one (by intro c; rw [h_]; exact fun e => by cases e) hx1
  have k2 := h2
  have lt2 : ∀ x ∈ p2, x.block < W.heap.size := by obtain ⟨m, hm⟩ := k2; exact DataW.trod_lt m _ _ _ hm
  obtain ⟨fu2, hf2⟩ := h2
  obtain ⟨x2, hx2, ok2⟩ := (Opn.slice Try.underlying23 (by kernel_rfl) (by decide) (Opn.bool Try.underlying4)).out hf2 (within hsz (j := 2) (t := 23) rfl rfl)
  obtain rfl : v2 = SlD.v x2 := by obtain ⟨_, _, _, h_⟩ := okWide_slice Try.underlying23 (hval 2 23 v2 rfl rfl); exact top_one (by intro c; rw [h_]; exact fun e => by cases e) hx2
  have k3 := h3
  have lt3 : ∀ x ∈ p3, x.block < W.heap.size := by obtain ⟨m, hm⟩ := k3; exact DataW.trod_lt m _ _ _ hm
  obtain ⟨fu3, hf3⟩ := h3
  obtain ⟨x3, hx3, ok3⟩ := (Opn.int Try.underlying5).out hf3 (within hsz (j := 3) (t := 5) rfl rfl)
  obtain rfl : v3 = .int .u8 x3 := by obtain ⟨_, h_, _⟩ := open_int Try.underlying5 (hval 3 5 v3 rfl rfl) k3; exact top_one (by intro c; rw [h_]; exact fun e => by cases e) hx3
  refine Calls.mono (TopCrash_any (Holds.begin W) (wf_u8 ok0) (wf_u8 ok3) ok1.1 (maxLen_pu ok1.2.1) ok1.2.2.2 ok2.1 (maxLen_bo ok2.2.1)).out fun e W' ⟨u, he, hu, HB⟩ => ?_
  have bel : Below W.heap.size W W' := HB.below
  subst hu
  subst he
  exact ⟨_, rfl, _, _, _, [], _, [], hW', trodAll_mk1 (shut_bool Try.underlying4 _), (trodAll_cons_mk (Below.trod laidOut (by kernel_rfl) (of_decide_eq_true (by kernel_rfl)) k0 bel lt0) (trodAll_cons_mk (Below.trod laidOut (by kernel_rfl) (of_decide_eq_true (by kernel_rfl)) k1 bel lt1) (trodAll_cons_mk (Below.trod laidOut (by kernel_rfl) (of_decide_eq_true (by kernel_rfl)) k2 bel lt2) (trodAll_cons_mk (Below.trod laidOut (by kernel_rfl) (of_decide_eq_true (by kernel_rfl)) k3 bel lt3) trodAll_mk0)))), rfl, bel.frame _, fun h => by cases h⟩
theorem over : Rows.topCrashRow.holds Try.pinned (OpenSpec.ofChange Rows.topCrashSpec) :=
  OpenClaim.holds_of_wide 3 Try.f3 rfl rfl rfl rfl rfl rfl rfl ⟨rfl, rfl, rfl, rfl, rfl⟩ rfl rfl rfl rfl rfl (by kernel_rfl) Try.func3 (by kernel_rfl)
    (of_decide_eq_true (by kernel_rfl)) (by unfold Func.isWrapper; first | (rw [if_pos (by decide +kernel)]; kernel_rfl) | (rw [if_neg (by decide +kernel)]; exact ⟨rfl, rfl⟩))
    (fun os started H enc _ => lifted os started H enc)
theorem proved : Rows.TopCrashSaid := over
#print axioms proved
end Go.Proofs.Ytkeapkmjkmbdpaa.topCrash
