/- Nil ends, and such that are zero values. -/
import Derived.Test.YtpfgcchammlpgaaVP
import Derived.Test.YtpfgcchammlpgaaVOP
namespace Go.Proofs.Ytpfgcchammlpgaa.V
open Go Go.Proofs.YtpfgcchammlpgaaV
set_option linter.unusedVariables false
set_option linter.unusedSimpArgs false
set_option maxHeartbeats 4000000
set_option maxRecDepth 4000
attribute [local irreducible] IntKind.wrap endA
variable {I : Imm} {w : World} {L : List Asn}
structure NoE (I : Imm) (L : List Asn) (x : Value) : Prop where mk ::
  out : ∀ {w : World} (A : List Asn), Holds I w (A ++ L) → Rets Try.prog F_stream_End_none #[x] w fun u w' => u = .bool true ∧ Holds I w' (A ++ L)
theorem NoE.nil : NoE I L (.pointer none) := ⟨fun A H => noneN_any H⟩
theorem NoE.zero {d : Nat} (h : RdW I L d 0 [.int .i64 0]) : NoE I L (ptr d) := ⟨fun A H => noneZ_any H (h.ups A)⟩
theorem NoE.go {x : Value} (h : NoE I L x) (H : Holds I w L) : Rets Try.prog F_stream_End_none #[x] w fun u w' => u = .bool true ∧ Holds I w' L := h.out [] H
theorem NoE.up {x : Value} {a : Asn} (h : NoE I L x) : NoE I (a :: L) x := ⟨fun A H => by rw [List.append_cons] at H ⊢; exact h.out _ H⟩
theorem beginN_any (H : Holds I w L) {x : Value} (hN : NoE I L x) (s : Int) : Rets Try.prog F_stream_End_begin #[x, .int .i64 s] w fun u w' => u = .int .i64 7 ∧ Holds I w' L := by
  refine ok_stream_End_begin.rets rfl ?_
  repeat' (first
    | (show VcL _ _ _ _ _ _ _ _; first
      | refine VcL.pures tabOk rfl ?_
      | refine VcL.nil ?_
      | (show VcL _ _ _ _ (⟨_, .call ⟨.value (.func F_stream_End_none), _, _⟩, _, _, _, _⟩ :: _) _ _ _; (refine VcL.callF ok_stream_End_none rfl rfl rfl rfl (Rets.mono (hN.go H) ?_); rintro _ w ⟨rfl, H⟩)))
    | (show Vc _ _ _ _ _ _; first
      | refine Vc.seq ?_
      | refine Vc.region ?_
      | refine Vc.condT rfl ?_
      | refine Vc.ret ?_
      | refine Vc.block ?_)
    | (show KSeq _ _ _ _ _ _ _; first
      | refine KSeq.normal ?_
      | refine KSeq.ret ?_)
    | (show KBlock _ _ _ _ _ _; refine KBlock.ret ?_)
    | (show KEnd _ _ _ _ _ _ _; refine KEnd.fin (Or.inr rfl) ⟨_, (ResL.tmp rfl ResL.nil), ?_⟩))
  all_goals exact ⟨rfl, H⟩
theorem OpenN_any (H : Holds I w L) {x : Value} (hN : NoE I L x) : Rets Try.prog F_stream_End_Open #[x] w fun u w' => u = .int .i64 7 ∧ Holds I w' L := by
  refine ok_stream_End_Open.rets rfl ?_
  repeat' (first
    | (show VcL _ _ _ _ _ _ _ _; first
      | refine VcL.pures tabOk rfl ?_
      | refine VcL.nil ?_
      | (show VcL _ _ _ _ (⟨_, .call ⟨.value (.func F_stream_End_begin), _, _⟩, _, _, _, _⟩ :: _) _ _ _; (refine VcL.callF ok_stream_End_begin rfl rfl rfl rfl (Rets.mono (beginN_any H hN 2) ?_); rintro _ w ⟨rfl, H⟩)))
    | (show Vc _ _ _ _ _ _; first
      | refine Vc.seq ?_
      | refine Vc.region ?_
      | refine Vc.ret ?_)
    | (show KSeq _ _ _ _ _ _ _; refine KSeq.normal ?_)
    | (show KEnd _ _ _ _ _ _ _; refine KEnd.fin (Or.inr rfl) ⟨_, (ResL.tmp rfl ResL.nil), ?_⟩))
  all_goals exact ⟨rfl, H⟩
theorem ListenN_any (H : Holds I w L) {x : Value} (hN : NoE I L x) : Rets Try.prog F_stream_End_Listen #[x] w fun u w' => u = .int .i64 7 ∧ Holds I w' L := by
  refine ok_stream_End_Listen.rets rfl ?_
  repeat' (first
    | (show VcL _ _ _ _ _ _ _ _; first
      | refine VcL.pures tabOk rfl ?_
      | refine VcL.nil ?_
      | (show VcL _ _ _ _ (⟨_, .call ⟨.value (.func F_stream_End_begin), _, _⟩, _, _, _, _⟩ :: _) _ _ _; (refine VcL.callF ok_stream_End_begin rfl rfl rfl rfl (Rets.mono (beginN_any H hN 1) ?_); rintro _ w ⟨rfl, H⟩)))
    | (show Vc _ _ _ _ _ _; first
      | refine Vc.seq ?_
      | refine Vc.region ?_
      | refine Vc.ret ?_)
    | (show KSeq _ _ _ _ _ _ _; refine KSeq.normal ?_)
    | (show KEnd _ _ _ _ _ _ _; refine KEnd.fin (Or.inr rfl) ⟨_, (ResL.tmp rfl ResL.nil), ?_⟩))
  all_goals exact ⟨rfl, H⟩
theorem askedN_any (H : Holds I w L) {x : Value} (hN : NoE I L x) : Rets Try.prog F_stream_End_asked #[x] w fun u w' => u = .int .i64 7 ∧ Holds I w' L := by
  refine ok_stream_End_asked.rets rfl ?_
  repeat' (first
    | (show VcL _ _ _ _ _ _ _ _; first
      | refine VcL.pures tabOk rfl ?_
      | refine VcL.nil ?_
      | (show VcL _ _ _ _ (⟨_, .call ⟨.value (.func F_stream_End_none), _, _⟩, _, _, _, _⟩ :: _) _ _ _; (refine VcL.callF ok_stream_End_none rfl rfl rfl rfl (Rets.mono (hN.go H) ?_); rintro _ w ⟨rfl, H⟩)))
    | (show Vc _ _ _ _ _ _; first
      | refine Vc.seq ?_
      | refine Vc.region ?_
      | refine Vc.condT rfl ?_
      | refine Vc.ret ?_
      | refine Vc.block ?_)
    | (show KSeq _ _ _ _ _ _ _; first
      | refine KSeq.normal ?_
      | refine KSeq.ret ?_)
    | (show KBlock _ _ _ _ _ _; refine KBlock.ret ?_)
    | (show KEnd _ _ _ _ _ _ _; refine KEnd.fin (Or.inr rfl) ⟨_, (ResL.tmp rfl ResL.nil), ?_⟩))
  all_goals exact ⟨rfl, H⟩
theorem PutN_any (H : Holds I w L) {x : Value} (hN : NoE I L x) {v : Value} {b : Bool} : Rets Try.prog F_stream_End_Put #[x, v, .bool b] w fun u w' => u = .int .i64 7 ∧ Holds I w' L := by
  refine ok_stream_End_Put.rets rfl ?_
  repeat' (first
    | (show VcL _ _ _ _ _ _ _ _; first
      | refine VcL.pures tabOk rfl ?_
      | refine VcL.nil ?_
      | (show VcL _ _ _ _ (⟨_, .call ⟨.value (.func F_stream_End_asked), _, _⟩, _, _, _, _⟩ :: _) _ _ _; (refine VcL.callF ok_stream_End_asked rfl rfl rfl rfl (Rets.mono (askedN_any H hN) ?_); rintro _ w ⟨rfl, H⟩)))
    | (show Vc _ _ _ _ _ _; first
      | refine Vc.seq ?_
      | refine Vc.region ?_
      | refine Vc.condT rfl ?_
      | refine Vc.ret ?_)
    | (show KSeq _ _ _ _ _ _ _; first
      | refine KSeq.normal ?_
      | refine KSeq.ret ?_)
    | (show KEnd _ _ _ _ _ _ _; refine KEnd.fin (Or.inr rfl) ⟨_, (ResL.tmp rfl ResL.nil), ?_⟩))
  all_goals exact ⟨rfl, H⟩
theorem ResetN_any (H : Holds I w L) {x : Value} (hN : NoE I L x) : Rets Try.prog F_stream_End_Reset #[x] w fun u w' => u = .int .i64 7 ∧ Holds I w' L := by
  refine ok_stream_End_Reset.rets rfl ?_
  repeat' (first
    | (show VcL _ _ _ _ _ _ _ _; first
      | refine VcL.pures tabOk rfl ?_
      | refine VcL.nil ?_
      | (show VcL _ _ _ _ (⟨_, .call ⟨.value (.func F_stream_End_asked), _, _⟩, _, _, _, _⟩ :: _) _ _ _; (refine VcL.callF ok_stream_End_asked rfl rfl rfl rfl (Rets.mono (askedN_any H hN) ?_); rintro _ w ⟨rfl, H⟩)))
    | (show Vc _ _ _ _ _ _; first
      | refine Vc.seq ?_
      | refine Vc.region ?_
      | refine Vc.condT rfl ?_
      | refine Vc.ret ?_)
    | (show KSeq _ _ _ _ _ _ _; first
      | refine KSeq.normal ?_
      | refine KSeq.ret ?_)
    | (show KEnd _ _ _ _ _ _ _; refine KEnd.fin (Or.inr rfl) ⟨_, (ResL.tmp rfl ResL.nil), ?_⟩))
  all_goals exact ⟨rfl, H⟩
theorem AttendN_any (H : Holds I w L) {x : Value} (hN : NoE I L x) {v : Value} : Rets Try.prog F_stream_End_Attend #[x, v] w fun u w' => u = .int .i64 7 ∧ Holds I w' L := by
  refine ok_stream_End_Attend.rets rfl ?_
  repeat' (first
    | (show VcL _ _ _ _ _ _ _ _; first
      | refine VcL.pures tabOk rfl ?_
      | refine VcL.nil ?_
      | (show VcL _ _ _ _ (⟨_, .call ⟨.value (.func F_stream_End_asked), _, _⟩, _, _, _, _⟩ :: _) _ _ _; (refine VcL.callF ok_stream_End_asked rfl rfl rfl rfl (Rets.mono (askedN_any H hN) ?_); rintro _ w ⟨rfl, H⟩)))
    | (show Vc _ _ _ _ _ _; first
      | refine Vc.seq ?_
      | refine Vc.region ?_
      | refine Vc.condT rfl ?_
      | refine Vc.ret ?_)
    | (show KSeq _ _ _ _ _ _ _; first
      | refine KSeq.normal ?_
      | refine KSeq.ret ?_)
    | (show KEnd _ _ _ _ _ _ _; refine KEnd.fin (Or.inr rfl) ⟨_, (ResL.tmp rfl ResL.nil), ?_⟩))
  all_goals exact ⟨rfl, H⟩
theorem CloseN_any (H : Holds I w L) {x : Value} (hN : NoE I L x) : Rets Try.prog F_stream_End_Close #[x] w fun u w' => u = .tuple #[.agg #[.int .i64 0, .int .i64 0, .int .i64 0, .int .i64 0, .slice none 0 0], .int .i64 7] ∧ Holds I w' L := by
  refine ok_stream_End_Close.rets rfl ?_
  repeat' (first
    | (show VcL _ _ _ _ _ _ _ _; first
      | refine VcL.pures tabOk rfl ?_
      | refine VcL.nil ?_
      | refine VcL.alloc tabOk H rfl rfl rfl rfl (fun b w H => ?_)
      | (show VcL _ _ _ _ (⟨_, .store _ _ _, _, _, _, _⟩ :: _) _ _ _; refine VcL.store tabOk rfl (by exact H) rfl rfl (by exact rfl) (by exact rfl) (by exact rfl) (by exact rfl) (fun w H => ?_))
      | (show VcL _ _ _ _ (⟨_, .call ⟨.value (.func F_stream_End_asked), _, _⟩, _, _, _, _⟩ :: _) _ _ _; (refine VcL.callF ok_stream_End_asked rfl rfl rfl rfl (Rets.mono (askedN_any H hN.up) ?_); rintro _ w ⟨rfl, H⟩)))
    | (show Vc _ _ _ _ _ _; first
      | refine Vc.seq ?_
      | refine Vc.region ?_
      | refine Vc.condT rfl ?_
      | refine Vc.ret ?_)
    | (show KSeq _ _ _ _ _ _ _; first
      | refine KSeq.normal ?_
      | refine KSeq.ret ?_)
    | (show KEnd _ _ _ _ _ _ _; refine KEnd.fin (Or.inr rfl) ⟨_, (ResL.cell rfl (LoadV.aggH tabOk rfl rfl (by exact H) (by exact rfl)) (ResL.tmp rfl ResL.nil)), ?_⟩))
  all_goals exact ⟨rfl, Holds.drop H⟩
theorem ReadN_any (H : Holds I w L) {x : Value} (hN : NoE I L x) (n : Int) : Rets Try.prog F_stream_End_Read #[x, .int .i64 n] w fun u w' => u = .tuple #[.slice none 0 0, .bool false, .int .i64 7] ∧ Holds I w' L := by
  refine ok_stream_End_Read.rets rfl ?_
  repeat' (first
    | (show VcL _ _ _ _ _ _ _ _; first
      | refine VcL.pures tabOk rfl ?_
      | refine VcL.nil ?_
      | (show VcL _ _ _ _ (⟨_, .call ⟨.value (.func F_stream_End_none), _, _⟩, _, _, _, _⟩ :: _) _ _ _; (refine VcL.callF ok_stream_End_none rfl rfl rfl rfl (Rets.mono (hN.go H) ?_); rintro _ w ⟨rfl, H⟩)))
    | (show Vc _ _ _ _ _ _; first
      | refine Vc.seq ?_
      | refine Vc.region ?_
      | refine Vc.condT rfl ?_
      | refine Vc.ret ?_
      | refine Vc.block ?_)
    | (show KSeq _ _ _ _ _ _ _; first
      | refine KSeq.normal ?_
      | refine KSeq.ret ?_)
    | (show KBlock _ _ _ _ _ _; refine KBlock.ret ?_)
    | (show KEnd _ _ _ _ _ _ _; refine KEnd.fin (Or.inr rfl) ⟨_, (ResL.tmp rfl (ResL.tmp rfl (ResL.tmp rfl ResL.nil))), ?_⟩))
  all_goals exact ⟨rfl, H⟩
theorem TakeN_any (H : Holds I w L) {x : Value} (hN : NoE I L x) {f : Fr} {A : Option Addr} {k c : Nat} : Rets Try.prog F_stream_End_Take #[x, frV f (.slice A k c)] w fun u w' => u = .tuple #[.slice none 0 0, .int .i64 7] ∧ Holds I w' L := by
  refine ok_stream_End_Take.rets rfl ?_
  repeat' (first
    | (show VcL _ _ _ _ _ _ _ _; first
      | refine VcL.pures tabOk rfl ?_
      | refine VcL.nil ?_
      | refine VcL.box H rfl rfl rfl rfl rfl (fun b w H => ?_)
      | (show VcL _ _ _ _ (⟨_, .call ⟨.value (.func F_stream_End_none), _, _⟩, _, _, _, _⟩ :: _) _ _ _; (refine VcL.callF ok_stream_End_none rfl rfl rfl rfl (Rets.mono (hN.up.go H) ?_); rintro _ w ⟨rfl, H⟩)))
    | (show Vc _ _ _ _ _ _; first
      | refine Vc.seq ?_
      | refine Vc.region ?_
      | refine Vc.condT rfl ?_
      | refine Vc.ret ?_
      | refine Vc.block ?_)
    | (show KSeq _ _ _ _ _ _ _; first
      | refine KSeq.normal ?_
      | refine KSeq.ret ?_)
    | (show KBlock _ _ _ _ _ _; refine KBlock.ret ?_)
    | (show KEnd _ _ _ _ _ _ _; refine KEnd.fin (Or.inr rfl) ⟨_, (ResL.tmp rfl (ResL.tmp rfl ResL.nil)), ?_⟩))
  all_goals exact ⟨rfl, Holds.drop H⟩
theorem TickN_any (H : Holds I w L) {x : Value} (hN : NoE I L x) : Rets Try.prog F_stream_End_Tick #[x] w fun u w' => u = .tuple #[.slice none 0 0, .int .i64 7] ∧ Holds I w' L := by
  refine ok_stream_End_Tick.rets rfl ?_
  repeat' (first
    | (show VcL _ _ _ _ _ _ _ _; first
      | refine VcL.pures tabOk rfl ?_
      | refine VcL.nil ?_
      | (show VcL _ _ _ _ (⟨_, .call ⟨.value (.func F_stream_End_none), _, _⟩, _, _, _, _⟩ :: _) _ _ _; (refine VcL.callF ok_stream_End_none rfl rfl rfl rfl (Rets.mono (hN.go H) ?_); rintro _ w ⟨rfl, H⟩)))
    | (show Vc _ _ _ _ _ _; first
      | refine Vc.seq ?_
      | refine Vc.region ?_
      | refine Vc.condT rfl ?_
      | refine Vc.ret ?_)
    | (show KSeq _ _ _ _ _ _ _; first
      | refine KSeq.normal ?_
      | refine KSeq.ret ?_)
    | (show KEnd _ _ _ _ _ _ _; refine KEnd.fin (Or.inr rfl) ⟨_, (ResL.tmp rfl (ResL.tmp rfl ResL.nil)), ?_⟩))
  all_goals exact ⟨rfl, H⟩
theorem AttentionN_any (H : Holds I w L) {x : Value} (hN : NoE I L x) : Rets Try.prog F_stream_End_Attention #[x] w fun u w' => u = .slice none 0 0 ∧ Holds I w' L := by
  refine ok_stream_End_Attention.rets rfl ?_
  repeat' (first
    | (show VcL _ _ _ _ _ _ _ _; first
      | refine VcL.pures tabOk rfl ?_
      | refine VcL.nil ?_
      | (show VcL _ _ _ _ (⟨_, .call ⟨.value (.func F_stream_End_none), _, _⟩, _, _, _, _⟩ :: _) _ _ _; (refine VcL.callF ok_stream_End_none rfl rfl rfl rfl (Rets.mono (hN.go H) ?_); rintro _ w ⟨rfl, H⟩)))
    | (show Vc _ _ _ _ _ _; first
      | refine Vc.seq ?_
      | refine Vc.region ?_
      | refine Vc.condT rfl ?_
      | refine Vc.ret ?_)
    | (show KSeq _ _ _ _ _ _ _; first
      | refine KSeq.normal ?_
      | refine KSeq.ret ?_)
    | (show KEnd _ _ _ _ _ _ _; refine KEnd.fin (Or.inr rfl) ⟨_, (ResL.tmp rfl ResL.nil), ?_⟩))
  all_goals exact ⟨rfl, H⟩
theorem StateN_any (H : Holds I w L) {x : Value} (hN : NoE I L x) : Rets Try.prog F_stream_End_State #[x] w fun u w' => u = .int .i64 0 ∧ Holds I w' L := by
  refine ok_stream_End_State.rets rfl ?_
  repeat' (first
    | (show VcL _ _ _ _ _ _ _ _; first
      | refine VcL.pures tabOk rfl ?_
      | refine VcL.nil ?_
      | (show VcL _ _ _ _ (⟨_, .call ⟨.value (.func F_stream_End_none), _, _⟩, _, _, _, _⟩ :: _) _ _ _; (refine VcL.callF ok_stream_End_none rfl rfl rfl rfl (Rets.mono (hN.go H) ?_); rintro _ w ⟨rfl, H⟩)))
    | (show Vc _ _ _ _ _ _; first
      | refine Vc.seq ?_
      | refine Vc.region ?_
      | refine Vc.condT rfl ?_
      | refine Vc.ret ?_)
    | (show KSeq _ _ _ _ _ _ _; first
      | refine KSeq.normal ?_
      | refine KSeq.ret ?_)
    | (show KEnd _ _ _ _ _ _ _; refine KEnd.fin (Or.inr rfl) ⟨_, (ResL.tmp rfl ResL.nil), ?_⟩))
  all_goals exact ⟨rfl, H⟩
theorem WaitingN_any (H : Holds I w L) {x : Value} (hN : NoE I L x) : Rets Try.prog F_stream_End_Waiting #[x] w fun u w' => u = .int .i64 0 ∧ Holds I w' L := by
  refine ok_stream_End_Waiting.rets rfl ?_
  repeat' (first
    | (show VcL _ _ _ _ _ _ _ _; first
      | refine VcL.pures tabOk rfl ?_
      | refine VcL.nil ?_
      | (show VcL _ _ _ _ (⟨_, .call ⟨.value (.func F_stream_End_none), _, _⟩, _, _, _, _⟩ :: _) _ _ _; (refine VcL.callF ok_stream_End_none rfl rfl rfl rfl (Rets.mono (hN.go H) ?_); rintro _ w ⟨rfl, H⟩)))
    | (show Vc _ _ _ _ _ _; first
      | refine Vc.seq ?_
      | refine Vc.region ?_
      | refine Vc.condT rfl ?_
      | refine Vc.ret ?_)
    | (show KSeq _ _ _ _ _ _ _; first
      | refine KSeq.normal ?_
      | refine KSeq.ret ?_)
    | (show KEnd _ _ _ _ _ _ _; refine KEnd.fin (Or.inr rfl) ⟨_, (ResL.tmp rfl ResL.nil), ?_⟩))
  all_goals exact ⟨rfl, H⟩
theorem ReadyN_any (H : Holds I w L) {x : Value} (hN : NoE I L x) : Rets Try.prog F_stream_End_Ready #[x] w fun u w' => u = .int .i64 0 ∧ Holds I w' L := by
  refine ok_stream_End_Ready.rets rfl ?_
  repeat' (first
    | (show VcL _ _ _ _ _ _ _ _; first
      | refine VcL.pures tabOk rfl ?_
      | refine VcL.nil ?_
      | (show VcL _ _ _ _ (⟨_, .call ⟨.value (.func F_stream_End_none), _, _⟩, _, _, _, _⟩ :: _) _ _ _; (refine VcL.callF ok_stream_End_none rfl rfl rfl rfl (Rets.mono (hN.go H) ?_); rintro _ w ⟨rfl, H⟩)))
    | (show Vc _ _ _ _ _ _; first
      | refine Vc.seq ?_
      | refine Vc.region ?_
      | refine Vc.condT rfl ?_
      | refine Vc.ret ?_)
    | (show KSeq _ _ _ _ _ _ _; first
      | refine KSeq.normal ?_
      | refine KSeq.ret ?_)
    | (show KEnd _ _ _ _ _ _ _; refine KEnd.fin (Or.inr rfl) ⟨_, (ResL.tmp rfl ResL.nil), ?_⟩))
  all_goals exact ⟨rfl, H⟩
theorem CopyN_any (H : Holds I w L) {x : Value} (hN : NoE I L x) : Rets Try.prog F_stream_End_Copy #[x] w fun u w' => u = .pointer none ∧ Holds I w' L := by
  refine ok_stream_End_Copy.rets rfl ?_
  repeat' (first
    | (show VcL _ _ _ _ _ _ _ _; first
      | refine VcL.pures tabOk rfl ?_
      | refine VcL.nil ?_
      | (show VcL _ _ _ _ (⟨_, .call ⟨.value (.func F_stream_End_none), _, _⟩, _, _, _, _⟩ :: _) _ _ _; (refine VcL.callF ok_stream_End_none rfl rfl rfl rfl (Rets.mono (hN.go H) ?_); rintro _ w ⟨rfl, H⟩)))
    | (show Vc _ _ _ _ _ _; first
      | refine Vc.seq ?_
      | refine Vc.region ?_
      | refine Vc.condT rfl ?_
      | refine Vc.ret ?_)
    | (show KSeq _ _ _ _ _ _ _; first
      | refine KSeq.normal ?_
      | refine KSeq.ret ?_)
    | (show KEnd _ _ _ _ _ _ _; refine KEnd.fin (Or.inr rfl) ⟨_, (ResL.tmp rfl ResL.nil), ?_⟩))
  all_goals exact ⟨rfl, H⟩
def sameF (a b : Fr) : Bool := decide (a.kind = b.kind ∧ a.id = b.id ∧ a.seq = b.seq ∧ a.n = b.n ∧ a.data = b.data)
theorem SameFrame_any (H : Holds I w L) {a b : Fr} {va vb : Value} (ha : SlI I va 1 a.data.length (byL a.data)) (hb : SlI I vb 1 b.data.length (byL b.data)) :
    Rets Try.prog F_tithingref12_SameFrame #[frV a va, frV b vb] w fun u w' => u = .bool (sameF a b) ∧ Holds I w' L := by
  obtain ⟨A, ca, rfl, _⟩ := ha.form
  obtain ⟨B, cb, rfl, _⟩ := hb.form
  obtain ⟨k1, i1, q1, n1, d1⟩ := a
  obtain ⟨k2, i2, q2, n2, d2⟩ := b
  dsimp only at ha hb
  show Rets Try.prog F_tithingref12_SameFrame #[.agg #[.int .i64 k1, .int .i64 i1, .int .i64 q1, .int .i64 n1, .slice A d1.length ca], .agg #[.int .i64 k2, .int .i64 i2, .int .i64 q2, .int .i64 n2, .slice B d2.length cb]] w _
  have hsame : ∀ r : Bool, (r = true ↔ (k1 = k2 ∧ i1 = i2 ∧ q1 = q2 ∧ n1 = n2 ∧ d1 = d2)) → Value.bool r = Value.bool (sameF ⟨k1, i1, q1, n1, d1⟩ ⟨k2, i2, q2, n2, d2⟩) := fun r h => by
    congr 1
    unfold sameF
    rw [Bool.eq_iff_iff, decide_eq_true_eq]
    exact h
  refine ok_tithingref12_SameFrame.rets rfl ?_
  repeat' (first
    | (refine VcL.ofBytes (m := d1.length) (bs := d1) tabOk rfl rfl rfl rfl rfl rfl rfl (SlR.src ha.toR H) ⟨_, _, rfl⟩ rfl rfl rfl ?_)
    | (refine VcL.ofBytes (m := d2.length) (bs := d2) tabOk rfl rfl rfl rfl rfl rfl rfl (SlR.src hb.toR H) ⟨_, _, rfl⟩ rfl rfl rfl ?_)
    | rw [ofBytes_eq]
    | (show VcL _ _ _ _ _ _ _ _; first
      | refine VcL.pures tabOk rfl ?_
      | refine VcL.nil ?_
      | (show VcL _ _ _ _ (⟨_, .load _ _, _, _, _, _⟩ :: _) _ _ _; refine VcL.load1 tabOk rfl rfl rfl rfl rfl (by first | exact Holds.cell H rfl | exact Holds.cell (Holds.f1 H) rfl) ?_)
      | refine VcL.box H rfl rfl rfl rfl rfl (fun b w H => ?_)
      | (refine VcL.guard rfl rfl rfl rfl (fun h => ?_) (fun h => ?_) <;> first | (cases h; done) | (with_reducible have hp := of_decide_eq_true h) | (with_reducible have hp := of_decide_eq_false h) | skip))
    | (show Vc _ _ _ _ _ _; first
      | refine Vc.seq ?_
      | refine Vc.region ?_
      | refine Vc.ret ?_)
    | (show KSeq _ _ _ _ _ _ _; refine KSeq.normal ?_)
    | (show KEnd _ _ _ _ _ _ _; refine KEnd.fin (Or.inr rfl) ⟨_, (ResL.tmp rfl ResL.nil), ?_⟩))
  all_goals (have H0 := H; clear H; have H : Holds I w L := (by first | exact Holds.drop (Holds.drop H0)))
  all_goals first
    | exact ⟨hsame _ ⟨fun hh => ⟨by omega, by omega, by omega, by omega, of_decide_eq_true hh⟩, fun hh => decide_eq_true hh.2.2.2.2⟩, H⟩
    | exact ⟨hsame _ ⟨fun hh => (by cases hh), fun hh => (by exfalso; obtain ⟨a, b, c, d, e⟩ := hh; omega)⟩, H⟩
def v1 (x : Value) : List Value := [x]
theorem v1_len (x : Value) : (v1 x).length = 1 := rfl
def zeroE : List Value := [.int .i64 0, .int .i64 0, .int .i64 0, .int .i64 0, .int .i64 0, .slice none 0 0, .slice none 0 0, .int .i64 0, .int .i64 0, .slice none 0 0, .slice none 0 0, .bool false, .int .i64 0, .slice none 0 0, .bool false, .int .i64 0, .int .i64 0, .slice none 0 0, .int .i64 0, .int .i64 0]
theorem StreamNils_any (H : Holds I w L) {n : Int} {f : Fr} {dv : Value} (hdv : SlI I dv 1 f.data.length (byL f.data)) (hlen : f.data.length ≤ 140737488355328) : Rets Try.prog F_tithinglaw12_StreamNils #[.int .i64 n, frV f dv] w fun u w' => u = .bool true ∧ Holds I w' L := by
  obtain ⟨A, cap, rfl, hcap⟩ := hdv.form
  obtain ⟨kind, id, seq, nn, data⟩ := f
  dsimp only at hdv hlen hcap
  show Rets Try.prog F_tithinglaw12_StreamNils #[.int .i64 n, .agg #[.int .i64 kind, .int .i64 id, .int .i64 seq, .int .i64 nn, .slice A data.length cap]] w _
  by_cases h200 : 200 < data.length
  ·
    refine ok_tithinglaw12_StreamNils.rets rfl ?_
    repeat' (first
      | (show VcL _ _ _ _ _ _ _ _; first
      | refine VcL.pures tabOk rfl ?_
      | refine VcL.nil ?_
      | (show VcL _ _ _ _ (⟨_, .load _ _, _, _, _, _⟩ :: _) _ _ _; refine VcL.load1 tabOk rfl rfl rfl rfl rfl (by exact Holds.cell H rfl) ?_)
      | refine VcL.box H rfl rfl rfl rfl rfl (fun b w H => ?_)
      | (show VcL _ _ _ _ (⟨_, .call ⟨.value (.func F_tithinglaw12_Awake), _, _⟩, _, _, _, _⟩ :: _) _ _ _; (refine VcL.callF ok_tithinglaw12_Awake rfl rfl rfl rfl (Rets.mono (Awake_any H) ?_); rintro _ w ⟨rfl, H⟩)))
      | (show Vc _ _ _ _ _ _; first
      | refine Vc.seq ?_
      | refine Vc.region ?_
      | refine Vc.ret ?_
      | (refine Vc.cond rfl (fun h => ?_) (fun h => ?_) <;> first | (exfalso; simp only [decide_eq_true_eq, decide_eq_false_iff_not, Bool.not_eq_true', Bool.not_eq_false'] at h; omega) | (with_reducible have hp := of_decide_eq_true h)))
      | (show KSeq _ _ _ _ _ _ _; first
      | refine KSeq.normal ?_
      | refine KSeq.ret ?_)
      | (show KEnd _ _ _ _ _ _ _; refine KEnd.fin (Or.inr rfl) ⟨_, (ResL.tmp rfl ResL.nil), ?_⟩))
    exact ⟨rfl, H.drop⟩
  ·
    refine ok_tithinglaw12_StreamNils.rets rfl ?_
    repeat' (first
      | (show VcL _ _ _ _ (⟨_, .box 24 _, _, _, _, _⟩ :: _) _ _ _; refine VcL.box H rfl rfl rfl rfl rfl (fun fb w H => ?_))
      | (show VcL _ _ _ _ _ _ _ _; first
      | refine VcL.pures tabOk rfl ?_
      | refine VcL.nil ?_
      | (show VcL _ _ _ _ (⟨_, .load _ _, _, _, _, _⟩ :: _) _ _ _; refine VcL.load1 tabOk rfl rfl rfl rfl rfl (by exact Holds.cell H rfl) ?_)
      | refine VcL.box H rfl rfl rfl rfl rfl (fun b w H => ?_)
      | refine VcL.buildSlice tabOk H rfl rfl rfl rfl rfl rfl (fun sv w H => ?_))
      | (show Vc _ _ _ _ _ _; first
      | refine Vc.seq ?_
      | refine Vc.region ?_
      | refine Vc.skip ?_
      | refine Vc.block ?_
      | (refine Vc.cond rfl (fun h => ?_) (fun h => ?_) <;> first | (exfalso; simp only [decide_eq_true_eq, decide_eq_false_iff_not, Bool.not_eq_true', Bool.not_eq_false'] at h; omega) | (with_reducible have hp := of_decide_eq_false h)))
      | (show KSeq _ _ _ _ _ _ _; refine KSeq.normal ?_))
    obtain ⟨xs, hxs⟩ : ∃ xs : List Value, [.pointer none, ptr b] = xs := ⟨_, rfl⟩
    have hxl : xs.length = 2 := by rw [← hxs]; rfl
    have H : Holds I w (own sv 36 1 2 (xs.flatMap v1) :: blk b 56 zeroE :: blk fb 24 [.int .i64 kind, .int .i64 id, .int .i64 seq, .int .i64 nn, .slice A data.length cap] :: L) := by rw [← hxs]; exact H
    obtain ⟨b1, o1, cap1, rfl, hcap1⟩ := Holds.own_some (by omega) H
    have hNo : ∀ k, k < 2 → NoE I (own (.slice (some ⟨b1, o1, none⟩) 2 cap1) 36 1 2 (xs.flatMap v1) :: blk b 56 zeroE :: blk fb 24 [.int .i64 kind, .int .i64 id, .int .i64 seq, .int .i64 nn, .slice A data.length cap] :: L) (atD xs k) := fun k hk => by
      rw [← hxs]
      match k, hk with
      | 0, _ => exact NoE.nil
      | 1, _ => exact NoE.up (NoE.zero (RdW.one (Holds.toW (cs := zeroE)) (k := 0) rfl |> fun h => h))
    refine Vc.loopS [(0, _), (3, _), (5, _)] (fun k : Nat => [(6, .int .i64 k)]) (fun k w => k ≤ 2 ∧ Holds I w (own (.slice (some ⟨b1, o1, none⟩) 2 cap1) 36 1 2 (xs.flatMap v1) :: blk b 56 zeroE :: blk fb 24 [.int .i64 kind, .int .i64 id, .int .i64 seq, .int .i64 nn, .slice A data.length cap] :: L)) (fun k _ => 2 - k) 0 ⟨rfl, trivial⟩ ⟨rfl, rfl, rfl, trivial⟩ ⟨Nat.zero_le _, H⟩ ?_
    clear H
    rintro k w ⟨hk, H⟩
    by_cases hlt : k < 2
    · have hN := hNo k hlt
      have hz : xs[k]? = some (atD xs k) := atD_get (by omega)
      obtain ⟨x, hx⟩ : ∃ x, atD xs k = x := ⟨_, rfl⟩
      rw [hx] at hN hz
      repeat' (first
        | (show VcL _ _ _ _ _ _ _ _; first
      | refine VcL.pures tabOk rfl ?_
      | refine VcL.nil ?_
      | (show VcL _ _ _ _ (⟨_, .load _ _, _, _, _, _⟩ :: _) _ _ _; first
      | refine VcL.load1 tabOk rfl rfl rfl rfl rfl (by first | exact Holds.cell H rfl | exact Holds.cell (Holds.f2 H) rfl | exact Holds.cell (Holds.f3 H) rfl | exact Holds.ownCell0 H (fun _ => rfl) (by assumption) rfl) ?_
      | refine VcL.loadN tabOk rfl rfl rfl rfl rfl rfl (by first | exact H | exact (Holds.f2 H)) (by exact rfl) ?_)
      | (show VcL _ _ _ _ (⟨_, .indexAddr _ _ _, _, _, _, _⟩ :: _) _ _ _; refine VcL.indexAddr tabOk rfl rfl rfl rfl rfl rfl (by omega) (by omega) ?_)
      | refine VcL.alloc tabOk H rfl rfl rfl rfl (fun b w H => ?_)
      | (show VcL _ _ _ _ (⟨_, .store _ _ _, _, _, _, _⟩ :: _) _ _ _; refine VcL.store tabOk rfl (by exact H) rfl rfl (by exact rfl) (by exact rfl) (by exact rfl) (by exact rfl) (fun w H => ?_))
      | (show VcL _ _ _ _ (⟨_, .call ⟨.value (.func F_stream_End_Read), _, _⟩, _, _, _, _⟩ :: _) _ _ _; (refine VcL.callF ok_stream_End_Read rfl rfl rfl rfl (Rets.mono (ReadN_any H hN n) ?_); rintro _ w ⟨rfl, H⟩))
      | (show VcL _ _ _ _ (⟨_, .call ⟨.value (.func F_stream_End_Take), _, _⟩, _, _, _, _⟩ :: _) _ _ _; (refine VcL.callF ok_stream_End_Take rfl rfl rfl rfl (Rets.mono (TakeN_any (f := ⟨kind, id, seq, nn, data⟩) H hN) ?_); rintro _ w ⟨rfl, H⟩))
      | (show VcL _ _ _ _ (⟨_, .call ⟨.value (.func F_stream_End_Tick), _, _⟩, _, _, _, _⟩ :: _) _ _ _; (refine VcL.callF ok_stream_End_Tick rfl rfl rfl rfl (Rets.mono (TickN_any H hN) ?_); rintro _ w ⟨rfl, H⟩))
      | (show VcL _ _ _ _ (⟨_, .call ⟨.value (.func F_stream_End_Close), _, _⟩, _, _, _, _⟩ :: _) _ _ _; (refine VcL.callF ok_stream_End_Close rfl rfl rfl rfl (Rets.mono (CloseN_any H hN) ?_); rintro _ w ⟨rfl, H⟩))
      | (show VcL _ _ _ _ (⟨_, .call ⟨.value (.func F_stream_End_Open), _, _⟩, _, _, _, _⟩ :: _) _ _ _; (refine VcL.callF ok_stream_End_Open rfl rfl rfl rfl (Rets.mono (OpenN_any H hN.up) ?_); rintro _ w ⟨rfl, H⟩))
      | (show VcL _ _ _ _ (⟨_, .call ⟨.value (.func F_stream_End_Listen), _, _⟩, _, _, _, _⟩ :: _) _ _ _; (refine VcL.callF ok_stream_End_Listen rfl rfl rfl rfl (Rets.mono (ListenN_any H hN.up) ?_); rintro _ w ⟨rfl, H⟩))
      | (show VcL _ _ _ _ (⟨_, .call ⟨.value (.func F_stream_End_Put), _, _⟩, _, _, _, _⟩ :: _) _ _ _; (refine VcL.callF ok_stream_End_Put rfl rfl rfl rfl (Rets.mono (PutN_any H hN.up) ?_); rintro _ w ⟨rfl, H⟩))
      | (show VcL _ _ _ _ (⟨_, .call ⟨.value (.func F_stream_End_Reset), _, _⟩, _, _, _, _⟩ :: _) _ _ _; (refine VcL.callF ok_stream_End_Reset rfl rfl rfl rfl (Rets.mono (ResetN_any H hN.up) ?_); rintro _ w ⟨rfl, H⟩))
      | (show VcL _ _ _ _ (⟨_, .call ⟨.value (.func F_stream_End_Attend), _, _⟩, _, _, _, _⟩ :: _) _ _ _; (refine VcL.callF ok_stream_End_Attend rfl rfl rfl rfl (Rets.mono (AttendN_any H hN.up) ?_); rintro _ w ⟨rfl, H⟩))
      | (show VcL _ _ _ _ (⟨_, .call ⟨.value (.func F_stream_End_Attention), _, _⟩, _, _, _, _⟩ :: _) _ _ _; (refine VcL.callF ok_stream_End_Attention rfl rfl rfl rfl (Rets.mono (AttentionN_any H hN.up) ?_); rintro _ w ⟨rfl, H⟩))
      | (show VcL _ _ _ _ (⟨_, .call ⟨.value (.func F_stream_End_State), _, _⟩, _, _, _, _⟩ :: _) _ _ _; (refine VcL.callF ok_stream_End_State rfl rfl rfl rfl (Rets.mono (StateN_any H hN.up) ?_); rintro _ w ⟨rfl, H⟩))
      | (show VcL _ _ _ _ (⟨_, .call ⟨.value (.func F_stream_End_Waiting), _, _⟩, _, _, _, _⟩ :: _) _ _ _; (refine VcL.callF ok_stream_End_Waiting rfl rfl rfl rfl (Rets.mono (WaitingN_any H hN.up) ?_); rintro _ w ⟨rfl, H⟩))
      | (show VcL _ _ _ _ (⟨_, .call ⟨.value (.func F_stream_End_Ready), _, _⟩, _, _, _, _⟩ :: _) _ _ _; (refine VcL.callF ok_stream_End_Ready rfl rfl rfl rfl (Rets.mono (ReadyN_any H hN.up) ?_); rintro _ w ⟨rfl, H⟩))
      | (show VcL _ _ _ _ (⟨_, .call ⟨.value (.func F_stream_End_Copy), _, _⟩, _, _, _, _⟩ :: _) _ _ _; (refine VcL.callF ok_stream_End_Copy rfl rfl rfl rfl (Rets.mono (CopyN_any H hN.up) ?_); rintro _ w ⟨rfl, H⟩))
      | (show VcL _ _ _ _ (⟨_, .call ⟨.value (.func F_tithingref12_SameFrame), _, _⟩, _, _, _, _⟩ :: _) _ _ _; (refine VcL.callF ok_tithingref12_SameFrame rfl rfl rfl rfl (Rets.mono (SameFrame_any (a := ⟨0, 0, 0, 0, []⟩) (b := ⟨0, 0, 0, 0, []⟩) H SlI.nil SlI.nil) ?_); rintro _ w ⟨rfl, H⟩; rw [show sameF ⟨0, 0, 0, 0, []⟩ ⟨0, 0, 0, 0, []⟩ = true from by decide]))
      | (refine VcL.guard rfl rfl rfl rfl (fun h => ?_) (fun h => ?_) <;> first | (cases h; done) | (with_reducible have hp := ndec_f h) | skip))
        | (show Vc _ _ _ _ _ _; first
      | refine Vc.seq ?_
      | refine Vc.region ?_
      | refine Vc.condF rfl ?_
      | refine Vc.skip ?_
      | refine Vc.block ?_
      | (refine Vc.cond rfl (fun h => ?_) (fun h => ?_) <;> first | (exfalso; simp only [decide_eq_true_eq, decide_eq_false_iff_not, Bool.not_eq_true', Bool.not_eq_false'] at h; omega) | (with_reducible have hp := of_decide_eq_true h)))
        | (show KSeq _ _ _ _ _ _ _; refine KSeq.normal ?_)
        | (show KBlock _ _ _ _ _ _; refine KBlock.normal ?_))
      exact KLoop.again (k + 1) ⟨got_succ rfl (by omega), trivial⟩ ⟨rfl, rfl, rfl, trivial⟩ ⟨hlt, Holds.drop H⟩ (by omega)
    · obtain rfl : k = 2 := by omega
      repeat' (first
        | (show VcL _ _ _ _ _ _ _ _; first
      | refine VcL.pures tabOk rfl ?_
      | refine VcL.nil ?_
      | (show VcL _ _ _ _ (⟨_, .call ⟨.value (.func F_tithinglaw12_Awake), _, _⟩, _, _, _, _⟩ :: _) _ _ _; (refine VcL.callF ok_tithinglaw12_Awake rfl rfl rfl rfl (Rets.mono (Awake_any H) ?_); rintro _ w ⟨rfl, H⟩)))
        | (show Vc _ _ _ _ _ _; first
      | refine Vc.seq ?_
      | refine Vc.region ?_
      | refine Vc.condF rfl ?_
      | refine Vc.ret ?_
      | refine Vc.exit ?_)
        | (show KSeq _ _ _ _ _ _ _; first
      | refine KSeq.normal ?_
      | refine KSeq.exit ?_)
        | (show KBlock _ _ _ _ _ _; refine KBlock.here ?_)
        | refine KLoop.exit ?_
        | (show KEnd _ _ _ _ _ _ _; refine KEnd.fin (Or.inr rfl) ⟨_, (ResL.tmp rfl ResL.nil), ?_⟩))
      exact ⟨rfl, H.drop.drop.drop⟩
theorem StreamNils_row {I : Imm} {w : World} {L : List Asn} (H : Holds I w L) (n : Int) (x : Fx) (h : FxOk I x) : Rets Try.prog F_tithinglaw12_StreamNils #[.int .i64 n, .agg (fxC x).toArray] w fun u w' => u = .bool true ∧ Holds I w' L :=
  StreamNils_any (f := x.fr) H h.data h.len
end Go.Proofs.Ytpfgcchammlpgaa.V
