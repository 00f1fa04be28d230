/- The top law on locks: its walk. -/
import Derived.Test.YtngnddnbhlbjbaaVU
namespace Go.Proofs.Ytngnddnbhlbjbaa.V
open Go Go.Proofs.YtngnddnbhlbjbaaV
set_option linter.unusedVariables false
set_option linter.unusedSimpArgs false
set_option maxHeartbeats 1000000
attribute [local irreducible] IntKind.wrap
variable {I : Imm} {w : World} {L : List Asn}
def bC (a : Int) : List Value := [.int .u8 a]
theorem bC_len (a : Int) : (bC a).length = 1 := rfl
theorem owned_start : Owned [] (List.replicate 42 0) := owned_iff.2 fun i hi => by
  rw [own_nocov (by simp)]
  unfold oAt
  rw [List.getD_eq_getElem?_getD, List.getElem?_replicate]
  split <;> rfl
theorem ok_nil : Ok [] := ⟨by simp, fun k hk => by simp at hk, fun k hk => by simp at hk⟩
abbrev ownM (v : Value) (l : List Md) : Asn := own v 35 4 l.length (l.flatMap mdC)
theorem ValidOk_any {v : Value} {l : List Sp} (H : Holds I w (ownS v l :: L)) (hok : Ok l) : Rets Try.prog F_lock_Valid #[v] w fun u w' => u = .bool true ∧ Holds I w' (ownS v l :: L) := by
  have h := Valid_any H H.own_toR (by have := hok.len; omega)
  rwa [(validS_iff l).2 hok] at h
theorem oneM (x : Md) : ∀ u ∈ mdC x, oneC u = true := by
  intro u hu
  simp only [mdC, List.mem_cons, List.not_mem_nil, or_false] at hu
  rcases hu with rfl | rfl | rfl | rfl <;> rfl
theorem own_pushM {v : Value} {l : List Md} {x : Md} (H : Holds I w (own v 35 4 (l.length + 1) (l.flatMap mdC ++ mdC x) :: L)) : Holds I w (ownM v (l ++ [x]) :: L) := by
  unfold ownM
  rw [List.length_append, List.flatMap_append]
  simpa using H
theorem firstM_none {l : List Md} {m : Md} (h : ¬ 0 ≤ firstM l m) : ∀ a ∈ l, besS a m = true := by
  intro a ha
  unfold firstM idxM at h
  split at h
  · omega
  · rename_i hf
    rw [List.findIdx?_eq_none_iff] at hf
    simpa using hf a ha
theorem besS_at {l : List Md} (h : l.Pairwise (fun a c => besS a c = true)) {c i : Nat} (hc : c < i) (hi : i < l.length) : besS (mdAt l i) (mdAt l c) = true := by
  rw [List.pairwise_iff_getElem] at h
  have e : ∀ k (hk : k < l.length), l[k] = mdAt l k := fun k hk => by
    have := mdAt_get hk
    rw [List.getElem?_eq_getElem hk] at this
    simpa using this
  have := h c i (by omega) hi hc
  rw [e c (by omega), e i hi, bes_comm] at this
  exact this
theorem TopLocks_any (H : Holds I w L) {v u z : Value} {l : List Sp} {ds : List Int} {ms : List Md} (hv : SlS I L v l) (hu : SlR I L u 1 ds.length (ds.flatMap bC)) (hz : SlM I L z ms) :
    Rets Try.prog F_tithingtop_TopLocks #[v, u, z] w fun r w' => r = .bool true ∧ Holds I w' L := by
  obtain ⟨A, cap, rfl, hcap⟩ := hv.form
  obtain ⟨B, cap2, rfl, hcap2⟩ := hu.form
  obtain ⟨C, cap3, rfl, hcap3⟩ := hz.form
  refine ok_tithingtop_TopLocks.rets rfl ?_
  repeat' (first
    | (show VcL _ _ _ _ _ _ _ _; first
      | refine VcL.pures tabOk rfl ?_
      | refine VcL.nil ?_
      | (show VcL _ _ _ _ (⟨_, .load _ _, _, _, _, _⟩ :: _) _ _ _; first
      | refine VcL.load1 tabOk rfl rfl rfl rfl rfl (by first | exact Holds.cell H rfl | exact Holds.cell (Holds.f1 H) rfl | exact Holds.cell (Holds.f2 H) rfl | exact Holds.cell (Holds.f3 H) rfl | exact Holds.cell (Holds.f4 H) rfl | exact Holds.cell (Holds.f5 H) rfl | exact Holds.cell (Holds.f6 H) rfl | exact RdW.get (by assumption) rfl H | exact RdW.get0 (by assumption) rfl H | exact RdW.get (by assumption) rfl (Holds.drop H) | exact RdW.get0 (by assumption) rfl (Holds.drop H) | exact RdW.get (by assumption) rfl (Holds.drop (Holds.drop H)) | exact RdW.get0 (by assumption) rfl (Holds.drop (Holds.drop H)) | exact RdW.get (by assumption) rfl (Holds.drop (Holds.drop (Holds.drop H))) | exact RdW.get0 (by assumption) rfl (Holds.drop (Holds.drop (Holds.drop H))) | assumption) ?_
      | refine VcL.loadR tabOk rfl rfl rfl rfl rfl rfl (by first | exact RdW.rd (by assumption) H | exact RdW.rd (by assumption) (Holds.drop H) | exact RdW.rd (by assumption) (Holds.drop (Holds.drop H)) | exact RdW.rd (by assumption) (Holds.drop (Holds.drop (Holds.drop H))) | assumption) rfl ?_
      | refine VcL.loadN tabOk rfl rfl rfl rfl rfl rfl (by first | exact H | exact (Holds.f1 H) | exact (Holds.f2 H) | exact (Holds.f3 H) | exact (Holds.f4 H) | exact (Holds.f5 H) | exact (Holds.f6 H)) (by exact rfl) ?_)
      | (show VcL _ _ _ _ (⟨_, .binOp _ _ _ _ _, _, _, _, _⟩ :: _) _ _ _; first
      | refine VcL.eqS tabOk rfl rfl rfl rfl rfl rfl (by kernel_rfl) (by kernel_rfl) rfl rfl (by first | exact .inl rfl | exact .inr rfl) ?_)
      | (show VcL _ _ _ _ (⟨_, .indexAddr _ _ _, _, _, _, _⟩ :: _) _ _ _; first
      | refine VcL.indexAddr0 tabOk rfl rfl rfl rfl rfl rfl (by omega) (by omega) ?_
      | refine VcL.indexAddr tabOk rfl rfl rfl rfl rfl rfl (by omega) (by omega) ?_
      | refine VcL.indexArr0 tabOk rfl rfl rfl rfl rfl rfl (by omega) (by omega) ?_
      | refine VcL.indexArr tabOk rfl rfl rfl rfl rfl rfl (by omega) (by omega) ?_)
      | refine VcL.alloc tabOk H rfl rfl rfl rfl (fun b w H => ?_)
      | refine VcL.buildSlice tabOk H rfl rfl rfl rfl rfl rfl (fun sv w H => ?_)
      | (show VcL _ _ _ _ (⟨_, .store _ _ _, _, _, _, _⟩ :: _) _ _ _; first
      | refine VcL.store tabOk rfl (by first | exact H | exact (Holds.f1 H) | exact (Holds.f2 H) | exact (Holds.f3 H) | exact (Holds.f4 H) | exact (Holds.f5 H) | exact (Holds.f6 H)) rfl rfl (by exact rfl) (by exact rfl) (by exact rfl) (by exact rfl) (fun w H => ?_))
      | (show VcL _ _ _ _ (⟨_, .call ⟨.value (.func F_tithinglaw20_Awake), _, _⟩, _, _, _, _⟩ :: _) _ _ _; first
      | (refine VcL.callF ok_tithinglaw20_Awake rfl rfl rfl rfl (Rets.mono (Awake_any H) ?_); rintro _ w ⟨rfl, H⟩))
      | (refine VcL.guard rfl rfl rfl rfl (fun h => ?_) (fun h => ?_) <;> first | (cases h; done) | (exfalso; simp only [decide_eq_true_eq, decide_eq_false_iff_not] at h; omega) | (with_reducible have hp := of_decide_eq_true h) | (with_reducible have hp := of_decide_eq_false h) | (with_reducible have hp := ndec_t h) | (with_reducible have hp := ndec_f h) | skip))
    | (show VcD _ _ _ _ _ _ _ _ _; first
      | refine VcD.pures tabOk (by first | exact H | exact Holds.drop H | exact Holds.drop (Holds.drop H)) rfl ?_
      | refine VcD.done ?_
      | (show VcD _ _ _ _ _ (.take _ _) _ _ _; first
      | refine VcD.load1 tabOk rfl rfl rfl rfl rfl rfl (by first | exact H | exact Holds.drop H | exact Holds.drop (Holds.drop H)) (by intro w_ hw_; first | exact Holds.cell hw_ rfl | exact Holds.cell (Holds.f1 hw_) rfl | exact Holds.cell (Holds.f2 hw_) rfl | exact Holds.cell (Holds.f3 hw_) rfl | exact Holds.cell (Holds.f4 hw_) rfl | exact Holds.cell (Holds.f5 hw_) rfl | exact Holds.cell (Holds.f6 hw_) rfl | exact RdW.get (by assumption) rfl hw_ | exact RdW.get0 (by assumption) rfl hw_ | exact RdW.get (by assumption) rfl (Holds.drop hw_) | exact RdW.get0 (by assumption) rfl (Holds.drop hw_) | exact RdW.get (by assumption) rfl (Holds.drop (Holds.drop hw_)) | exact RdW.get0 (by assumption) rfl (Holds.drop (Holds.drop hw_)) | exact RdW.get (by assumption) rfl (Holds.drop (Holds.drop (Holds.drop hw_))) | exact RdW.get0 (by assumption) rfl (Holds.drop (Holds.drop (Holds.drop hw_))) | assumption) (by exact rfl) ?_
      | refine VcD.loadR tabOk rfl rfl rfl rfl rfl rfl rfl (by first | exact H | exact Holds.drop H | exact Holds.drop (Holds.drop H)) (by intro w_ hw_; first | exact RdW.rd (by assumption) hw_ | exact RdW.rd (by assumption) (Holds.drop hw_) | exact RdW.rd (by assumption) (Holds.drop (Holds.drop hw_)) | exact RdW.rd (by assumption) (Holds.drop (Holds.drop (Holds.drop hw_))) | assumption) rfl ?_
      | refine VcD.loadN tabOk rfl rfl rfl rfl rfl rfl rfl (by first | exact H | exact Holds.drop H | exact Holds.drop (Holds.drop H)) (by intro w_ hw_; first | exact hw_ | exact (Holds.f1 hw_) | exact (Holds.f2 hw_) | exact (Holds.f3 hw_) | exact (Holds.f4 hw_) | exact (Holds.f5 hw_) | exact (Holds.f6 hw_)) (by exact rfl) ?_
      | refine VcD.indexAddr0 tabOk rfl rfl rfl rfl rfl rfl rfl (by first | exact H | exact Holds.drop H | exact Holds.drop (Holds.drop H)) (by omega) (by omega) ?_
      | refine VcD.indexAddr tabOk rfl rfl rfl rfl rfl rfl rfl (by first | exact H | exact Holds.drop H | exact Holds.drop (Holds.drop H)) (by omega) (by omega) ?_
      | refine VcD.indexArr0 tabOk rfl rfl rfl rfl rfl rfl rfl (by first | exact H | exact Holds.drop H | exact Holds.drop (Holds.drop H)) (by omega) (by omega) ?_
      | refine VcD.indexArr tabOk rfl rfl rfl rfl rfl rfl rfl (by first | exact H | exact Holds.drop H | exact Holds.drop (Holds.drop H)) (by omega) (by omega) ?_
      | (refine VcD.guardT rfl rfl rfl rfl rfl (fun h => ?_) (fun h => ?_) <;> first | (cases h; done) | (exfalso; simp only [decide_eq_true_eq, decide_eq_false_iff_not] at h; omega) | (with_reducible have hp := of_decide_eq_true h) | (with_reducible have hp := of_decide_eq_false h) | (with_reducible have hp := ndec_t h) | (with_reducible have hp := ndec_f h) | skip))
      | (show VcD _ _ _ _ _ (.only _ _) _ _ _; first
      | (refine VcD.callF (f := F_tithinglaw20_Awake) rfl ok_tithinglaw20_Awake rfl rfl rfl rfl (Rets.mono (Awake_any H) ?_); rintro _ w ⟨rfl, H⟩; refine ⟨(by first | exact H | exact Holds.drop H | exact Holds.drop (Holds.drop H)), ?_⟩)
      | refine VcD.skip rfl rfl rfl (by first | exact H | exact Holds.drop H | exact Holds.drop (Holds.drop H)) ?_
      | (refine VcD.guardO rfl rfl rfl rfl rfl (fun h => ?_) (fun h => ?_) <;> first | (cases h; done) | (exfalso; simp only [decide_eq_true_eq, decide_eq_false_iff_not] at h; omega) | (with_reducible have hp := of_decide_eq_true h) | (with_reducible have hp := of_decide_eq_false h) | (with_reducible have hp := ndec_t h) | (with_reducible have hp := ndec_f h) | skip))
      | (show VcD _ _ _ _ _ (.two _ _ _ _) _ _ _; refine VcD.two ?_ ?_))
    | (show EfO _ _ _ _ _ _ _ _ _; first
      | (refine EfO.call (f := F_tithinglaw20_Awake) rfl rfl rfl rfl (OpC.call ok_tithinglaw20_Awake rfl) (Rets.mono (Awake_any H) ?_); rintro _ w ⟨rfl, H⟩; refine ⟨(by first | exact H | exact Holds.drop H | exact Holds.drop (Holds.drop H)), ?_⟩))
    | (show Vc _ _ _ _ _ _; first
      | refine Vc.seq ?_
      | refine Vc.region ?_
      | refine Vc.condT rfl ?_
      | refine Vc.condF rfl ?_
      | refine Vc.ret ?_
      | refine Vc.skip ?_
      | refine Vc.block ?_
      | refine Vc.exit ?_
      | refine Vc.drawnH (id := 28) H (.take 0 (.take 1 (.take 4 (.take 5 (.take 2 (.take 3 (.take 6 (.take 7 (.only 8 (.take 9 (.take 10 (.take 11 (.take 12 (.take 13 (.take 14 (.take 15 (.take 16 (.take 17 (.take 18 (.take 19 (.take 20 (.take 21 (.take 22 (.take 23 (.take 24 (.take 25 (.take 26 (.take 27 (.take 28 (.take 29 (.take 30 (.take 31 (.take 32 (.take 33 (.take 34 (.take 35 (.take 36 (.take 37 .done)))))))))))))))))))))))))))))))))))))) mixed (by kernel_rfl) (fun w H => ?_)
      | (refine Vc.cond rfl (fun h => ?_) (fun h => ?_) <;> first | (cases h; done) | (exfalso; simp only [decide_eq_true_eq, decide_eq_false_iff_not] at h; omega) | (with_reducible have hp := of_decide_eq_true h) | (with_reducible have hp := of_decide_eq_false h) | (with_reducible have hp := ndec_t h) | (with_reducible have hp := ndec_f h) | skip))
    | (show KSeq _ _ _ _ _ _ _; first
      | refine KSeq.normal ?_
      | refine KSeq.ret ?_
      | refine KSeq.exit ?_)
    | (show KBlock _ _ _ _ _; first
      | refine KBlock.normal ?_
      | refine KBlock.here ?_
      | refine KBlock.on rfl ?_
      | refine KBlock.ret ?_)
    | refine KLoop.exit ?_
    | refine KLoop.ret ?_
    | refine KCut.exit ?_
    | refine KCut.ret ?_
    | (show KEnd _ _ _ _ _ _; first
      | refine KEnd.mk (Or.inr rfl) ⟨_, (ResL.tmp rfl ResL.nil), ?_⟩
      | refine KEnd.mk (Or.inl rfl) ⟨_, (ResL.tmp rfl ResL.nil), ?_⟩))
  · exact ⟨rfl, H⟩
  · exact ⟨rfl, H⟩
  · exact ⟨rfl, H⟩
  refine Vc.loopS [(0, _), (1, _), (2, _), (8, _)] (fun q : Nat × Value => [(7, q.2), (9, .int .i64 q.1)]) (fun q w => ∃ tl o, Holds I w (ownS q.2 tl :: blk b 26 (oC o) :: L) ∧ q.1 ≤ l.length ∧ Ok tl ∧ o.length = 42 ∧ Owned tl o) (fun q _ => l.length - q.1) (0, .slice none 0 0) ⟨rfl, rfl, trivial⟩ ⟨rfl, rfl, rfl, rfl, trivial⟩ ⟨[], List.replicate 42 0, H.own_nil, by omega, ok_nil, rfl, owned_start⟩ ?_
  rintro ⟨k, tv⟩ w ⟨tl, o, H, hk, hok, ho, hown⟩
  dsimp only at H hk
  by_cases hlt : k < l.length
  · obtain ⟨b2, o2, rfl, hr⟩ := hv.at (by omega)
    have hx := hr.elem spC_len (spAt_get hlt)
    have hst : ∀ (w : World) (M : List Asn) (d : Int), Holds I w (ownS tv tl :: blk b 26 (oC o) :: M) → Take (spAt l k) → Rets Try.prog F_tithingtop_lockDeed #[tv, .pointer (some ⟨b, 0, none⟩), spV (spAt l k), .int .u8 d] w fun u w' => ∃ tl2 o2, Holds I w' (ownS u tl2 :: blk b 26 (oC o2) :: M) ∧ Ok tl2 ∧ o2.length = 42 ∧ Owned tl2 o2 := fun w M d H ht =>
      (lockDeed_any H (by have := hok.len; omega) ho ht.lo (by have := ht.hi; omega) d).mono fun u w' h => ⟨_, _, h, (deed_keeps hok ho hown ht d).1, deedO_len ho, (deed_keeps hok ho hown ht d).2⟩
    repeat' (first
      | (show VcL _ _ _ _ _ _ _ _; first
      | refine VcL.pures tabOk rfl ?_
      | refine VcL.nil ?_
      | (show VcL _ _ _ _ (⟨_, .load _ _, _, _, _, _⟩ :: _) _ _ _; first
      | refine VcL.load1 tabOk rfl rfl rfl rfl rfl (by first | exact Holds.cell H rfl | exact Holds.cell (Holds.f1 H) rfl | exact Holds.cell (Holds.f2 H) rfl | exact Holds.cell (Holds.f3 H) rfl | exact Holds.cell (Holds.f4 H) rfl | exact Holds.cell (Holds.f5 H) rfl | exact Holds.cell (Holds.f6 H) rfl | exact RdW.get (by assumption) rfl H | exact RdW.get0 (by assumption) rfl H | exact RdW.get (by assumption) rfl (Holds.drop H) | exact RdW.get0 (by assumption) rfl (Holds.drop H) | exact RdW.get (by assumption) rfl (Holds.drop (Holds.drop H)) | exact RdW.get0 (by assumption) rfl (Holds.drop (Holds.drop H)) | exact RdW.get (by assumption) rfl (Holds.drop (Holds.drop (Holds.drop H))) | exact RdW.get0 (by assumption) rfl (Holds.drop (Holds.drop (Holds.drop H))) | assumption) ?_
      | refine VcL.loadR tabOk rfl rfl rfl rfl rfl rfl (by first | exact RdW.rd (by assumption) H | exact RdW.rd (by assumption) (Holds.drop H) | exact RdW.rd (by assumption) (Holds.drop (Holds.drop H)) | exact RdW.rd (by assumption) (Holds.drop (Holds.drop (Holds.drop H))) | assumption) rfl ?_
      | refine VcL.loadN tabOk rfl rfl rfl rfl rfl rfl (by first | exact H | exact (Holds.f1 H) | exact (Holds.f2 H) | exact (Holds.f3 H) | exact (Holds.f4 H) | exact (Holds.f5 H) | exact (Holds.f6 H)) (by exact rfl) ?_)
      | (show VcL _ _ _ _ (⟨_, .binOp _ _ _ _ _, _, _, _, _⟩ :: _) _ _ _; first
      | refine VcL.eqS tabOk rfl rfl rfl rfl rfl rfl (by kernel_rfl) (by kernel_rfl) rfl rfl (by first | exact .inl rfl | exact .inr rfl) ?_)
      | (show VcL _ _ _ _ (⟨_, .indexAddr _ _ _, _, _, _, _⟩ :: _) _ _ _; first
      | refine VcL.indexAddr0 tabOk rfl rfl rfl rfl rfl rfl (by omega) (by omega) ?_
      | refine VcL.indexAddr tabOk rfl rfl rfl rfl rfl rfl (by omega) (by omega) ?_
      | refine VcL.indexArr0 tabOk rfl rfl rfl rfl rfl rfl (by omega) (by omega) ?_
      | refine VcL.indexArr tabOk rfl rfl rfl rfl rfl rfl (by omega) (by omega) ?_)
      | refine VcL.alloc tabOk H rfl rfl rfl rfl (fun b w H => ?_)
      | refine VcL.buildSlice tabOk H rfl rfl rfl rfl rfl rfl (fun sv w H => ?_)
      | (show VcL _ _ _ _ (⟨_, .store _ _ _, _, _, _, _⟩ :: _) _ _ _; first
      | refine VcL.store tabOk rfl (by first | exact H | exact (Holds.f1 H) | exact (Holds.f2 H) | exact (Holds.f3 H) | exact (Holds.f4 H) | exact (Holds.f5 H) | exact (Holds.f6 H)) rfl rfl (by exact rfl) (by exact rfl) (by exact rfl) (by exact rfl) (fun w H => ?_))
      | (show VcL _ _ _ _ (⟨_, .call ⟨.value (.func F_tithinglaw20_Awake), _, _⟩, _, _, _, _⟩ :: _) _ _ _; first
      | (refine VcL.callF ok_tithinglaw20_Awake rfl rfl rfl rfl (Rets.mono (Awake_any H) ?_); rintro _ w ⟨rfl, H⟩))
      | (refine VcL.guard rfl rfl rfl rfl (fun h => ?_) (fun h => ?_) <;> first | (cases h; done) | (exfalso; simp only [decide_eq_true_eq, decide_eq_false_iff_not] at h; omega) | (with_reducible have hp := of_decide_eq_true h) | (with_reducible have hp := of_decide_eq_false h) | (with_reducible have hp := ndec_t h) | (with_reducible have hp := ndec_f h) | skip))
      | (show VcD _ _ _ _ _ _ _ _ _; first
      | refine VcD.pures tabOk (by first | exact H | exact Holds.drop H | exact Holds.drop (Holds.drop H)) rfl ?_
      | refine VcD.done ?_
      | (show VcD _ _ _ _ _ (.take _ _) _ _ _; first
      | refine VcD.load1 tabOk rfl rfl rfl rfl rfl rfl (by first | exact H | exact Holds.drop H | exact Holds.drop (Holds.drop H)) (by intro w_ hw_; first | exact Holds.cell hw_ rfl | exact Holds.cell (Holds.f1 hw_) rfl | exact Holds.cell (Holds.f2 hw_) rfl | exact Holds.cell (Holds.f3 hw_) rfl | exact Holds.cell (Holds.f4 hw_) rfl | exact Holds.cell (Holds.f5 hw_) rfl | exact Holds.cell (Holds.f6 hw_) rfl | exact RdW.get (by assumption) rfl hw_ | exact RdW.get0 (by assumption) rfl hw_ | exact RdW.get (by assumption) rfl (Holds.drop hw_) | exact RdW.get0 (by assumption) rfl (Holds.drop hw_) | exact RdW.get (by assumption) rfl (Holds.drop (Holds.drop hw_)) | exact RdW.get0 (by assumption) rfl (Holds.drop (Holds.drop hw_)) | exact RdW.get (by assumption) rfl (Holds.drop (Holds.drop (Holds.drop hw_))) | exact RdW.get0 (by assumption) rfl (Holds.drop (Holds.drop (Holds.drop hw_))) | assumption) (by exact rfl) ?_
      | refine VcD.loadR tabOk rfl rfl rfl rfl rfl rfl rfl (by first | exact H | exact Holds.drop H | exact Holds.drop (Holds.drop H)) (by intro w_ hw_; first | exact RdW.rd (by assumption) hw_ | exact RdW.rd (by assumption) (Holds.drop hw_) | exact RdW.rd (by assumption) (Holds.drop (Holds.drop hw_)) | exact RdW.rd (by assumption) (Holds.drop (Holds.drop (Holds.drop hw_))) | assumption) rfl ?_
      | refine VcD.loadN tabOk rfl rfl rfl rfl rfl rfl rfl (by first | exact H | exact Holds.drop H | exact Holds.drop (Holds.drop H)) (by intro w_ hw_; first | exact hw_ | exact (Holds.f1 hw_) | exact (Holds.f2 hw_) | exact (Holds.f3 hw_) | exact (Holds.f4 hw_) | exact (Holds.f5 hw_) | exact (Holds.f6 hw_)) (by exact rfl) ?_
      | refine VcD.indexAddr0 tabOk rfl rfl rfl rfl rfl rfl rfl (by first | exact H | exact Holds.drop H | exact Holds.drop (Holds.drop H)) (by omega) (by omega) ?_
      | refine VcD.indexAddr tabOk rfl rfl rfl rfl rfl rfl rfl (by first | exact H | exact Holds.drop H | exact Holds.drop (Holds.drop H)) (by omega) (by omega) ?_
      | refine VcD.indexArr0 tabOk rfl rfl rfl rfl rfl rfl rfl (by first | exact H | exact Holds.drop H | exact Holds.drop (Holds.drop H)) (by omega) (by omega) ?_
      | refine VcD.indexArr tabOk rfl rfl rfl rfl rfl rfl rfl (by first | exact H | exact Holds.drop H | exact Holds.drop (Holds.drop H)) (by omega) (by omega) ?_
      | (refine VcD.guardT rfl rfl rfl rfl rfl (fun h => ?_) (fun h => ?_) <;> first | (cases h; done) | (exfalso; simp only [decide_eq_true_eq, decide_eq_false_iff_not] at h; omega) | (with_reducible have hp := of_decide_eq_true h) | (with_reducible have hp := of_decide_eq_false h) | (with_reducible have hp := ndec_t h) | (with_reducible have hp := ndec_f h) | skip))
      | (show VcD _ _ _ _ _ (.only _ _) _ _ _; first
      | (refine VcD.callF (f := F_tithinglaw20_Awake) rfl ok_tithinglaw20_Awake rfl rfl rfl rfl (Rets.mono (Awake_any H) ?_); rintro _ w ⟨rfl, H⟩; refine ⟨(by first | exact H | exact Holds.drop H | exact Holds.drop (Holds.drop H)), ?_⟩)
      | refine VcD.skip rfl rfl rfl (by first | exact H | exact Holds.drop H | exact Holds.drop (Holds.drop H)) ?_
      | (refine VcD.guardO rfl rfl rfl rfl rfl (fun h => ?_) (fun h => ?_) <;> first | (cases h; done) | (exfalso; simp only [decide_eq_true_eq, decide_eq_false_iff_not] at h; omega) | (with_reducible have hp := of_decide_eq_true h) | (with_reducible have hp := of_decide_eq_false h) | (with_reducible have hp := ndec_t h) | (with_reducible have hp := ndec_f h) | skip))
      | (show VcD _ _ _ _ _ (.two _ _ _ _) _ _ _; refine VcD.two ?_ ?_))
      | (show EfO _ _ _ _ _ _ _ _ _; first
      | (refine EfO.call (f := F_tithinglaw20_Awake) rfl rfl rfl rfl (OpC.call ok_tithinglaw20_Awake rfl) (Rets.mono (Awake_any H) ?_); rintro _ w ⟨rfl, H⟩; refine ⟨(by first | exact H | exact Holds.drop H | exact Holds.drop (Holds.drop H)), ?_⟩))
      | (show Vc _ _ _ _ _ _; first
      | refine Vc.seq ?_
      | refine Vc.region ?_
      | refine Vc.condT rfl ?_
      | refine Vc.condF rfl ?_
      | refine Vc.ret ?_
      | refine Vc.skip ?_
      | refine Vc.block ?_
      | refine Vc.exit ?_
      | refine Vc.drawnH (id := 28) H (.take 0 (.take 1 (.take 4 (.take 5 (.take 2 (.take 3 (.take 6 (.take 7 (.only 8 (.take 9 (.take 10 (.take 11 (.take 12 (.take 13 (.take 14 (.take 15 (.take 16 (.take 17 (.take 18 (.take 19 (.take 20 (.take 21 (.take 22 (.take 23 (.take 24 (.take 25 (.take 26 (.take 27 (.take 28 (.take 29 (.take 30 (.take 31 (.take 32 (.take 33 (.take 34 (.take 35 (.take 36 (.take 37 .done)))))))))))))))))))))))))))))))))))))) mixed (by kernel_rfl) (fun w H => ?_)
      | (refine Vc.cond rfl (fun h => ?_) (fun h => ?_) <;> first | (cases h; done) | (exfalso; simp only [decide_eq_true_eq, decide_eq_false_iff_not] at h; omega) | (with_reducible have hp := of_decide_eq_true h) | (with_reducible have hp := of_decide_eq_false h) | (with_reducible have hp := ndec_t h) | (with_reducible have hp := ndec_f h) | skip))
      | (show KSeq _ _ _ _ _ _ _; first
      | refine KSeq.normal ?_
      | refine KSeq.ret ?_
      | refine KSeq.exit ?_)
      | (show KBlock _ _ _ _ _; first
      | refine KBlock.normal ?_
      | refine KBlock.here ?_
      | refine KBlock.on rfl ?_
      | refine KBlock.ret ?_)
      | refine KLoop.exit ?_
      | refine KLoop.ret ?_
      | refine KCut.exit ?_
      | refine KCut.ret ?_
      | (show KEnd _ _ _ _ _ _; first
      | refine KEnd.mk (Or.inr rfl) ⟨_, (ResL.tmp rfl ResL.nil), ?_⟩
      | refine KEnd.mk (Or.inl rfl) ⟨_, (ResL.tmp rfl ResL.nil), ?_⟩))
    all_goals first
      | exact KLoop.again (k + 1, tv) ⟨rfl, got_succ rfl (by omega), trivial⟩ ⟨rfl, rfl, rfl, rfl, trivial⟩ ⟨tl, o, H.drop, hlt, hok, ho, hown⟩ (by dsimp only; omega)
      | skip
    all_goals have ht : Take (spAt l k) := ⟨by omega, by omega, by omega, by omega⟩
    · obtain ⟨b3, o3, rfl, hr3⟩ := hu.at (by omega)
      have hy := hr3.elem bC_len (oAt_get (o := ds) (k := k) (by omega))
      repeat' (first
        | (refine VcL.loadR tabOk rfl rfl rfl rfl rfl rfl (Holds.rdAt (mid := oC o2) (pre := []) (post := []) (Holds.drop H) (by simp) rfl) (by rw [flat_len nC_len, ho2]) ?_)
        | (show VcL _ _ _ _ _ _ _ _; first
      | refine VcL.pures tabOk rfl ?_
      | refine VcL.nil ?_
      | (show VcL _ _ _ _ (⟨_, .load _ _, _, _, _, _⟩ :: _) _ _ _; first
      | refine VcL.load1 tabOk rfl rfl rfl rfl rfl (by first | exact Holds.cell H rfl | exact Holds.cell (Holds.f1 H) rfl | exact Holds.cell (Holds.f2 H) rfl | exact Holds.cell (Holds.f3 H) rfl | exact Holds.cell (Holds.f4 H) rfl | exact Holds.cell (Holds.f5 H) rfl | exact Holds.cell (Holds.f6 H) rfl | exact RdW.get (by assumption) rfl H | exact RdW.get0 (by assumption) rfl H | exact RdW.get (by assumption) rfl (Holds.drop H) | exact RdW.get0 (by assumption) rfl (Holds.drop H) | exact RdW.get (by assumption) rfl (Holds.drop (Holds.drop H)) | exact RdW.get0 (by assumption) rfl (Holds.drop (Holds.drop H)) | exact RdW.get (by assumption) rfl (Holds.drop (Holds.drop (Holds.drop H))) | exact RdW.get0 (by assumption) rfl (Holds.drop (Holds.drop (Holds.drop H))) | assumption) ?_
      | refine VcL.loadR tabOk rfl rfl rfl rfl rfl rfl (by first | exact RdW.rd (by assumption) H | exact RdW.rd (by assumption) (Holds.drop H) | exact RdW.rd (by assumption) (Holds.drop (Holds.drop H)) | exact RdW.rd (by assumption) (Holds.drop (Holds.drop (Holds.drop H))) | assumption) rfl ?_
      | refine VcL.loadN tabOk rfl rfl rfl rfl rfl rfl (by first | exact H | exact (Holds.f1 H) | exact (Holds.f2 H) | exact (Holds.f3 H) | exact (Holds.f4 H) | exact (Holds.f5 H) | exact (Holds.f6 H)) (by exact rfl) ?_)
      | (show VcL _ _ _ _ (⟨_, .binOp _ _ _ _ _, _, _, _, _⟩ :: _) _ _ _; first
      | refine VcL.eqS tabOk rfl rfl rfl rfl rfl rfl (by kernel_rfl) (by kernel_rfl) rfl rfl (by first | exact .inl rfl | exact .inr rfl) ?_)
      | (show VcL _ _ _ _ (⟨_, .indexAddr _ _ _, _, _, _, _⟩ :: _) _ _ _; first
      | refine VcL.indexAddr0 tabOk rfl rfl rfl rfl rfl rfl (by omega) (by omega) ?_
      | refine VcL.indexAddr tabOk rfl rfl rfl rfl rfl rfl (by omega) (by omega) ?_
      | refine VcL.indexArr0 tabOk rfl rfl rfl rfl rfl rfl (by omega) (by omega) ?_
      | refine VcL.indexArr tabOk rfl rfl rfl rfl rfl rfl (by omega) (by omega) ?_)
      | refine VcL.alloc tabOk H rfl rfl rfl rfl (fun b w H => ?_)
      | refine VcL.buildSlice tabOk H rfl rfl rfl rfl rfl rfl (fun sv w H => ?_)
      | (show VcL _ _ _ _ (⟨_, .store _ _ _, _, _, _, _⟩ :: _) _ _ _; first
      | refine VcL.store tabOk rfl (by first | exact H | exact (Holds.f1 H) | exact (Holds.f2 H) | exact (Holds.f3 H) | exact (Holds.f4 H) | exact (Holds.f5 H) | exact (Holds.f6 H)) rfl rfl (by exact rfl) (by exact rfl) (by exact rfl) (by exact rfl) (fun w H => ?_))
      | (show VcL _ _ _ _ (⟨_, .call ⟨.value (.func F_tithinglaw20_Awake), _, _⟩, _, _, _, _⟩ :: _) _ _ _; first
      | (refine VcL.callF ok_tithinglaw20_Awake rfl rfl rfl rfl (Rets.mono (Awake_any H) ?_); rintro _ w ⟨rfl, H⟩))
      | (show VcL _ _ _ _ (⟨_, .call ⟨.value (.func F_tithingtop_lockDeed), _, _⟩, _, _, _, _⟩ :: _) _ _ _; first
      | (refine VcL.callF ok_tithingtop_lockDeed rfl rfl rfl rfl (Rets.mono (hst _ _ _ H.drop ht) ?_); rintro _ w ⟨tl2, o2, H, hok2, ho2, hown2⟩))
      | (show VcL _ _ _ _ (⟨_, .call ⟨.value (.func F_lock_Valid), _, _⟩, _, _, _, _⟩ :: _) _ _ _; first
      | (refine VcL.callF ok_lock_Valid rfl rfl rfl rfl (Rets.mono (ValidOk_any H hok2) ?_); rintro _ w ⟨rfl, H⟩))
      | (show VcL _ _ _ _ (⟨_, .call ⟨.value (.func F_tithingtop_owned), _, _⟩, _, _, _, _⟩ :: _) _ _ _; first
      | (refine VcL.callF ok_tithingtop_owned rfl rfl rfl rfl (Rets.mono (owned_any H H.own_toR (by have := hok2.len; omega) hok2 ho2 hown2) ?_); rintro _ w ⟨rfl, H⟩))
      | (refine VcL.guard rfl rfl rfl rfl (fun h => ?_) (fun h => ?_) <;> first | (cases h; done) | (exfalso; simp only [decide_eq_true_eq, decide_eq_false_iff_not] at h; omega) | (with_reducible have hp := of_decide_eq_true h) | (with_reducible have hp := of_decide_eq_false h) | (with_reducible have hp := ndec_t h) | (with_reducible have hp := ndec_f h) | skip))
        | (show VcD _ _ _ _ _ _ _ _ _; first
      | refine VcD.pures tabOk (by first | exact H | exact Holds.drop H | exact Holds.drop (Holds.drop H)) rfl ?_
      | refine VcD.done ?_
      | (show VcD _ _ _ _ _ (.take _ _) _ _ _; first
      | refine VcD.load1 tabOk rfl rfl rfl rfl rfl rfl (by first | exact H | exact Holds.drop H | exact Holds.drop (Holds.drop H)) (by intro w_ hw_; first | exact Holds.cell hw_ rfl | exact Holds.cell (Holds.f1 hw_) rfl | exact Holds.cell (Holds.f2 hw_) rfl | exact Holds.cell (Holds.f3 hw_) rfl | exact Holds.cell (Holds.f4 hw_) rfl | exact Holds.cell (Holds.f5 hw_) rfl | exact Holds.cell (Holds.f6 hw_) rfl | exact RdW.get (by assumption) rfl hw_ | exact RdW.get0 (by assumption) rfl hw_ | exact RdW.get (by assumption) rfl (Holds.drop hw_) | exact RdW.get0 (by assumption) rfl (Holds.drop hw_) | exact RdW.get (by assumption) rfl (Holds.drop (Holds.drop hw_)) | exact RdW.get0 (by assumption) rfl (Holds.drop (Holds.drop hw_)) | exact RdW.get (by assumption) rfl (Holds.drop (Holds.drop (Holds.drop hw_))) | exact RdW.get0 (by assumption) rfl (Holds.drop (Holds.drop (Holds.drop hw_))) | assumption) (by exact rfl) ?_
      | refine VcD.loadR tabOk rfl rfl rfl rfl rfl rfl rfl (by first | exact H | exact Holds.drop H | exact Holds.drop (Holds.drop H)) (by intro w_ hw_; first | exact RdW.rd (by assumption) hw_ | exact RdW.rd (by assumption) (Holds.drop hw_) | exact RdW.rd (by assumption) (Holds.drop (Holds.drop hw_)) | exact RdW.rd (by assumption) (Holds.drop (Holds.drop (Holds.drop hw_))) | assumption) rfl ?_
      | refine VcD.loadN tabOk rfl rfl rfl rfl rfl rfl rfl (by first | exact H | exact Holds.drop H | exact Holds.drop (Holds.drop H)) (by intro w_ hw_; first | exact hw_ | exact (Holds.f1 hw_) | exact (Holds.f2 hw_) | exact (Holds.f3 hw_) | exact (Holds.f4 hw_) | exact (Holds.f5 hw_) | exact (Holds.f6 hw_)) (by exact rfl) ?_
      | refine VcD.indexAddr0 tabOk rfl rfl rfl rfl rfl rfl rfl (by first | exact H | exact Holds.drop H | exact Holds.drop (Holds.drop H)) (by omega) (by omega) ?_
      | refine VcD.indexAddr tabOk rfl rfl rfl rfl rfl rfl rfl (by first | exact H | exact Holds.drop H | exact Holds.drop (Holds.drop H)) (by omega) (by omega) ?_
      | refine VcD.indexArr0 tabOk rfl rfl rfl rfl rfl rfl rfl (by first | exact H | exact Holds.drop H | exact Holds.drop (Holds.drop H)) (by omega) (by omega) ?_
      | refine VcD.indexArr tabOk rfl rfl rfl rfl rfl rfl rfl (by first | exact H | exact Holds.drop H | exact Holds.drop (Holds.drop H)) (by omega) (by omega) ?_
      | (refine VcD.guardT rfl rfl rfl rfl rfl (fun h => ?_) (fun h => ?_) <;> first | (cases h; done) | (exfalso; simp only [decide_eq_true_eq, decide_eq_false_iff_not] at h; omega) | (with_reducible have hp := of_decide_eq_true h) | (with_reducible have hp := of_decide_eq_false h) | (with_reducible have hp := ndec_t h) | (with_reducible have hp := ndec_f h) | skip))
      | (show VcD _ _ _ _ _ (.only _ _) _ _ _; first
      | (refine VcD.callF (f := F_tithinglaw20_Awake) rfl ok_tithinglaw20_Awake rfl rfl rfl rfl (Rets.mono (Awake_any H) ?_); rintro _ w ⟨rfl, H⟩; refine ⟨(by first | exact H | exact Holds.drop H | exact Holds.drop (Holds.drop H)), ?_⟩)
      | (refine VcD.callF (f := F_tithingtop_lockDeed) rfl ok_tithingtop_lockDeed rfl rfl rfl rfl (Rets.mono (hst _ _ _ H.drop ht) ?_); rintro _ w ⟨tl2, o2, H, hok2, ho2, hown2⟩; refine ⟨(by first | exact H | exact Holds.drop H | exact Holds.drop (Holds.drop H)), ?_⟩)
      | (refine VcD.callF (f := F_lock_Valid) rfl ok_lock_Valid rfl rfl rfl rfl (Rets.mono (ValidOk_any H hok2) ?_); rintro _ w ⟨rfl, H⟩; refine ⟨(by first | exact H | exact Holds.drop H | exact Holds.drop (Holds.drop H)), ?_⟩)
      | (refine VcD.callF (f := F_tithingtop_owned) rfl ok_tithingtop_owned rfl rfl rfl rfl (Rets.mono (owned_any H H.own_toR (by have := hok2.len; omega) hok2 ho2 hown2) ?_); rintro _ w ⟨rfl, H⟩; refine ⟨(by first | exact H | exact Holds.drop H | exact Holds.drop (Holds.drop H)), ?_⟩)
      | refine VcD.skip rfl rfl rfl (by first | exact H | exact Holds.drop H | exact Holds.drop (Holds.drop H)) ?_
      | (refine VcD.guardO rfl rfl rfl rfl rfl (fun h => ?_) (fun h => ?_) <;> first | (cases h; done) | (exfalso; simp only [decide_eq_true_eq, decide_eq_false_iff_not] at h; omega) | (with_reducible have hp := of_decide_eq_true h) | (with_reducible have hp := of_decide_eq_false h) | (with_reducible have hp := ndec_t h) | (with_reducible have hp := ndec_f h) | skip))
      | (show VcD _ _ _ _ _ (.two _ _ _ _) _ _ _; refine VcD.two ?_ ?_))
        | (show EfO _ _ _ _ _ _ _ _ _; first
      | (refine EfO.call (f := F_tithinglaw20_Awake) rfl rfl rfl rfl (OpC.call ok_tithinglaw20_Awake rfl) (Rets.mono (Awake_any H) ?_); rintro _ w ⟨rfl, H⟩; refine ⟨(by first | exact H | exact Holds.drop H | exact Holds.drop (Holds.drop H)), ?_⟩)
      | (refine EfO.call (f := F_tithingtop_lockDeed) rfl rfl rfl rfl (OpC.call ok_tithingtop_lockDeed rfl) (Rets.mono (hst _ _ _ H.drop ht) ?_); rintro _ w ⟨tl2, o2, H, hok2, ho2, hown2⟩; refine ⟨(by first | exact H | exact Holds.drop H | exact Holds.drop (Holds.drop H)), ?_⟩)
      | (refine EfO.call (f := F_lock_Valid) rfl rfl rfl rfl (OpC.call ok_lock_Valid rfl) (Rets.mono (ValidOk_any H hok2) ?_); rintro _ w ⟨rfl, H⟩; refine ⟨(by first | exact H | exact Holds.drop H | exact Holds.drop (Holds.drop H)), ?_⟩)
      | (refine EfO.call (f := F_tithingtop_owned) rfl rfl rfl rfl (OpC.call ok_tithingtop_owned rfl) (Rets.mono (owned_any H H.own_toR (by have := hok2.len; omega) hok2 ho2 hown2) ?_); rintro _ w ⟨rfl, H⟩; refine ⟨(by first | exact H | exact Holds.drop H | exact Holds.drop (Holds.drop H)), ?_⟩))
        | (show Vc _ _ _ _ _ _; first
      | refine Vc.seq ?_
      | refine Vc.region ?_
      | refine Vc.condT rfl ?_
      | refine Vc.condF rfl ?_
      | refine Vc.ret ?_
      | refine Vc.skip ?_
      | refine Vc.block ?_
      | refine Vc.exit ?_
      | refine Vc.drawnH (id := 28) H (.take 0 (.take 1 (.take 4 (.take 5 (.take 2 (.take 3 (.take 6 (.take 7 (.only 8 (.take 9 (.take 10 (.take 11 (.take 12 (.take 13 (.take 14 (.take 15 (.take 16 (.take 17 (.take 18 (.take 19 (.take 20 (.take 21 (.take 22 (.take 23 (.take 24 (.take 25 (.take 26 (.take 27 (.take 28 (.take 29 (.take 30 (.take 31 (.take 32 (.take 33 (.take 34 (.take 35 (.take 36 (.take 37 .done)))))))))))))))))))))))))))))))))))))) mixed (by kernel_rfl) (fun w H => ?_)
      | (refine Vc.cond rfl (fun h => ?_) (fun h => ?_) <;> first | (cases h; done) | (exfalso; simp only [decide_eq_true_eq, decide_eq_false_iff_not] at h; omega) | (with_reducible have hp := of_decide_eq_true h) | (with_reducible have hp := of_decide_eq_false h) | (with_reducible have hp := ndec_t h) | (with_reducible have hp := ndec_f h) | skip))
        | (show KSeq _ _ _ _ _ _ _; first
      | refine KSeq.normal ?_
      | refine KSeq.ret ?_
      | refine KSeq.exit ?_)
        | (show KBlock _ _ _ _ _; first
      | refine KBlock.normal ?_
      | refine KBlock.here ?_
      | refine KBlock.on rfl ?_
      | refine KBlock.ret ?_)
        | refine KLoop.exit ?_
        | refine KLoop.ret ?_
        | refine KCut.exit ?_
        | refine KCut.ret ?_
        | (show KEnd _ _ _ _ _ _; first
      | refine KEnd.mk (Or.inr rfl) ⟨_, (ResL.tmp rfl ResL.nil), ?_⟩
      | refine KEnd.mk (Or.inl rfl) ⟨_, (ResL.tmp rfl ResL.nil), ?_⟩))
      exact KLoop.again (k + 1, _) ⟨rfl, got_succ rfl (by omega), trivial⟩ ⟨rfl, rfl, rfl, rfl, trivial⟩ ⟨tl2, o2, H, hlt, hok2, ho2, hown2⟩ (by dsimp only; omega)
    ·
      repeat' (first
        | (refine VcL.loadR tabOk rfl rfl rfl rfl rfl rfl (Holds.rdAt (mid := oC o2) (pre := []) (post := []) (Holds.drop H) (by simp) rfl) (by rw [flat_len nC_len, ho2]) ?_)
        | (show VcL _ _ _ _ _ _ _ _; first
      | refine VcL.pures tabOk rfl ?_
      | refine VcL.nil ?_
      | (show VcL _ _ _ _ (⟨_, .load _ _, _, _, _, _⟩ :: _) _ _ _; first
      | refine VcL.load1 tabOk rfl rfl rfl rfl rfl (by first | exact Holds.cell H rfl | exact Holds.cell (Holds.f1 H) rfl | exact Holds.cell (Holds.f2 H) rfl | exact Holds.cell (Holds.f3 H) rfl | exact Holds.cell (Holds.f4 H) rfl | exact Holds.cell (Holds.f5 H) rfl | exact Holds.cell (Holds.f6 H) rfl | exact RdW.get (by assumption) rfl H | exact RdW.get0 (by assumption) rfl H | exact RdW.get (by assumption) rfl (Holds.drop H) | exact RdW.get0 (by assumption) rfl (Holds.drop H) | exact RdW.get (by assumption) rfl (Holds.drop (Holds.drop H)) | exact RdW.get0 (by assumption) rfl (Holds.drop (Holds.drop H)) | exact RdW.get (by assumption) rfl (Holds.drop (Holds.drop (Holds.drop H))) | exact RdW.get0 (by assumption) rfl (Holds.drop (Holds.drop (Holds.drop H))) | assumption) ?_
      | refine VcL.loadR tabOk rfl rfl rfl rfl rfl rfl (by first | exact RdW.rd (by assumption) H | exact RdW.rd (by assumption) (Holds.drop H) | exact RdW.rd (by assumption) (Holds.drop (Holds.drop H)) | exact RdW.rd (by assumption) (Holds.drop (Holds.drop (Holds.drop H))) | assumption) rfl ?_
      | refine VcL.loadN tabOk rfl rfl rfl rfl rfl rfl (by first | exact H | exact (Holds.f1 H) | exact (Holds.f2 H) | exact (Holds.f3 H) | exact (Holds.f4 H) | exact (Holds.f5 H) | exact (Holds.f6 H)) (by exact rfl) ?_)
      | (show VcL _ _ _ _ (⟨_, .binOp _ _ _ _ _, _, _, _, _⟩ :: _) _ _ _; first
      | refine VcL.eqS tabOk rfl rfl rfl rfl rfl rfl (by kernel_rfl) (by kernel_rfl) rfl rfl (by first | exact .inl rfl | exact .inr rfl) ?_)
      | (show VcL _ _ _ _ (⟨_, .indexAddr _ _ _, _, _, _, _⟩ :: _) _ _ _; first
      | refine VcL.indexAddr0 tabOk rfl rfl rfl rfl rfl rfl (by omega) (by omega) ?_
      | refine VcL.indexAddr tabOk rfl rfl rfl rfl rfl rfl (by omega) (by omega) ?_
      | refine VcL.indexArr0 tabOk rfl rfl rfl rfl rfl rfl (by omega) (by omega) ?_
      | refine VcL.indexArr tabOk rfl rfl rfl rfl rfl rfl (by omega) (by omega) ?_)
      | refine VcL.alloc tabOk H rfl rfl rfl rfl (fun b w H => ?_)
      | refine VcL.buildSlice tabOk H rfl rfl rfl rfl rfl rfl (fun sv w H => ?_)
      | (show VcL _ _ _ _ (⟨_, .store _ _ _, _, _, _, _⟩ :: _) _ _ _; first
      | refine VcL.store tabOk rfl (by first | exact H | exact (Holds.f1 H) | exact (Holds.f2 H) | exact (Holds.f3 H) | exact (Holds.f4 H) | exact (Holds.f5 H) | exact (Holds.f6 H)) rfl rfl (by exact rfl) (by exact rfl) (by exact rfl) (by exact rfl) (fun w H => ?_))
      | (show VcL _ _ _ _ (⟨_, .call ⟨.value (.func F_tithinglaw20_Awake), _, _⟩, _, _, _, _⟩ :: _) _ _ _; first
      | (refine VcL.callF ok_tithinglaw20_Awake rfl rfl rfl rfl (Rets.mono (Awake_any H) ?_); rintro _ w ⟨rfl, H⟩))
      | (show VcL _ _ _ _ (⟨_, .call ⟨.value (.func F_tithingtop_lockDeed), _, _⟩, _, _, _, _⟩ :: _) _ _ _; first
      | (refine VcL.callF ok_tithingtop_lockDeed rfl rfl rfl rfl (Rets.mono (hst _ _ _ H.drop ht) ?_); rintro _ w ⟨tl2, o2, H, hok2, ho2, hown2⟩))
      | (show VcL _ _ _ _ (⟨_, .call ⟨.value (.func F_lock_Valid), _, _⟩, _, _, _, _⟩ :: _) _ _ _; first
      | (refine VcL.callF ok_lock_Valid rfl rfl rfl rfl (Rets.mono (ValidOk_any H hok2) ?_); rintro _ w ⟨rfl, H⟩))
      | (show VcL _ _ _ _ (⟨_, .call ⟨.value (.func F_tithingtop_owned), _, _⟩, _, _, _, _⟩ :: _) _ _ _; first
      | (refine VcL.callF ok_tithingtop_owned rfl rfl rfl rfl (Rets.mono (owned_any H H.own_toR (by have := hok2.len; omega) hok2 ho2 hown2) ?_); rintro _ w ⟨rfl, H⟩))
      | (refine VcL.guard rfl rfl rfl rfl (fun h => ?_) (fun h => ?_) <;> first | (cases h; done) | (exfalso; simp only [decide_eq_true_eq, decide_eq_false_iff_not] at h; omega) | (with_reducible have hp := of_decide_eq_true h) | (with_reducible have hp := of_decide_eq_false h) | (with_reducible have hp := ndec_t h) | (with_reducible have hp := ndec_f h) | skip))
        | (show VcD _ _ _ _ _ _ _ _ _; first
      | refine VcD.pures tabOk (by first | exact H | exact Holds.drop H | exact Holds.drop (Holds.drop H)) rfl ?_
      | refine VcD.done ?_
      | (show VcD _ _ _ _ _ (.take _ _) _ _ _; first
      | refine VcD.load1 tabOk rfl rfl rfl rfl rfl rfl (by first | exact H | exact Holds.drop H | exact Holds.drop (Holds.drop H)) (by intro w_ hw_; first | exact Holds.cell hw_ rfl | exact Holds.cell (Holds.f1 hw_) rfl | exact Holds.cell (Holds.f2 hw_) rfl | exact Holds.cell (Holds.f3 hw_) rfl | exact Holds.cell (Holds.f4 hw_) rfl | exact Holds.cell (Holds.f5 hw_) rfl | exact Holds.cell (Holds.f6 hw_) rfl | exact RdW.get (by assumption) rfl hw_ | exact RdW.get0 (by assumption) rfl hw_ | exact RdW.get (by assumption) rfl (Holds.drop hw_) | exact RdW.get0 (by assumption) rfl (Holds.drop hw_) | exact RdW.get (by assumption) rfl (Holds.drop (Holds.drop hw_)) | exact RdW.get0 (by assumption) rfl (Holds.drop (Holds.drop hw_)) | exact RdW.get (by assumption) rfl (Holds.drop (Holds.drop (Holds.drop hw_))) | exact RdW.get0 (by assumption) rfl (Holds.drop (Holds.drop (Holds.drop hw_))) | assumption) (by exact rfl) ?_
      | refine VcD.loadR tabOk rfl rfl rfl rfl rfl rfl rfl (by first | exact H | exact Holds.drop H | exact Holds.drop (Holds.drop H)) (by intro w_ hw_; first | exact RdW.rd (by assumption) hw_ | exact RdW.rd (by assumption) (Holds.drop hw_) | exact RdW.rd (by assumption) (Holds.drop (Holds.drop hw_)) | exact RdW.rd (by assumption) (Holds.drop (Holds.drop (Holds.drop hw_))) | assumption) rfl ?_
      | refine VcD.loadN tabOk rfl rfl rfl rfl rfl rfl rfl (by first | exact H | exact Holds.drop H | exact Holds.drop (Holds.drop H)) (by intro w_ hw_; first | exact hw_ | exact (Holds.f1 hw_) | exact (Holds.f2 hw_) | exact (Holds.f3 hw_) | exact (Holds.f4 hw_) | exact (Holds.f5 hw_) | exact (Holds.f6 hw_)) (by exact rfl) ?_
      | refine VcD.indexAddr0 tabOk rfl rfl rfl rfl rfl rfl rfl (by first | exact H | exact Holds.drop H | exact Holds.drop (Holds.drop H)) (by omega) (by omega) ?_
      | refine VcD.indexAddr tabOk rfl rfl rfl rfl rfl rfl rfl (by first | exact H | exact Holds.drop H | exact Holds.drop (Holds.drop H)) (by omega) (by omega) ?_
      | refine VcD.indexArr0 tabOk rfl rfl rfl rfl rfl rfl rfl (by first | exact H | exact Holds.drop H | exact Holds.drop (Holds.drop H)) (by omega) (by omega) ?_
      | refine VcD.indexArr tabOk rfl rfl rfl rfl rfl rfl rfl (by first | exact H | exact Holds.drop H | exact Holds.drop (Holds.drop H)) (by omega) (by omega) ?_
      | (refine VcD.guardT rfl rfl rfl rfl rfl (fun h => ?_) (fun h => ?_) <;> first | (cases h; done) | (exfalso; simp only [decide_eq_true_eq, decide_eq_false_iff_not] at h; omega) | (with_reducible have hp := of_decide_eq_true h) | (with_reducible have hp := of_decide_eq_false h) | (with_reducible have hp := ndec_t h) | (with_reducible have hp := ndec_f h) | skip))
      | (show VcD _ _ _ _ _ (.only _ _) _ _ _; first
      | (refine VcD.callF (f := F_tithinglaw20_Awake) rfl ok_tithinglaw20_Awake rfl rfl rfl rfl (Rets.mono (Awake_any H) ?_); rintro _ w ⟨rfl, H⟩; refine ⟨(by first | exact H | exact Holds.drop H | exact Holds.drop (Holds.drop H)), ?_⟩)
      | (refine VcD.callF (f := F_tithingtop_lockDeed) rfl ok_tithingtop_lockDeed rfl rfl rfl rfl (Rets.mono (hst _ _ _ H.drop ht) ?_); rintro _ w ⟨tl2, o2, H, hok2, ho2, hown2⟩; refine ⟨(by first | exact H | exact Holds.drop H | exact Holds.drop (Holds.drop H)), ?_⟩)
      | (refine VcD.callF (f := F_lock_Valid) rfl ok_lock_Valid rfl rfl rfl rfl (Rets.mono (ValidOk_any H hok2) ?_); rintro _ w ⟨rfl, H⟩; refine ⟨(by first | exact H | exact Holds.drop H | exact Holds.drop (Holds.drop H)), ?_⟩)
      | (refine VcD.callF (f := F_tithingtop_owned) rfl ok_tithingtop_owned rfl rfl rfl rfl (Rets.mono (owned_any H H.own_toR (by have := hok2.len; omega) hok2 ho2 hown2) ?_); rintro _ w ⟨rfl, H⟩; refine ⟨(by first | exact H | exact Holds.drop H | exact Holds.drop (Holds.drop H)), ?_⟩)
      | refine VcD.skip rfl rfl rfl (by first | exact H | exact Holds.drop H | exact Holds.drop (Holds.drop H)) ?_
      | (refine VcD.guardO rfl rfl rfl rfl rfl (fun h => ?_) (fun h => ?_) <;> first | (cases h; done) | (exfalso; simp only [decide_eq_true_eq, decide_eq_false_iff_not] at h; omega) | (with_reducible have hp := of_decide_eq_true h) | (with_reducible have hp := of_decide_eq_false h) | (with_reducible have hp := ndec_t h) | (with_reducible have hp := ndec_f h) | skip))
      | (show VcD _ _ _ _ _ (.two _ _ _ _) _ _ _; refine VcD.two ?_ ?_))
        | (show EfO _ _ _ _ _ _ _ _ _; first
      | (refine EfO.call (f := F_tithinglaw20_Awake) rfl rfl rfl rfl (OpC.call ok_tithinglaw20_Awake rfl) (Rets.mono (Awake_any H) ?_); rintro _ w ⟨rfl, H⟩; refine ⟨(by first | exact H | exact Holds.drop H | exact Holds.drop (Holds.drop H)), ?_⟩)
      | (refine EfO.call (f := F_tithingtop_lockDeed) rfl rfl rfl rfl (OpC.call ok_tithingtop_lockDeed rfl) (Rets.mono (hst _ _ _ H.drop ht) ?_); rintro _ w ⟨tl2, o2, H, hok2, ho2, hown2⟩; refine ⟨(by first | exact H | exact Holds.drop H | exact Holds.drop (Holds.drop H)), ?_⟩)
      | (refine EfO.call (f := F_lock_Valid) rfl rfl rfl rfl (OpC.call ok_lock_Valid rfl) (Rets.mono (ValidOk_any H hok2) ?_); rintro _ w ⟨rfl, H⟩; refine ⟨(by first | exact H | exact Holds.drop H | exact Holds.drop (Holds.drop H)), ?_⟩)
      | (refine EfO.call (f := F_tithingtop_owned) rfl rfl rfl rfl (OpC.call ok_tithingtop_owned rfl) (Rets.mono (owned_any H H.own_toR (by have := hok2.len; omega) hok2 ho2 hown2) ?_); rintro _ w ⟨rfl, H⟩; refine ⟨(by first | exact H | exact Holds.drop H | exact Holds.drop (Holds.drop H)), ?_⟩))
        | (show Vc _ _ _ _ _ _; first
      | refine Vc.seq ?_
      | refine Vc.region ?_
      | refine Vc.condT rfl ?_
      | refine Vc.condF rfl ?_
      | refine Vc.ret ?_
      | refine Vc.skip ?_
      | refine Vc.block ?_
      | refine Vc.exit ?_
      | refine Vc.drawnH (id := 28) H (.take 0 (.take 1 (.take 4 (.take 5 (.take 2 (.take 3 (.take 6 (.take 7 (.only 8 (.take 9 (.take 10 (.take 11 (.take 12 (.take 13 (.take 14 (.take 15 (.take 16 (.take 17 (.take 18 (.take 19 (.take 20 (.take 21 (.take 22 (.take 23 (.take 24 (.take 25 (.take 26 (.take 27 (.take 28 (.take 29 (.take 30 (.take 31 (.take 32 (.take 33 (.take 34 (.take 35 (.take 36 (.take 37 .done)))))))))))))))))))))))))))))))))))))) mixed (by kernel_rfl) (fun w H => ?_)
      | (refine Vc.cond rfl (fun h => ?_) (fun h => ?_) <;> first | (cases h; done) | (exfalso; simp only [decide_eq_true_eq, decide_eq_false_iff_not] at h; omega) | (with_reducible have hp := of_decide_eq_true h) | (with_reducible have hp := of_decide_eq_false h) | (with_reducible have hp := ndec_t h) | (with_reducible have hp := ndec_f h) | skip))
        | (show KSeq _ _ _ _ _ _ _; first
      | refine KSeq.normal ?_
      | refine KSeq.ret ?_
      | refine KSeq.exit ?_)
        | (show KBlock _ _ _ _ _; first
      | refine KBlock.normal ?_
      | refine KBlock.here ?_
      | refine KBlock.on rfl ?_
      | refine KBlock.ret ?_)
        | refine KLoop.exit ?_
        | refine KLoop.ret ?_
        | refine KCut.exit ?_
        | refine KCut.ret ?_
        | (show KEnd _ _ _ _ _ _; first
      | refine KEnd.mk (Or.inr rfl) ⟨_, (ResL.tmp rfl ResL.nil), ?_⟩
      | refine KEnd.mk (Or.inl rfl) ⟨_, (ResL.tmp rfl ResL.nil), ?_⟩))
      exact KLoop.again (k + 1, _) ⟨rfl, got_succ rfl (by omega), trivial⟩ ⟨rfl, rfl, rfl, rfl, trivial⟩ ⟨tl2, o2, H, hlt, hok2, ho2, hown2⟩ (by dsimp only; omega)
  ·
    repeat' (first
      | (refine VcL.loadR tabOk rfl rfl rfl rfl rfl rfl (Holds.rdAt (mid := oC o2) (pre := []) (post := []) (Holds.drop H) (by simp) rfl) (by rw [flat_len nC_len, ho2]) ?_)
      | (show VcL _ _ _ _ _ _ _ _; first
      | refine VcL.pures tabOk rfl ?_
      | refine VcL.nil ?_
      | (show VcL _ _ _ _ (⟨_, .load _ _, _, _, _, _⟩ :: _) _ _ _; first
      | refine VcL.load1 tabOk rfl rfl rfl rfl rfl (by first | exact Holds.cell H rfl | exact Holds.cell (Holds.f1 H) rfl | exact Holds.cell (Holds.f2 H) rfl | exact Holds.cell (Holds.f3 H) rfl | exact Holds.cell (Holds.f4 H) rfl | exact Holds.cell (Holds.f5 H) rfl | exact Holds.cell (Holds.f6 H) rfl | exact RdW.get (by assumption) rfl H | exact RdW.get0 (by assumption) rfl H | exact RdW.get (by assumption) rfl (Holds.drop H) | exact RdW.get0 (by assumption) rfl (Holds.drop H) | exact RdW.get (by assumption) rfl (Holds.drop (Holds.drop H)) | exact RdW.get0 (by assumption) rfl (Holds.drop (Holds.drop H)) | exact RdW.get (by assumption) rfl (Holds.drop (Holds.drop (Holds.drop H))) | exact RdW.get0 (by assumption) rfl (Holds.drop (Holds.drop (Holds.drop H))) | assumption) ?_
      | refine VcL.loadR tabOk rfl rfl rfl rfl rfl rfl (by first | exact RdW.rd (by assumption) H | exact RdW.rd (by assumption) (Holds.drop H) | exact RdW.rd (by assumption) (Holds.drop (Holds.drop H)) | exact RdW.rd (by assumption) (Holds.drop (Holds.drop (Holds.drop H))) | assumption) rfl ?_
      | refine VcL.loadN tabOk rfl rfl rfl rfl rfl rfl (by first | exact H | exact (Holds.f1 H) | exact (Holds.f2 H) | exact (Holds.f3 H) | exact (Holds.f4 H) | exact (Holds.f5 H) | exact (Holds.f6 H)) (by exact rfl) ?_)
      | (show VcL _ _ _ _ (⟨_, .binOp _ _ _ _ _, _, _, _, _⟩ :: _) _ _ _; first
      | refine VcL.eqS tabOk rfl rfl rfl rfl rfl rfl (by kernel_rfl) (by kernel_rfl) rfl rfl (by first | exact .inl rfl | exact .inr rfl) ?_)
      | (show VcL _ _ _ _ (⟨_, .indexAddr _ _ _, _, _, _, _⟩ :: _) _ _ _; first
      | refine VcL.indexAddr0 tabOk rfl rfl rfl rfl rfl rfl (by omega) (by omega) ?_
      | refine VcL.indexAddr tabOk rfl rfl rfl rfl rfl rfl (by omega) (by omega) ?_
      | refine VcL.indexArr0 tabOk rfl rfl rfl rfl rfl rfl (by omega) (by omega) ?_
      | refine VcL.indexArr tabOk rfl rfl rfl rfl rfl rfl (by omega) (by omega) ?_)
      | refine VcL.alloc tabOk H rfl rfl rfl rfl (fun b w H => ?_)
      | refine VcL.buildSlice tabOk H rfl rfl rfl rfl rfl rfl (fun sv w H => ?_)
      | (show VcL _ _ _ _ (⟨_, .store _ _ _, _, _, _, _⟩ :: _) _ _ _; first
      | refine VcL.store tabOk rfl (by first | exact H | exact (Holds.f1 H) | exact (Holds.f2 H) | exact (Holds.f3 H) | exact (Holds.f4 H) | exact (Holds.f5 H) | exact (Holds.f6 H)) rfl rfl (by exact rfl) (by exact rfl) (by exact rfl) (by exact rfl) (fun w H => ?_))
      | (show VcL _ _ _ _ (⟨_, .call ⟨.value (.func F_tithinglaw20_Awake), _, _⟩, _, _, _, _⟩ :: _) _ _ _; first
      | (refine VcL.callF ok_tithinglaw20_Awake rfl rfl rfl rfl (Rets.mono (Awake_any H) ?_); rintro _ w ⟨rfl, H⟩))
      | (show VcL _ _ _ _ (⟨_, .call ⟨.value (.func F_tithingtop_lockDeed), _, _⟩, _, _, _, _⟩ :: _) _ _ _; first
      | (refine VcL.callF ok_tithingtop_lockDeed rfl rfl rfl rfl (Rets.mono (hst _ _ _ H.drop ht) ?_); rintro _ w ⟨tl2, o2, H, hok2, ho2, hown2⟩))
      | (show VcL _ _ _ _ (⟨_, .call ⟨.value (.func F_lock_Valid), _, _⟩, _, _, _, _⟩ :: _) _ _ _; first
      | (refine VcL.callF ok_lock_Valid rfl rfl rfl rfl (Rets.mono (ValidOk_any H hok2) ?_); rintro _ w ⟨rfl, H⟩))
      | (show VcL _ _ _ _ (⟨_, .call ⟨.value (.func F_tithingtop_owned), _, _⟩, _, _, _, _⟩ :: _) _ _ _; first
      | (refine VcL.callF ok_tithingtop_owned rfl rfl rfl rfl (Rets.mono (owned_any H H.own_toR (by have := hok2.len; omega) hok2 ho2 hown2) ?_); rintro _ w ⟨rfl, H⟩))
      | (refine VcL.guard rfl rfl rfl rfl (fun h => ?_) (fun h => ?_) <;> first | (cases h; done) | (exfalso; simp only [decide_eq_true_eq, decide_eq_false_iff_not] at h; omega) | (with_reducible have hp := of_decide_eq_true h) | (with_reducible have hp := of_decide_eq_false h) | (with_reducible have hp := ndec_t h) | (with_reducible have hp := ndec_f h) | skip))
      | (show VcD _ _ _ _ _ _ _ _ _; first
      | refine VcD.pures tabOk (by first | exact H | exact Holds.drop H | exact Holds.drop (Holds.drop H)) rfl ?_
      | refine VcD.done ?_
      | (show VcD _ _ _ _ _ (.take _ _) _ _ _; first
      | refine VcD.load1 tabOk rfl rfl rfl rfl rfl rfl (by first | exact H | exact Holds.drop H | exact Holds.drop (Holds.drop H)) (by intro w_ hw_; first | exact Holds.cell hw_ rfl | exact Holds.cell (Holds.f1 hw_) rfl | exact Holds.cell (Holds.f2 hw_) rfl | exact Holds.cell (Holds.f3 hw_) rfl | exact Holds.cell (Holds.f4 hw_) rfl | exact Holds.cell (Holds.f5 hw_) rfl | exact Holds.cell (Holds.f6 hw_) rfl | exact RdW.get (by assumption) rfl hw_ | exact RdW.get0 (by assumption) rfl hw_ | exact RdW.get (by assumption) rfl (Holds.drop hw_) | exact RdW.get0 (by assumption) rfl (Holds.drop hw_) | exact RdW.get (by assumption) rfl (Holds.drop (Holds.drop hw_)) | exact RdW.get0 (by assumption) rfl (Holds.drop (Holds.drop hw_)) | exact RdW.get (by assumption) rfl (Holds.drop (Holds.drop (Holds.drop hw_))) | exact RdW.get0 (by assumption) rfl (Holds.drop (Holds.drop (Holds.drop hw_))) | assumption) (by exact rfl) ?_
      | refine VcD.loadR tabOk rfl rfl rfl rfl rfl rfl rfl (by first | exact H | exact Holds.drop H | exact Holds.drop (Holds.drop H)) (by intro w_ hw_; first | exact RdW.rd (by assumption) hw_ | exact RdW.rd (by assumption) (Holds.drop hw_) | exact RdW.rd (by assumption) (Holds.drop (Holds.drop hw_)) | exact RdW.rd (by assumption) (Holds.drop (Holds.drop (Holds.drop hw_))) | assumption) rfl ?_
      | refine VcD.loadN tabOk rfl rfl rfl rfl rfl rfl rfl (by first | exact H | exact Holds.drop H | exact Holds.drop (Holds.drop H)) (by intro w_ hw_; first | exact hw_ | exact (Holds.f1 hw_) | exact (Holds.f2 hw_) | exact (Holds.f3 hw_) | exact (Holds.f4 hw_) | exact (Holds.f5 hw_) | exact (Holds.f6 hw_)) (by exact rfl) ?_
      | refine VcD.indexAddr0 tabOk rfl rfl rfl rfl rfl rfl rfl (by first | exact H | exact Holds.drop H | exact Holds.drop (Holds.drop H)) (by omega) (by omega) ?_
      | refine VcD.indexAddr tabOk rfl rfl rfl rfl rfl rfl rfl (by first | exact H | exact Holds.drop H | exact Holds.drop (Holds.drop H)) (by omega) (by omega) ?_
      | refine VcD.indexArr0 tabOk rfl rfl rfl rfl rfl rfl rfl (by first | exact H | exact Holds.drop H | exact Holds.drop (Holds.drop H)) (by omega) (by omega) ?_
      | refine VcD.indexArr tabOk rfl rfl rfl rfl rfl rfl rfl (by first | exact H | exact Holds.drop H | exact Holds.drop (Holds.drop H)) (by omega) (by omega) ?_
      | (refine VcD.guardT rfl rfl rfl rfl rfl (fun h => ?_) (fun h => ?_) <;> first | (cases h; done) | (exfalso; simp only [decide_eq_true_eq, decide_eq_false_iff_not] at h; omega) | (with_reducible have hp := of_decide_eq_true h) | (with_reducible have hp := of_decide_eq_false h) | (with_reducible have hp := ndec_t h) | (with_reducible have hp := ndec_f h) | skip))
      | (show VcD _ _ _ _ _ (.only _ _) _ _ _; first
      | (refine VcD.callF (f := F_tithinglaw20_Awake) rfl ok_tithinglaw20_Awake rfl rfl rfl rfl (Rets.mono (Awake_any H) ?_); rintro _ w ⟨rfl, H⟩; refine ⟨(by first | exact H | exact Holds.drop H | exact Holds.drop (Holds.drop H)), ?_⟩)
      | (refine VcD.callF (f := F_tithingtop_lockDeed) rfl ok_tithingtop_lockDeed rfl rfl rfl rfl (Rets.mono (hst _ _ _ H.drop ht) ?_); rintro _ w ⟨tl2, o2, H, hok2, ho2, hown2⟩; refine ⟨(by first | exact H | exact Holds.drop H | exact Holds.drop (Holds.drop H)), ?_⟩)
      | (refine VcD.callF (f := F_lock_Valid) rfl ok_lock_Valid rfl rfl rfl rfl (Rets.mono (ValidOk_any H hok2) ?_); rintro _ w ⟨rfl, H⟩; refine ⟨(by first | exact H | exact Holds.drop H | exact Holds.drop (Holds.drop H)), ?_⟩)
      | (refine VcD.callF (f := F_tithingtop_owned) rfl ok_tithingtop_owned rfl rfl rfl rfl (Rets.mono (owned_any H H.own_toR (by have := hok2.len; omega) hok2 ho2 hown2) ?_); rintro _ w ⟨rfl, H⟩; refine ⟨(by first | exact H | exact Holds.drop H | exact Holds.drop (Holds.drop H)), ?_⟩)
      | refine VcD.skip rfl rfl rfl (by first | exact H | exact Holds.drop H | exact Holds.drop (Holds.drop H)) ?_
      | (refine VcD.guardO rfl rfl rfl rfl rfl (fun h => ?_) (fun h => ?_) <;> first | (cases h; done) | (exfalso; simp only [decide_eq_true_eq, decide_eq_false_iff_not] at h; omega) | (with_reducible have hp := of_decide_eq_true h) | (with_reducible have hp := of_decide_eq_false h) | (with_reducible have hp := ndec_t h) | (with_reducible have hp := ndec_f h) | skip))
      | (show VcD _ _ _ _ _ (.two _ _ _ _) _ _ _; refine VcD.two ?_ ?_))
      | (show EfO _ _ _ _ _ _ _ _ _; first
      | (refine EfO.call (f := F_tithinglaw20_Awake) rfl rfl rfl rfl (OpC.call ok_tithinglaw20_Awake rfl) (Rets.mono (Awake_any H) ?_); rintro _ w ⟨rfl, H⟩; refine ⟨(by first | exact H | exact Holds.drop H | exact Holds.drop (Holds.drop H)), ?_⟩)
      | (refine EfO.call (f := F_tithingtop_lockDeed) rfl rfl rfl rfl (OpC.call ok_tithingtop_lockDeed rfl) (Rets.mono (hst _ _ _ H.drop ht) ?_); rintro _ w ⟨tl2, o2, H, hok2, ho2, hown2⟩; refine ⟨(by first | exact H | exact Holds.drop H | exact Holds.drop (Holds.drop H)), ?_⟩)
      | (refine EfO.call (f := F_lock_Valid) rfl rfl rfl rfl (OpC.call ok_lock_Valid rfl) (Rets.mono (ValidOk_any H hok2) ?_); rintro _ w ⟨rfl, H⟩; refine ⟨(by first | exact H | exact Holds.drop H | exact Holds.drop (Holds.drop H)), ?_⟩)
      | (refine EfO.call (f := F_tithingtop_owned) rfl rfl rfl rfl (OpC.call ok_tithingtop_owned rfl) (Rets.mono (owned_any H H.own_toR (by have := hok2.len; omega) hok2 ho2 hown2) ?_); rintro _ w ⟨rfl, H⟩; refine ⟨(by first | exact H | exact Holds.drop H | exact Holds.drop (Holds.drop H)), ?_⟩))
      | (show Vc _ _ _ _ _ _; first
      | refine Vc.seq ?_
      | refine Vc.region ?_
      | refine Vc.condT rfl ?_
      | refine Vc.condF rfl ?_
      | refine Vc.ret ?_
      | refine Vc.skip ?_
      | refine Vc.block ?_
      | refine Vc.exit ?_
      | refine Vc.drawnH (id := 28) H (.take 0 (.take 1 (.take 4 (.take 5 (.take 2 (.take 3 (.take 6 (.take 7 (.only 8 (.take 9 (.take 10 (.take 11 (.take 12 (.take 13 (.take 14 (.take 15 (.take 16 (.take 17 (.take 18 (.take 19 (.take 20 (.take 21 (.take 22 (.take 23 (.take 24 (.take 25 (.take 26 (.take 27 (.take 28 (.take 29 (.take 30 (.take 31 (.take 32 (.take 33 (.take 34 (.take 35 (.take 36 (.take 37 .done)))))))))))))))))))))))))))))))))))))) mixed (by kernel_rfl) (fun w H => ?_)
      | (refine Vc.cond rfl (fun h => ?_) (fun h => ?_) <;> first | (cases h; done) | (exfalso; simp only [decide_eq_true_eq, decide_eq_false_iff_not] at h; omega) | (with_reducible have hp := of_decide_eq_true h) | (with_reducible have hp := of_decide_eq_false h) | (with_reducible have hp := ndec_t h) | (with_reducible have hp := ndec_f h) | skip))
      | (show KSeq _ _ _ _ _ _ _; first
      | refine KSeq.normal ?_
      | refine KSeq.ret ?_
      | refine KSeq.exit ?_)
      | (show KBlock _ _ _ _ _; first
      | refine KBlock.normal ?_
      | refine KBlock.here ?_
      | refine KBlock.on rfl ?_
      | refine KBlock.ret ?_)
      | refine KLoop.exit ?_
      | refine KLoop.ret ?_
      | refine KCut.exit ?_
      | refine KCut.ret ?_
      | (show KEnd _ _ _ _ _ _; first
      | refine KEnd.mk (Or.inr rfl) ⟨_, (ResL.tmp rfl ResL.nil), ?_⟩
      | refine KEnd.mk (Or.inl rfl) ⟨_, (ResL.tmp rfl ResL.nil), ?_⟩))
    have H := H.drop.drop
    refine Vc.loopS [(2, _)] (fun q : Nat × Value => [(12, q.2), (13, .int .i64 q.1)]) (fun q w => ∃ ml : List Md, Holds I w (ownM q.2 ml :: L) ∧ q.1 ≤ ms.length ∧ ml.length ≤ q.1 ∧ ml.Pairwise (fun a c => besS a c = true)) (fun q _ => ms.length - q.1) (0, .slice none 0 0) ⟨rfl, rfl, trivial⟩ ⟨rfl, trivial⟩ ⟨[], H.own_nil, by omega, by simp, List.Pairwise.nil⟩ ?_
    rintro ⟨j, mv⟩ w ⟨ml, H, hj, hml, hpw⟩
    dsimp only at H hj hml
    by_cases hjl : j < ms.length
    · obtain ⟨b4, o4, rfl, hr4⟩ := hz.at (by omega)
      have hy := hr4.elem mdC_len (mdAt_get hjl)
      repeat' (first
        | (refine VcL.loadR tabOk rfl rfl rfl rfl rfl rfl (Holds.rdAt (mid := oC o2) (pre := []) (post := []) (Holds.drop H) (by simp) rfl) (by rw [flat_len nC_len, ho2]) ?_)
        | (refine VcL.append tabOk rfl rfl rfl rfl H.swap H.own_src (oneM (mdAt ms j)) (by show (_ + 1) * 4 ≤ _; omega) rfl rfl rfl (fun v_ w H => ?_); have H := own_pushM (x := mdAt ms j) H.swap.drop)
        | (show VcL _ _ _ _ _ _ _ _; first
      | refine VcL.pures tabOk rfl ?_
      | refine VcL.nil ?_
      | (show VcL _ _ _ _ (⟨_, .load _ _, _, _, _, _⟩ :: _) _ _ _; first
      | refine VcL.load1 tabOk rfl rfl rfl rfl rfl (by first | exact Holds.cell H rfl | exact Holds.cell (Holds.f1 H) rfl | exact Holds.cell (Holds.f2 H) rfl | exact Holds.cell (Holds.f3 H) rfl | exact Holds.cell (Holds.f4 H) rfl | exact Holds.cell (Holds.f5 H) rfl | exact Holds.cell (Holds.f6 H) rfl | exact RdW.get (by assumption) rfl H | exact RdW.get0 (by assumption) rfl H | exact RdW.get (by assumption) rfl (Holds.drop H) | exact RdW.get0 (by assumption) rfl (Holds.drop H) | exact RdW.get (by assumption) rfl (Holds.drop (Holds.drop H)) | exact RdW.get0 (by assumption) rfl (Holds.drop (Holds.drop H)) | exact RdW.get (by assumption) rfl (Holds.drop (Holds.drop (Holds.drop H))) | exact RdW.get0 (by assumption) rfl (Holds.drop (Holds.drop (Holds.drop H))) | assumption) ?_
      | refine VcL.loadR tabOk rfl rfl rfl rfl rfl rfl (by first | exact RdW.rd (by assumption) H | exact RdW.rd (by assumption) (Holds.drop H) | exact RdW.rd (by assumption) (Holds.drop (Holds.drop H)) | exact RdW.rd (by assumption) (Holds.drop (Holds.drop (Holds.drop H))) | assumption) rfl ?_
      | refine VcL.loadN tabOk rfl rfl rfl rfl rfl rfl (by first | exact H | exact (Holds.f1 H) | exact (Holds.f2 H) | exact (Holds.f3 H) | exact (Holds.f4 H) | exact (Holds.f5 H) | exact (Holds.f6 H)) (by exact rfl) ?_)
      | (show VcL _ _ _ _ (⟨_, .binOp _ _ _ _ _, _, _, _, _⟩ :: _) _ _ _; first
      | refine VcL.eqS tabOk rfl rfl rfl rfl rfl rfl (by kernel_rfl) (by kernel_rfl) rfl rfl (by first | exact .inl rfl | exact .inr rfl) ?_)
      | (show VcL _ _ _ _ (⟨_, .indexAddr _ _ _, _, _, _, _⟩ :: _) _ _ _; first
      | refine VcL.indexAddr0 tabOk rfl rfl rfl rfl rfl rfl (by omega) (by omega) ?_
      | refine VcL.indexAddr tabOk rfl rfl rfl rfl rfl rfl (by omega) (by omega) ?_
      | refine VcL.indexArr0 tabOk rfl rfl rfl rfl rfl rfl (by omega) (by omega) ?_
      | refine VcL.indexArr tabOk rfl rfl rfl rfl rfl rfl (by omega) (by omega) ?_)
      | refine VcL.alloc tabOk H rfl rfl rfl rfl (fun b w H => ?_)
      | refine VcL.buildSlice tabOk H rfl rfl rfl rfl rfl rfl (fun sv w H => ?_)
      | (show VcL _ _ _ _ (⟨_, .store _ _ _, _, _, _, _⟩ :: _) _ _ _; first
      | refine VcL.store tabOk rfl (by first | exact H | exact (Holds.f1 H) | exact (Holds.f2 H) | exact (Holds.f3 H) | exact (Holds.f4 H) | exact (Holds.f5 H) | exact (Holds.f6 H)) rfl rfl (by exact rfl) (by exact rfl) (by exact rfl) (by exact rfl) (fun w H => ?_))
      | (show VcL _ _ _ _ (⟨_, .call ⟨.value (.func F_tithinglaw20_Awake), _, _⟩, _, _, _, _⟩ :: _) _ _ _; first
      | (refine VcL.callF ok_tithinglaw20_Awake rfl rfl rfl rfl (Rets.mono (Awake_any H) ?_); rintro _ w ⟨rfl, H⟩))
      | (show VcL _ _ _ _ (⟨_, .call ⟨.value (.func F_tithingtop_lockDeed), _, _⟩, _, _, _, _⟩ :: _) _ _ _; first
      | (refine VcL.callF ok_tithingtop_lockDeed rfl rfl rfl rfl (Rets.mono (hst _ _ _ H.drop ht) ?_); rintro _ w ⟨tl2, o2, H, hok2, ho2, hown2⟩))
      | (show VcL _ _ _ _ (⟨_, .call ⟨.value (.func F_lock_Valid), _, _⟩, _, _, _, _⟩ :: _) _ _ _; first
      | (refine VcL.callF ok_lock_Valid rfl rfl rfl rfl (Rets.mono (ValidOk_any H hok2) ?_); rintro _ w ⟨rfl, H⟩))
      | (show VcL _ _ _ _ (⟨_, .call ⟨.value (.func F_tithingtop_owned), _, _⟩, _, _, _, _⟩ :: _) _ _ _; first
      | (refine VcL.callF ok_tithingtop_owned rfl rfl rfl rfl (Rets.mono (owned_any H H.own_toR (by have := hok2.len; omega) hok2 ho2 hown2) ?_); rintro _ w ⟨rfl, H⟩))
      | (show VcL _ _ _ _ (⟨_, .call ⟨.value (.func F_lock_May2), _, _⟩, _, _, _, _⟩ :: _) _ _ _; first
      | (refine VcL.callF ok_lock_May2 rfl rfl rfl rfl (Rets.mono (May2_any H H.own_toR (by omega) (mdAt ms j)) ?_); rintro _ w ⟨rfl, H⟩))
      | (refine VcL.guard rfl rfl rfl rfl (fun h => ?_) (fun h => ?_) <;> first | (cases h; done) | (exfalso; simp only [decide_eq_true_eq, decide_eq_false_iff_not] at h; omega) | (with_reducible have hp := of_decide_eq_true h) | (with_reducible have hp := of_decide_eq_false h) | (with_reducible have hp := ndec_t h) | (with_reducible have hp := ndec_f h) | skip))
        | (show VcD _ _ _ _ _ _ _ _ _; first
      | refine VcD.pures tabOk (by first | exact H | exact Holds.drop H | exact Holds.drop (Holds.drop H)) rfl ?_
      | refine VcD.done ?_
      | (show VcD _ _ _ _ _ (.take _ _) _ _ _; first
      | refine VcD.load1 tabOk rfl rfl rfl rfl rfl rfl (by first | exact H | exact Holds.drop H | exact Holds.drop (Holds.drop H)) (by intro w_ hw_; first | exact Holds.cell hw_ rfl | exact Holds.cell (Holds.f1 hw_) rfl | exact Holds.cell (Holds.f2 hw_) rfl | exact Holds.cell (Holds.f3 hw_) rfl | exact Holds.cell (Holds.f4 hw_) rfl | exact Holds.cell (Holds.f5 hw_) rfl | exact Holds.cell (Holds.f6 hw_) rfl | exact RdW.get (by assumption) rfl hw_ | exact RdW.get0 (by assumption) rfl hw_ | exact RdW.get (by assumption) rfl (Holds.drop hw_) | exact RdW.get0 (by assumption) rfl (Holds.drop hw_) | exact RdW.get (by assumption) rfl (Holds.drop (Holds.drop hw_)) | exact RdW.get0 (by assumption) rfl (Holds.drop (Holds.drop hw_)) | exact RdW.get (by assumption) rfl (Holds.drop (Holds.drop (Holds.drop hw_))) | exact RdW.get0 (by assumption) rfl (Holds.drop (Holds.drop (Holds.drop hw_))) | assumption) (by exact rfl) ?_
      | refine VcD.loadR tabOk rfl rfl rfl rfl rfl rfl rfl (by first | exact H | exact Holds.drop H | exact Holds.drop (Holds.drop H)) (by intro w_ hw_; first | exact RdW.rd (by assumption) hw_ | exact RdW.rd (by assumption) (Holds.drop hw_) | exact RdW.rd (by assumption) (Holds.drop (Holds.drop hw_)) | exact RdW.rd (by assumption) (Holds.drop (Holds.drop (Holds.drop hw_))) | assumption) rfl ?_
      | refine VcD.loadN tabOk rfl rfl rfl rfl rfl rfl rfl (by first | exact H | exact Holds.drop H | exact Holds.drop (Holds.drop H)) (by intro w_ hw_; first | exact hw_ | exact (Holds.f1 hw_) | exact (Holds.f2 hw_) | exact (Holds.f3 hw_) | exact (Holds.f4 hw_) | exact (Holds.f5 hw_) | exact (Holds.f6 hw_)) (by exact rfl) ?_
      | refine VcD.indexAddr0 tabOk rfl rfl rfl rfl rfl rfl rfl (by first | exact H | exact Holds.drop H | exact Holds.drop (Holds.drop H)) (by omega) (by omega) ?_
      | refine VcD.indexAddr tabOk rfl rfl rfl rfl rfl rfl rfl (by first | exact H | exact Holds.drop H | exact Holds.drop (Holds.drop H)) (by omega) (by omega) ?_
      | refine VcD.indexArr0 tabOk rfl rfl rfl rfl rfl rfl rfl (by first | exact H | exact Holds.drop H | exact Holds.drop (Holds.drop H)) (by omega) (by omega) ?_
      | refine VcD.indexArr tabOk rfl rfl rfl rfl rfl rfl rfl (by first | exact H | exact Holds.drop H | exact Holds.drop (Holds.drop H)) (by omega) (by omega) ?_
      | (refine VcD.guardT rfl rfl rfl rfl rfl (fun h => ?_) (fun h => ?_) <;> first | (cases h; done) | (exfalso; simp only [decide_eq_true_eq, decide_eq_false_iff_not] at h; omega) | (with_reducible have hp := of_decide_eq_true h) | (with_reducible have hp := of_decide_eq_false h) | (with_reducible have hp := ndec_t h) | (with_reducible have hp := ndec_f h) | skip))
      | (show VcD _ _ _ _ _ (.only _ _) _ _ _; first
      | (refine VcD.callF (f := F_tithinglaw20_Awake) rfl ok_tithinglaw20_Awake rfl rfl rfl rfl (Rets.mono (Awake_any H) ?_); rintro _ w ⟨rfl, H⟩; refine ⟨(by first | exact H | exact Holds.drop H | exact Holds.drop (Holds.drop H)), ?_⟩)
      | (refine VcD.callF (f := F_tithingtop_lockDeed) rfl ok_tithingtop_lockDeed rfl rfl rfl rfl (Rets.mono (hst _ _ _ H.drop ht) ?_); rintro _ w ⟨tl2, o2, H, hok2, ho2, hown2⟩; refine ⟨(by first | exact H | exact Holds.drop H | exact Holds.drop (Holds.drop H)), ?_⟩)
      | (refine VcD.callF (f := F_lock_Valid) rfl ok_lock_Valid rfl rfl rfl rfl (Rets.mono (ValidOk_any H hok2) ?_); rintro _ w ⟨rfl, H⟩; refine ⟨(by first | exact H | exact Holds.drop H | exact Holds.drop (Holds.drop H)), ?_⟩)
      | (refine VcD.callF (f := F_tithingtop_owned) rfl ok_tithingtop_owned rfl rfl rfl rfl (Rets.mono (owned_any H H.own_toR (by have := hok2.len; omega) hok2 ho2 hown2) ?_); rintro _ w ⟨rfl, H⟩; refine ⟨(by first | exact H | exact Holds.drop H | exact Holds.drop (Holds.drop H)), ?_⟩)
      | (refine VcD.callF (f := F_lock_May2) rfl ok_lock_May2 rfl rfl rfl rfl (Rets.mono (May2_any H H.own_toR (by omega) (mdAt ms j)) ?_); rintro _ w ⟨rfl, H⟩; refine ⟨(by first | exact H | exact Holds.drop H | exact Holds.drop (Holds.drop H)), ?_⟩)
      | refine VcD.skip rfl rfl rfl (by first | exact H | exact Holds.drop H | exact Holds.drop (Holds.drop H)) ?_
      | (refine VcD.guardO rfl rfl rfl rfl rfl (fun h => ?_) (fun h => ?_) <;> first | (cases h; done) | (exfalso; simp only [decide_eq_true_eq, decide_eq_false_iff_not] at h; omega) | (with_reducible have hp := of_decide_eq_true h) | (with_reducible have hp := of_decide_eq_false h) | (with_reducible have hp := ndec_t h) | (with_reducible have hp := ndec_f h) | skip))
      | (show VcD _ _ _ _ _ (.two _ _ _ _) _ _ _; refine VcD.two ?_ ?_))
        | (show EfO _ _ _ _ _ _ _ _ _; first
      | (refine EfO.call (f := F_tithinglaw20_Awake) rfl rfl rfl rfl (OpC.call ok_tithinglaw20_Awake rfl) (Rets.mono (Awake_any H) ?_); rintro _ w ⟨rfl, H⟩; refine ⟨(by first | exact H | exact Holds.drop H | exact Holds.drop (Holds.drop H)), ?_⟩)
      | (refine EfO.call (f := F_tithingtop_lockDeed) rfl rfl rfl rfl (OpC.call ok_tithingtop_lockDeed rfl) (Rets.mono (hst _ _ _ H.drop ht) ?_); rintro _ w ⟨tl2, o2, H, hok2, ho2, hown2⟩; refine ⟨(by first | exact H | exact Holds.drop H | exact Holds.drop (Holds.drop H)), ?_⟩)
      | (refine EfO.call (f := F_lock_Valid) rfl rfl rfl rfl (OpC.call ok_lock_Valid rfl) (Rets.mono (ValidOk_any H hok2) ?_); rintro _ w ⟨rfl, H⟩; refine ⟨(by first | exact H | exact Holds.drop H | exact Holds.drop (Holds.drop H)), ?_⟩)
      | (refine EfO.call (f := F_tithingtop_owned) rfl rfl rfl rfl (OpC.call ok_tithingtop_owned rfl) (Rets.mono (owned_any H H.own_toR (by have := hok2.len; omega) hok2 ho2 hown2) ?_); rintro _ w ⟨rfl, H⟩; refine ⟨(by first | exact H | exact Holds.drop H | exact Holds.drop (Holds.drop H)), ?_⟩)
      | (refine EfO.call (f := F_lock_May2) rfl rfl rfl rfl (OpC.call ok_lock_May2 rfl) (Rets.mono (May2_any H H.own_toR (by omega) (mdAt ms j)) ?_); rintro _ w ⟨rfl, H⟩; refine ⟨(by first | exact H | exact Holds.drop H | exact Holds.drop (Holds.drop H)), ?_⟩))
        | (show Vc _ _ _ _ _ _; first
      | refine Vc.seq ?_
      | refine Vc.region ?_
      | refine Vc.condT rfl ?_
      | refine Vc.condF rfl ?_
      | refine Vc.ret ?_
      | refine Vc.skip ?_
      | refine Vc.block ?_
      | refine Vc.exit ?_
      | refine Vc.drawnH (id := 28) H (.take 0 (.take 1 (.take 4 (.take 5 (.take 2 (.take 3 (.take 6 (.take 7 (.only 8 (.take 9 (.take 10 (.take 11 (.take 12 (.take 13 (.take 14 (.take 15 (.take 16 (.take 17 (.take 18 (.take 19 (.take 20 (.take 21 (.take 22 (.take 23 (.take 24 (.take 25 (.take 26 (.take 27 (.take 28 (.take 29 (.take 30 (.take 31 (.take 32 (.take 33 (.take 34 (.take 35 (.take 36 (.take 37 .done)))))))))))))))))))))))))))))))))))))) mixed (by kernel_rfl) (fun w H => ?_)
      | (refine Vc.cond rfl (fun h => ?_) (fun h => ?_) <;> first | (cases h; done) | (exfalso; simp only [decide_eq_true_eq, decide_eq_false_iff_not] at h; omega) | (with_reducible have hp := of_decide_eq_true h) | (with_reducible have hp := of_decide_eq_false h) | (with_reducible have hp := ndec_t h) | (with_reducible have hp := ndec_f h) | skip))
        | (show KSeq _ _ _ _ _ _ _; first
      | refine KSeq.normal ?_
      | refine KSeq.ret ?_
      | refine KSeq.exit ?_)
        | (show KBlock _ _ _ _ _; first
      | refine KBlock.normal ?_
      | refine KBlock.here ?_
      | refine KBlock.on rfl ?_
      | refine KBlock.ret ?_)
        | refine KLoop.exit ?_
        | refine KLoop.ret ?_
        | refine KCut.exit ?_
        | refine KCut.ret ?_
        | (show KEnd _ _ _ _ _ _; first
      | refine KEnd.mk (Or.inr rfl) ⟨_, (ResL.tmp rfl ResL.nil), ?_⟩
      | refine KEnd.mk (Or.inl rfl) ⟨_, (ResL.tmp rfl ResL.nil), ?_⟩))
      · refine KLoop.again (j + 1, v_) ⟨rfl, got_succ rfl (by omega), trivial⟩ ⟨rfl, trivial⟩ ⟨ml ++ [mdAt ms j], H, hjl, by simp; omega, ?_⟩ (by dsimp only; omega)
        rw [List.pairwise_append]
        refine ⟨hpw, by simp, fun a ha c hc => ?_⟩
        obtain rfl : c = mdAt ms j := by simpa using hc
        exact firstM_none hp a ha
      · exact KLoop.again (j + 1, _) ⟨rfl, got_succ rfl (by omega), trivial⟩ ⟨rfl, trivial⟩ ⟨ml, H, hjl, by omega, hpw⟩ (by dsimp only; omega)
    ·
      obtain ⟨_, a5, c5, rfl⟩ := H.own_len
      have hm5 : SlM I (ownM (.slice a5 ml.length c5) ml :: L) (.slice a5 ml.length c5) ml := H.own_toR
      repeat' (first
        | (refine VcL.loadR tabOk rfl rfl rfl rfl rfl rfl (Holds.rdAt (mid := oC o2) (pre := []) (post := []) (Holds.drop H) (by simp) rfl) (by rw [flat_len nC_len, ho2]) ?_)
        | (refine VcL.append tabOk rfl rfl rfl rfl H.swap H.own_src (oneM (mdAt ms j)) (by show (_ + 1) * 4 ≤ _; omega) rfl rfl rfl (fun v_ w H => ?_); have H := own_pushM (x := mdAt ms j) H.swap.drop)
        | (show VcL _ _ _ _ _ _ _ _; first
      | refine VcL.pures tabOk rfl ?_
      | refine VcL.nil ?_
      | (show VcL _ _ _ _ (⟨_, .load _ _, _, _, _, _⟩ :: _) _ _ _; first
      | refine VcL.load1 tabOk rfl rfl rfl rfl rfl (by first | exact Holds.cell H rfl | exact Holds.cell (Holds.f1 H) rfl | exact Holds.cell (Holds.f2 H) rfl | exact Holds.cell (Holds.f3 H) rfl | exact Holds.cell (Holds.f4 H) rfl | exact Holds.cell (Holds.f5 H) rfl | exact Holds.cell (Holds.f6 H) rfl | exact RdW.get (by assumption) rfl H | exact RdW.get0 (by assumption) rfl H | exact RdW.get (by assumption) rfl (Holds.drop H) | exact RdW.get0 (by assumption) rfl (Holds.drop H) | exact RdW.get (by assumption) rfl (Holds.drop (Holds.drop H)) | exact RdW.get0 (by assumption) rfl (Holds.drop (Holds.drop H)) | exact RdW.get (by assumption) rfl (Holds.drop (Holds.drop (Holds.drop H))) | exact RdW.get0 (by assumption) rfl (Holds.drop (Holds.drop (Holds.drop H))) | assumption) ?_
      | refine VcL.loadR tabOk rfl rfl rfl rfl rfl rfl (by first | exact RdW.rd (by assumption) H | exact RdW.rd (by assumption) (Holds.drop H) | exact RdW.rd (by assumption) (Holds.drop (Holds.drop H)) | exact RdW.rd (by assumption) (Holds.drop (Holds.drop (Holds.drop H))) | assumption) rfl ?_
      | refine VcL.loadN tabOk rfl rfl rfl rfl rfl rfl (by first | exact H | exact (Holds.f1 H) | exact (Holds.f2 H) | exact (Holds.f3 H) | exact (Holds.f4 H) | exact (Holds.f5 H) | exact (Holds.f6 H)) (by exact rfl) ?_)
      | (show VcL _ _ _ _ (⟨_, .binOp _ _ _ _ _, _, _, _, _⟩ :: _) _ _ _; first
      | refine VcL.eqS tabOk rfl rfl rfl rfl rfl rfl (by kernel_rfl) (by kernel_rfl) rfl rfl (by first | exact .inl rfl | exact .inr rfl) ?_)
      | (show VcL _ _ _ _ (⟨_, .indexAddr _ _ _, _, _, _, _⟩ :: _) _ _ _; first
      | refine VcL.indexAddr0 tabOk rfl rfl rfl rfl rfl rfl (by omega) (by omega) ?_
      | refine VcL.indexAddr tabOk rfl rfl rfl rfl rfl rfl (by omega) (by omega) ?_
      | refine VcL.indexArr0 tabOk rfl rfl rfl rfl rfl rfl (by omega) (by omega) ?_
      | refine VcL.indexArr tabOk rfl rfl rfl rfl rfl rfl (by omega) (by omega) ?_)
      | refine VcL.alloc tabOk H rfl rfl rfl rfl (fun b w H => ?_)
      | refine VcL.buildSlice tabOk H rfl rfl rfl rfl rfl rfl (fun sv w H => ?_)
      | (show VcL _ _ _ _ (⟨_, .store _ _ _, _, _, _, _⟩ :: _) _ _ _; first
      | refine VcL.store tabOk rfl (by first | exact H | exact (Holds.f1 H) | exact (Holds.f2 H) | exact (Holds.f3 H) | exact (Holds.f4 H) | exact (Holds.f5 H) | exact (Holds.f6 H)) rfl rfl (by exact rfl) (by exact rfl) (by exact rfl) (by exact rfl) (fun w H => ?_))
      | (show VcL _ _ _ _ (⟨_, .call ⟨.value (.func F_tithinglaw20_Awake), _, _⟩, _, _, _, _⟩ :: _) _ _ _; first
      | (refine VcL.callF ok_tithinglaw20_Awake rfl rfl rfl rfl (Rets.mono (Awake_any H) ?_); rintro _ w ⟨rfl, H⟩))
      | (show VcL _ _ _ _ (⟨_, .call ⟨.value (.func F_tithingtop_lockDeed), _, _⟩, _, _, _, _⟩ :: _) _ _ _; first
      | (refine VcL.callF ok_tithingtop_lockDeed rfl rfl rfl rfl (Rets.mono (hst _ _ _ H.drop ht) ?_); rintro _ w ⟨tl2, o2, H, hok2, ho2, hown2⟩))
      | (show VcL _ _ _ _ (⟨_, .call ⟨.value (.func F_lock_Valid), _, _⟩, _, _, _, _⟩ :: _) _ _ _; first
      | (refine VcL.callF ok_lock_Valid rfl rfl rfl rfl (Rets.mono (ValidOk_any H hok2) ?_); rintro _ w ⟨rfl, H⟩))
      | (show VcL _ _ _ _ (⟨_, .call ⟨.value (.func F_tithingtop_owned), _, _⟩, _, _, _, _⟩ :: _) _ _ _; first
      | (refine VcL.callF ok_tithingtop_owned rfl rfl rfl rfl (Rets.mono (owned_any H H.own_toR (by have := hok2.len; omega) hok2 ho2 hown2) ?_); rintro _ w ⟨rfl, H⟩))
      | (show VcL _ _ _ _ (⟨_, .call ⟨.value (.func F_lock_May2), _, _⟩, _, _, _, _⟩ :: _) _ _ _; first
      | (refine VcL.callF ok_lock_May2 rfl rfl rfl rfl (Rets.mono (May2_any H H.own_toR (by omega) (mdAt ms j)) ?_); rintro _ w ⟨rfl, H⟩))
      | (refine VcL.guard rfl rfl rfl rfl (fun h => ?_) (fun h => ?_) <;> first | (cases h; done) | (exfalso; simp only [decide_eq_true_eq, decide_eq_false_iff_not] at h; omega) | (with_reducible have hp := of_decide_eq_true h) | (with_reducible have hp := of_decide_eq_false h) | (with_reducible have hp := ndec_t h) | (with_reducible have hp := ndec_f h) | skip))
        | (show VcD _ _ _ _ _ _ _ _ _; first
      | refine VcD.pures tabOk (by first | exact H | exact Holds.drop H | exact Holds.drop (Holds.drop H)) rfl ?_
      | refine VcD.done ?_
      | (show VcD _ _ _ _ _ (.take _ _) _ _ _; first
      | refine VcD.load1 tabOk rfl rfl rfl rfl rfl rfl (by first | exact H | exact Holds.drop H | exact Holds.drop (Holds.drop H)) (by intro w_ hw_; first | exact Holds.cell hw_ rfl | exact Holds.cell (Holds.f1 hw_) rfl | exact Holds.cell (Holds.f2 hw_) rfl | exact Holds.cell (Holds.f3 hw_) rfl | exact Holds.cell (Holds.f4 hw_) rfl | exact Holds.cell (Holds.f5 hw_) rfl | exact Holds.cell (Holds.f6 hw_) rfl | exact RdW.get (by assumption) rfl hw_ | exact RdW.get0 (by assumption) rfl hw_ | exact RdW.get (by assumption) rfl (Holds.drop hw_) | exact RdW.get0 (by assumption) rfl (Holds.drop hw_) | exact RdW.get (by assumption) rfl (Holds.drop (Holds.drop hw_)) | exact RdW.get0 (by assumption) rfl (Holds.drop (Holds.drop hw_)) | exact RdW.get (by assumption) rfl (Holds.drop (Holds.drop (Holds.drop hw_))) | exact RdW.get0 (by assumption) rfl (Holds.drop (Holds.drop (Holds.drop hw_))) | assumption) (by exact rfl) ?_
      | refine VcD.loadR tabOk rfl rfl rfl rfl rfl rfl rfl (by first | exact H | exact Holds.drop H | exact Holds.drop (Holds.drop H)) (by intro w_ hw_; first | exact RdW.rd (by assumption) hw_ | exact RdW.rd (by assumption) (Holds.drop hw_) | exact RdW.rd (by assumption) (Holds.drop (Holds.drop hw_)) | exact RdW.rd (by assumption) (Holds.drop (Holds.drop (Holds.drop hw_))) | assumption) rfl ?_
      | refine VcD.loadN tabOk rfl rfl rfl rfl rfl rfl rfl (by first | exact H | exact Holds.drop H | exact Holds.drop (Holds.drop H)) (by intro w_ hw_; first | exact hw_ | exact (Holds.f1 hw_) | exact (Holds.f2 hw_) | exact (Holds.f3 hw_) | exact (Holds.f4 hw_) | exact (Holds.f5 hw_) | exact (Holds.f6 hw_)) (by exact rfl) ?_
      | refine VcD.indexAddr0 tabOk rfl rfl rfl rfl rfl rfl rfl (by first | exact H | exact Holds.drop H | exact Holds.drop (Holds.drop H)) (by omega) (by omega) ?_
      | refine VcD.indexAddr tabOk rfl rfl rfl rfl rfl rfl rfl (by first | exact H | exact Holds.drop H | exact Holds.drop (Holds.drop H)) (by omega) (by omega) ?_
      | refine VcD.indexArr0 tabOk rfl rfl rfl rfl rfl rfl rfl (by first | exact H | exact Holds.drop H | exact Holds.drop (Holds.drop H)) (by omega) (by omega) ?_
      | refine VcD.indexArr tabOk rfl rfl rfl rfl rfl rfl rfl (by first | exact H | exact Holds.drop H | exact Holds.drop (Holds.drop H)) (by omega) (by omega) ?_
      | (refine VcD.guardT rfl rfl rfl rfl rfl (fun h => ?_) (fun h => ?_) <;> first | (cases h; done) | (exfalso; simp only [decide_eq_true_eq, decide_eq_false_iff_not] at h; omega) | (with_reducible have hp := of_decide_eq_true h) | (with_reducible have hp := of_decide_eq_false h) | (with_reducible have hp := ndec_t h) | (with_reducible have hp := ndec_f h) | skip))
      | (show VcD _ _ _ _ _ (.only _ _) _ _ _; first
      | (refine VcD.callF (f := F_tithinglaw20_Awake) rfl ok_tithinglaw20_Awake rfl rfl rfl rfl (Rets.mono (Awake_any H) ?_); rintro _ w ⟨rfl, H⟩; refine ⟨(by first | exact H | exact Holds.drop H | exact Holds.drop (Holds.drop H)), ?_⟩)
      | (refine VcD.callF (f := F_tithingtop_lockDeed) rfl ok_tithingtop_lockDeed rfl rfl rfl rfl (Rets.mono (hst _ _ _ H.drop ht) ?_); rintro _ w ⟨tl2, o2, H, hok2, ho2, hown2⟩; refine ⟨(by first | exact H | exact Holds.drop H | exact Holds.drop (Holds.drop H)), ?_⟩)
      | (refine VcD.callF (f := F_lock_Valid) rfl ok_lock_Valid rfl rfl rfl rfl (Rets.mono (ValidOk_any H hok2) ?_); rintro _ w ⟨rfl, H⟩; refine ⟨(by first | exact H | exact Holds.drop H | exact Holds.drop (Holds.drop H)), ?_⟩)
      | (refine VcD.callF (f := F_tithingtop_owned) rfl ok_tithingtop_owned rfl rfl rfl rfl (Rets.mono (owned_any H H.own_toR (by have := hok2.len; omega) hok2 ho2 hown2) ?_); rintro _ w ⟨rfl, H⟩; refine ⟨(by first | exact H | exact Holds.drop H | exact Holds.drop (Holds.drop H)), ?_⟩)
      | (refine VcD.callF (f := F_lock_May2) rfl ok_lock_May2 rfl rfl rfl rfl (Rets.mono (May2_any H H.own_toR (by omega) (mdAt ms j)) ?_); rintro _ w ⟨rfl, H⟩; refine ⟨(by first | exact H | exact Holds.drop H | exact Holds.drop (Holds.drop H)), ?_⟩)
      | refine VcD.skip rfl rfl rfl (by first | exact H | exact Holds.drop H | exact Holds.drop (Holds.drop H)) ?_
      | (refine VcD.guardO rfl rfl rfl rfl rfl (fun h => ?_) (fun h => ?_) <;> first | (cases h; done) | (exfalso; simp only [decide_eq_true_eq, decide_eq_false_iff_not] at h; omega) | (with_reducible have hp := of_decide_eq_true h) | (with_reducible have hp := of_decide_eq_false h) | (with_reducible have hp := ndec_t h) | (with_reducible have hp := ndec_f h) | skip))
      | (show VcD _ _ _ _ _ (.two _ _ _ _) _ _ _; refine VcD.two ?_ ?_))
        | (show EfO _ _ _ _ _ _ _ _ _; first
      | (refine EfO.call (f := F_tithinglaw20_Awake) rfl rfl rfl rfl (OpC.call ok_tithinglaw20_Awake rfl) (Rets.mono (Awake_any H) ?_); rintro _ w ⟨rfl, H⟩; refine ⟨(by first | exact H | exact Holds.drop H | exact Holds.drop (Holds.drop H)), ?_⟩)
      | (refine EfO.call (f := F_tithingtop_lockDeed) rfl rfl rfl rfl (OpC.call ok_tithingtop_lockDeed rfl) (Rets.mono (hst _ _ _ H.drop ht) ?_); rintro _ w ⟨tl2, o2, H, hok2, ho2, hown2⟩; refine ⟨(by first | exact H | exact Holds.drop H | exact Holds.drop (Holds.drop H)), ?_⟩)
      | (refine EfO.call (f := F_lock_Valid) rfl rfl rfl rfl (OpC.call ok_lock_Valid rfl) (Rets.mono (ValidOk_any H hok2) ?_); rintro _ w ⟨rfl, H⟩; refine ⟨(by first | exact H | exact Holds.drop H | exact Holds.drop (Holds.drop H)), ?_⟩)
      | (refine EfO.call (f := F_tithingtop_owned) rfl rfl rfl rfl (OpC.call ok_tithingtop_owned rfl) (Rets.mono (owned_any H H.own_toR (by have := hok2.len; omega) hok2 ho2 hown2) ?_); rintro _ w ⟨rfl, H⟩; refine ⟨(by first | exact H | exact Holds.drop H | exact Holds.drop (Holds.drop H)), ?_⟩)
      | (refine EfO.call (f := F_lock_May2) rfl rfl rfl rfl (OpC.call ok_lock_May2 rfl) (Rets.mono (May2_any H H.own_toR (by omega) (mdAt ms j)) ?_); rintro _ w ⟨rfl, H⟩; refine ⟨(by first | exact H | exact Holds.drop H | exact Holds.drop (Holds.drop H)), ?_⟩))
        | (show Vc _ _ _ _ _ _; first
      | refine Vc.seq ?_
      | refine Vc.region ?_
      | refine Vc.condT rfl ?_
      | refine Vc.condF rfl ?_
      | refine Vc.ret ?_
      | refine Vc.skip ?_
      | refine Vc.block ?_
      | refine Vc.exit ?_
      | refine Vc.drawnH (id := 28) H (.take 0 (.take 1 (.take 4 (.take 5 (.take 2 (.take 3 (.take 6 (.take 7 (.only 8 (.take 9 (.take 10 (.take 11 (.take 12 (.take 13 (.take 14 (.take 15 (.take 16 (.take 17 (.take 18 (.take 19 (.take 20 (.take 21 (.take 22 (.take 23 (.take 24 (.take 25 (.take 26 (.take 27 (.take 28 (.take 29 (.take 30 (.take 31 (.take 32 (.take 33 (.take 34 (.take 35 (.take 36 (.take 37 .done)))))))))))))))))))))))))))))))))))))) mixed (by kernel_rfl) (fun w H => ?_)
      | (refine Vc.cond rfl (fun h => ?_) (fun h => ?_) <;> first | (cases h; done) | (exfalso; simp only [decide_eq_true_eq, decide_eq_false_iff_not] at h; omega) | (with_reducible have hp := of_decide_eq_true h) | (with_reducible have hp := of_decide_eq_false h) | (with_reducible have hp := ndec_t h) | (with_reducible have hp := ndec_f h) | skip))
        | (show KSeq _ _ _ _ _ _ _; first
      | refine KSeq.normal ?_
      | refine KSeq.ret ?_
      | refine KSeq.exit ?_)
        | (show KBlock _ _ _ _ _; first
      | refine KBlock.normal ?_
      | refine KBlock.here ?_
      | refine KBlock.on rfl ?_
      | refine KBlock.ret ?_)
        | refine KLoop.exit ?_
        | refine KLoop.ret ?_
        | refine KCut.exit ?_
        | refine KCut.ret ?_
        | (show KEnd _ _ _ _ _ _; first
      | refine KEnd.mk (Or.inr rfl) ⟨_, (ResL.tmp rfl ResL.nil), ?_⟩
      | refine KEnd.mk (Or.inl rfl) ⟨_, (ResL.tmp rfl ResL.nil), ?_⟩))
      refine Vc.loopS [(12, _)] (fun i : Nat => [(14, .int .i64 i)]) (fun i w => Holds I w (ownM (.slice a5 ml.length c5) ml :: L) ∧ i ≤ ml.length) (fun i _ => ml.length - i) 0 ⟨rfl, trivial⟩ ⟨rfl, trivial⟩ ⟨H, by omega⟩ ?_
      rintro i w ⟨H, hi⟩
      by_cases hil : i < ml.length
      · obtain ⟨b6, o6, rfl, hr6⟩ := hm5.at (by omega)
        have hx6 := hr6.elem mdC_len (mdAt_get hil)
        repeat' (first
          | (refine VcL.loadR tabOk rfl rfl rfl rfl rfl rfl (Holds.rdAt (mid := oC o2) (pre := []) (post := []) (Holds.drop H) (by simp) rfl) (by rw [flat_len nC_len, ho2]) ?_)
          | (refine VcL.append tabOk rfl rfl rfl rfl H.swap H.own_src (oneM (mdAt ms j)) (by show (_ + 1) * 4 ≤ _; omega) rfl rfl rfl (fun v_ w H => ?_); have H := own_pushM (x := mdAt ms j) H.swap.drop)
          | (show VcL _ _ _ _ _ _ _ _; first
      | refine VcL.pures tabOk rfl ?_
      | refine VcL.nil ?_
      | (show VcL _ _ _ _ (⟨_, .load _ _, _, _, _, _⟩ :: _) _ _ _; first
      | refine VcL.load1 tabOk rfl rfl rfl rfl rfl (by first | exact Holds.cell H rfl | exact Holds.cell (Holds.f1 H) rfl | exact Holds.cell (Holds.f2 H) rfl | exact Holds.cell (Holds.f3 H) rfl | exact Holds.cell (Holds.f4 H) rfl | exact Holds.cell (Holds.f5 H) rfl | exact Holds.cell (Holds.f6 H) rfl | exact RdW.get (by assumption) rfl H | exact RdW.get0 (by assumption) rfl H | exact RdW.get (by assumption) rfl (Holds.drop H) | exact RdW.get0 (by assumption) rfl (Holds.drop H) | exact RdW.get (by assumption) rfl (Holds.drop (Holds.drop H)) | exact RdW.get0 (by assumption) rfl (Holds.drop (Holds.drop H)) | exact RdW.get (by assumption) rfl (Holds.drop (Holds.drop (Holds.drop H))) | exact RdW.get0 (by assumption) rfl (Holds.drop (Holds.drop (Holds.drop H))) | assumption) ?_
      | refine VcL.loadR tabOk rfl rfl rfl rfl rfl rfl (by first | exact RdW.rd (by assumption) H | exact RdW.rd (by assumption) (Holds.drop H) | exact RdW.rd (by assumption) (Holds.drop (Holds.drop H)) | exact RdW.rd (by assumption) (Holds.drop (Holds.drop (Holds.drop H))) | assumption) rfl ?_
      | refine VcL.loadN tabOk rfl rfl rfl rfl rfl rfl (by first | exact H | exact (Holds.f1 H) | exact (Holds.f2 H) | exact (Holds.f3 H) | exact (Holds.f4 H) | exact (Holds.f5 H) | exact (Holds.f6 H)) (by exact rfl) ?_)
      | (show VcL _ _ _ _ (⟨_, .binOp _ _ _ _ _, _, _, _, _⟩ :: _) _ _ _; first
      | refine VcL.eqS tabOk rfl rfl rfl rfl rfl rfl (by kernel_rfl) (by kernel_rfl) rfl rfl (by first | exact .inl rfl | exact .inr rfl) ?_)
      | (show VcL _ _ _ _ (⟨_, .indexAddr _ _ _, _, _, _, _⟩ :: _) _ _ _; first
      | refine VcL.indexAddr0 tabOk rfl rfl rfl rfl rfl rfl (by omega) (by omega) ?_
      | refine VcL.indexAddr tabOk rfl rfl rfl rfl rfl rfl (by omega) (by omega) ?_
      | refine VcL.indexArr0 tabOk rfl rfl rfl rfl rfl rfl (by omega) (by omega) ?_
      | refine VcL.indexArr tabOk rfl rfl rfl rfl rfl rfl (by omega) (by omega) ?_)
      | refine VcL.alloc tabOk H rfl rfl rfl rfl (fun b w H => ?_)
      | refine VcL.buildSlice tabOk H rfl rfl rfl rfl rfl rfl (fun sv w H => ?_)
      | (show VcL _ _ _ _ (⟨_, .store _ _ _, _, _, _, _⟩ :: _) _ _ _; first
      | refine VcL.store tabOk rfl (by first | exact H | exact (Holds.f1 H) | exact (Holds.f2 H) | exact (Holds.f3 H) | exact (Holds.f4 H) | exact (Holds.f5 H) | exact (Holds.f6 H)) rfl rfl (by exact rfl) (by exact rfl) (by exact rfl) (by exact rfl) (fun w H => ?_))
      | (show VcL _ _ _ _ (⟨_, .call ⟨.value (.func F_tithinglaw20_Awake), _, _⟩, _, _, _, _⟩ :: _) _ _ _; first
      | (refine VcL.callF ok_tithinglaw20_Awake rfl rfl rfl rfl (Rets.mono (Awake_any H) ?_); rintro _ w ⟨rfl, H⟩))
      | (show VcL _ _ _ _ (⟨_, .call ⟨.value (.func F_tithingtop_lockDeed), _, _⟩, _, _, _, _⟩ :: _) _ _ _; first
      | (refine VcL.callF ok_tithingtop_lockDeed rfl rfl rfl rfl (Rets.mono (hst _ _ _ H.drop ht) ?_); rintro _ w ⟨tl2, o2, H, hok2, ho2, hown2⟩))
      | (show VcL _ _ _ _ (⟨_, .call ⟨.value (.func F_lock_Valid), _, _⟩, _, _, _, _⟩ :: _) _ _ _; first
      | (refine VcL.callF ok_lock_Valid rfl rfl rfl rfl (Rets.mono (ValidOk_any H hok2) ?_); rintro _ w ⟨rfl, H⟩))
      | (show VcL _ _ _ _ (⟨_, .call ⟨.value (.func F_tithingtop_owned), _, _⟩, _, _, _, _⟩ :: _) _ _ _; first
      | (refine VcL.callF ok_tithingtop_owned rfl rfl rfl rfl (Rets.mono (owned_any H H.own_toR (by have := hok2.len; omega) hok2 ho2 hown2) ?_); rintro _ w ⟨rfl, H⟩))
      | (show VcL _ _ _ _ (⟨_, .call ⟨.value (.func F_lock_May2), _, _⟩, _, _, _, _⟩ :: _) _ _ _; first
      | (refine VcL.callF ok_lock_May2 rfl rfl rfl rfl (Rets.mono (May2_any H H.own_toR (by omega) (mdAt ms j)) ?_); rintro _ w ⟨rfl, H⟩))
      | (refine VcL.guard rfl rfl rfl rfl (fun h => ?_) (fun h => ?_) <;> first | (cases h; done) | (exfalso; simp only [decide_eq_true_eq, decide_eq_false_iff_not] at h; omega) | (with_reducible have hp := of_decide_eq_true h) | (with_reducible have hp := of_decide_eq_false h) | (with_reducible have hp := ndec_t h) | (with_reducible have hp := ndec_f h) | skip))
          | (show VcD _ _ _ _ _ _ _ _ _; first
      | refine VcD.pures tabOk (by first | exact H | exact Holds.drop H | exact Holds.drop (Holds.drop H)) rfl ?_
      | refine VcD.done ?_
      | (show VcD _ _ _ _ _ (.take _ _) _ _ _; first
      | refine VcD.load1 tabOk rfl rfl rfl rfl rfl rfl (by first | exact H | exact Holds.drop H | exact Holds.drop (Holds.drop H)) (by intro w_ hw_; first | exact Holds.cell hw_ rfl | exact Holds.cell (Holds.f1 hw_) rfl | exact Holds.cell (Holds.f2 hw_) rfl | exact Holds.cell (Holds.f3 hw_) rfl | exact Holds.cell (Holds.f4 hw_) rfl | exact Holds.cell (Holds.f5 hw_) rfl | exact Holds.cell (Holds.f6 hw_) rfl | exact RdW.get (by assumption) rfl hw_ | exact RdW.get0 (by assumption) rfl hw_ | exact RdW.get (by assumption) rfl (Holds.drop hw_) | exact RdW.get0 (by assumption) rfl (Holds.drop hw_) | exact RdW.get (by assumption) rfl (Holds.drop (Holds.drop hw_)) | exact RdW.get0 (by assumption) rfl (Holds.drop (Holds.drop hw_)) | exact RdW.get (by assumption) rfl (Holds.drop (Holds.drop (Holds.drop hw_))) | exact RdW.get0 (by assumption) rfl (Holds.drop (Holds.drop (Holds.drop hw_))) | assumption) (by exact rfl) ?_
      | refine VcD.loadR tabOk rfl rfl rfl rfl rfl rfl rfl (by first | exact H | exact Holds.drop H | exact Holds.drop (Holds.drop H)) (by intro w_ hw_; first | exact RdW.rd (by assumption) hw_ | exact RdW.rd (by assumption) (Holds.drop hw_) | exact RdW.rd (by assumption) (Holds.drop (Holds.drop hw_)) | exact RdW.rd (by assumption) (Holds.drop (Holds.drop (Holds.drop hw_))) | assumption) rfl ?_
      | refine VcD.loadN tabOk rfl rfl rfl rfl rfl rfl rfl (by first | exact H | exact Holds.drop H | exact Holds.drop (Holds.drop H)) (by intro w_ hw_; first | exact hw_ | exact (Holds.f1 hw_) | exact (Holds.f2 hw_) | exact (Holds.f3 hw_) | exact (Holds.f4 hw_) | exact (Holds.f5 hw_) | exact (Holds.f6 hw_)) (by exact rfl) ?_
      | refine VcD.indexAddr0 tabOk rfl rfl rfl rfl rfl rfl rfl (by first | exact H | exact Holds.drop H | exact Holds.drop (Holds.drop H)) (by omega) (by omega) ?_
      | refine VcD.indexAddr tabOk rfl rfl rfl rfl rfl rfl rfl (by first | exact H | exact Holds.drop H | exact Holds.drop (Holds.drop H)) (by omega) (by omega) ?_
      | refine VcD.indexArr0 tabOk rfl rfl rfl rfl rfl rfl rfl (by first | exact H | exact Holds.drop H | exact Holds.drop (Holds.drop H)) (by omega) (by omega) ?_
      | refine VcD.indexArr tabOk rfl rfl rfl rfl rfl rfl rfl (by first | exact H | exact Holds.drop H | exact Holds.drop (Holds.drop H)) (by omega) (by omega) ?_
      | (refine VcD.guardT rfl rfl rfl rfl rfl (fun h => ?_) (fun h => ?_) <;> first | (cases h; done) | (exfalso; simp only [decide_eq_true_eq, decide_eq_false_iff_not] at h; omega) | (with_reducible have hp := of_decide_eq_true h) | (with_reducible have hp := of_decide_eq_false h) | (with_reducible have hp := ndec_t h) | (with_reducible have hp := ndec_f h) | skip))
      | (show VcD _ _ _ _ _ (.only _ _) _ _ _; first
      | (refine VcD.callF (f := F_tithinglaw20_Awake) rfl ok_tithinglaw20_Awake rfl rfl rfl rfl (Rets.mono (Awake_any H) ?_); rintro _ w ⟨rfl, H⟩; refine ⟨(by first | exact H | exact Holds.drop H | exact Holds.drop (Holds.drop H)), ?_⟩)
      | (refine VcD.callF (f := F_tithingtop_lockDeed) rfl ok_tithingtop_lockDeed rfl rfl rfl rfl (Rets.mono (hst _ _ _ H.drop ht) ?_); rintro _ w ⟨tl2, o2, H, hok2, ho2, hown2⟩; refine ⟨(by first | exact H | exact Holds.drop H | exact Holds.drop (Holds.drop H)), ?_⟩)
      | (refine VcD.callF (f := F_lock_Valid) rfl ok_lock_Valid rfl rfl rfl rfl (Rets.mono (ValidOk_any H hok2) ?_); rintro _ w ⟨rfl, H⟩; refine ⟨(by first | exact H | exact Holds.drop H | exact Holds.drop (Holds.drop H)), ?_⟩)
      | (refine VcD.callF (f := F_tithingtop_owned) rfl ok_tithingtop_owned rfl rfl rfl rfl (Rets.mono (owned_any H H.own_toR (by have := hok2.len; omega) hok2 ho2 hown2) ?_); rintro _ w ⟨rfl, H⟩; refine ⟨(by first | exact H | exact Holds.drop H | exact Holds.drop (Holds.drop H)), ?_⟩)
      | (refine VcD.callF (f := F_lock_May2) rfl ok_lock_May2 rfl rfl rfl rfl (Rets.mono (May2_any H H.own_toR (by omega) (mdAt ms j)) ?_); rintro _ w ⟨rfl, H⟩; refine ⟨(by first | exact H | exact Holds.drop H | exact Holds.drop (Holds.drop H)), ?_⟩)
      | refine VcD.skip rfl rfl rfl (by first | exact H | exact Holds.drop H | exact Holds.drop (Holds.drop H)) ?_
      | (refine VcD.guardO rfl rfl rfl rfl rfl (fun h => ?_) (fun h => ?_) <;> first | (cases h; done) | (exfalso; simp only [decide_eq_true_eq, decide_eq_false_iff_not] at h; omega) | (with_reducible have hp := of_decide_eq_true h) | (with_reducible have hp := of_decide_eq_false h) | (with_reducible have hp := ndec_t h) | (with_reducible have hp := ndec_f h) | skip))
      | (show VcD _ _ _ _ _ (.two _ _ _ _) _ _ _; refine VcD.two ?_ ?_))
          | (show EfO _ _ _ _ _ _ _ _ _; first
      | (refine EfO.call (f := F_tithinglaw20_Awake) rfl rfl rfl rfl (OpC.call ok_tithinglaw20_Awake rfl) (Rets.mono (Awake_any H) ?_); rintro _ w ⟨rfl, H⟩; refine ⟨(by first | exact H | exact Holds.drop H | exact Holds.drop (Holds.drop H)), ?_⟩)
      | (refine EfO.call (f := F_tithingtop_lockDeed) rfl rfl rfl rfl (OpC.call ok_tithingtop_lockDeed rfl) (Rets.mono (hst _ _ _ H.drop ht) ?_); rintro _ w ⟨tl2, o2, H, hok2, ho2, hown2⟩; refine ⟨(by first | exact H | exact Holds.drop H | exact Holds.drop (Holds.drop H)), ?_⟩)
      | (refine EfO.call (f := F_lock_Valid) rfl rfl rfl rfl (OpC.call ok_lock_Valid rfl) (Rets.mono (ValidOk_any H hok2) ?_); rintro _ w ⟨rfl, H⟩; refine ⟨(by first | exact H | exact Holds.drop H | exact Holds.drop (Holds.drop H)), ?_⟩)
      | (refine EfO.call (f := F_tithingtop_owned) rfl rfl rfl rfl (OpC.call ok_tithingtop_owned rfl) (Rets.mono (owned_any H H.own_toR (by have := hok2.len; omega) hok2 ho2 hown2) ?_); rintro _ w ⟨rfl, H⟩; refine ⟨(by first | exact H | exact Holds.drop H | exact Holds.drop (Holds.drop H)), ?_⟩)
      | (refine EfO.call (f := F_lock_May2) rfl rfl rfl rfl (OpC.call ok_lock_May2 rfl) (Rets.mono (May2_any H H.own_toR (by omega) (mdAt ms j)) ?_); rintro _ w ⟨rfl, H⟩; refine ⟨(by first | exact H | exact Holds.drop H | exact Holds.drop (Holds.drop H)), ?_⟩))
          | (show Vc _ _ _ _ _ _; first
      | refine Vc.seq ?_
      | refine Vc.region ?_
      | refine Vc.condT rfl ?_
      | refine Vc.condF rfl ?_
      | refine Vc.ret ?_
      | refine Vc.skip ?_
      | refine Vc.block ?_
      | refine Vc.exit ?_
      | refine Vc.drawnH (id := 28) H (.take 0 (.take 1 (.take 4 (.take 5 (.take 2 (.take 3 (.take 6 (.take 7 (.only 8 (.take 9 (.take 10 (.take 11 (.take 12 (.take 13 (.take 14 (.take 15 (.take 16 (.take 17 (.take 18 (.take 19 (.take 20 (.take 21 (.take 22 (.take 23 (.take 24 (.take 25 (.take 26 (.take 27 (.take 28 (.take 29 (.take 30 (.take 31 (.take 32 (.take 33 (.take 34 (.take 35 (.take 36 (.take 37 .done)))))))))))))))))))))))))))))))))))))) mixed (by kernel_rfl) (fun w H => ?_)
      | (refine Vc.cond rfl (fun h => ?_) (fun h => ?_) <;> first | (cases h; done) | (exfalso; simp only [decide_eq_true_eq, decide_eq_false_iff_not] at h; omega) | (with_reducible have hp := of_decide_eq_true h) | (with_reducible have hp := of_decide_eq_false h) | (with_reducible have hp := ndec_t h) | (with_reducible have hp := ndec_f h) | skip))
          | (show KSeq _ _ _ _ _ _ _; first
      | refine KSeq.normal ?_
      | refine KSeq.ret ?_
      | refine KSeq.exit ?_)
          | (show KBlock _ _ _ _ _; first
      | refine KBlock.normal ?_
      | refine KBlock.here ?_
      | refine KBlock.on rfl ?_
      | refine KBlock.ret ?_)
          | refine KLoop.exit ?_
          | refine KLoop.ret ?_
          | refine KCut.exit ?_
          | refine KCut.ret ?_
          | (show KEnd _ _ _ _ _ _; first
      | refine KEnd.mk (Or.inr rfl) ⟨_, (ResL.tmp rfl ResL.nil), ?_⟩
      | refine KEnd.mk (Or.inl rfl) ⟨_, (ResL.tmp rfl ResL.nil), ?_⟩))
        refine Vc.loopS [(12, _), (14, _)] (fun c : Nat => [(15, .int .i64 c)]) (fun c w => Holds I w (ownM (.slice (some ⟨b6, o6, none⟩) ml.length c5) ml :: L) ∧ c ≤ i) (fun c _ => i - c) 0 ⟨rfl, trivial⟩ ⟨rfl, rfl, trivial⟩ ⟨H, by omega⟩ ?_
        rintro c w ⟨H, hc⟩
        by_cases hci : c < i
        · have hx7 := hr6.elem (k := c) mdC_len (mdAt_get (by omega))
          have hbs := besS_at hpw hci hil
          repeat' (first
            | (refine VcL.loadR tabOk rfl rfl rfl rfl rfl rfl (Holds.rdAt (mid := oC o2) (pre := []) (post := []) (Holds.drop H) (by simp) rfl) (by rw [flat_len nC_len, ho2]) ?_)
            | (refine VcL.append tabOk rfl rfl rfl rfl H.swap H.own_src (oneM (mdAt ms j)) (by show (_ + 1) * 4 ≤ _; omega) rfl rfl rfl (fun v_ w H => ?_); have H := own_pushM (x := mdAt ms j) H.swap.drop)
            | (show VcL _ _ _ _ _ _ _ _; first
      | refine VcL.pures tabOk rfl ?_
      | refine VcL.nil ?_
      | (show VcL _ _ _ _ (⟨_, .load _ _, _, _, _, _⟩ :: _) _ _ _; first
      | refine VcL.load1 tabOk rfl rfl rfl rfl rfl (by first | exact Holds.cell H rfl | exact Holds.cell (Holds.f1 H) rfl | exact Holds.cell (Holds.f2 H) rfl | exact Holds.cell (Holds.f3 H) rfl | exact Holds.cell (Holds.f4 H) rfl | exact Holds.cell (Holds.f5 H) rfl | exact Holds.cell (Holds.f6 H) rfl | exact RdW.get (by assumption) rfl H | exact RdW.get0 (by assumption) rfl H | exact RdW.get (by assumption) rfl (Holds.drop H) | exact RdW.get0 (by assumption) rfl (Holds.drop H) | exact RdW.get (by assumption) rfl (Holds.drop (Holds.drop H)) | exact RdW.get0 (by assumption) rfl (Holds.drop (Holds.drop H)) | exact RdW.get (by assumption) rfl (Holds.drop (Holds.drop (Holds.drop H))) | exact RdW.get0 (by assumption) rfl (Holds.drop (Holds.drop (Holds.drop H))) | assumption) ?_
      | refine VcL.loadR tabOk rfl rfl rfl rfl rfl rfl (by first | exact RdW.rd (by assumption) H | exact RdW.rd (by assumption) (Holds.drop H) | exact RdW.rd (by assumption) (Holds.drop (Holds.drop H)) | exact RdW.rd (by assumption) (Holds.drop (Holds.drop (Holds.drop H))) | assumption) rfl ?_
      | refine VcL.loadN tabOk rfl rfl rfl rfl rfl rfl (by first | exact H | exact (Holds.f1 H) | exact (Holds.f2 H) | exact (Holds.f3 H) | exact (Holds.f4 H) | exact (Holds.f5 H) | exact (Holds.f6 H)) (by exact rfl) ?_)
      | (show VcL _ _ _ _ (⟨_, .binOp _ _ _ _ _, _, _, _, _⟩ :: _) _ _ _; first
      | refine VcL.eqS tabOk rfl rfl rfl rfl rfl rfl (by kernel_rfl) (by kernel_rfl) rfl rfl (by first | exact .inl rfl | exact .inr rfl) ?_)
      | (show VcL _ _ _ _ (⟨_, .indexAddr _ _ _, _, _, _, _⟩ :: _) _ _ _; first
      | refine VcL.indexAddr0 tabOk rfl rfl rfl rfl rfl rfl (by omega) (by omega) ?_
      | refine VcL.indexAddr tabOk rfl rfl rfl rfl rfl rfl (by omega) (by omega) ?_
      | refine VcL.indexArr0 tabOk rfl rfl rfl rfl rfl rfl (by omega) (by omega) ?_
      | refine VcL.indexArr tabOk rfl rfl rfl rfl rfl rfl (by omega) (by omega) ?_)
      | refine VcL.alloc tabOk H rfl rfl rfl rfl (fun b w H => ?_)
      | refine VcL.buildSlice tabOk H rfl rfl rfl rfl rfl rfl (fun sv w H => ?_)
      | (show VcL _ _ _ _ (⟨_, .store _ _ _, _, _, _, _⟩ :: _) _ _ _; first
      | refine VcL.store tabOk rfl (by first | exact H | exact (Holds.f1 H) | exact (Holds.f2 H) | exact (Holds.f3 H) | exact (Holds.f4 H) | exact (Holds.f5 H) | exact (Holds.f6 H)) rfl rfl (by exact rfl) (by exact rfl) (by exact rfl) (by exact rfl) (fun w H => ?_))
      | (show VcL _ _ _ _ (⟨_, .call ⟨.value (.func F_tithinglaw20_Awake), _, _⟩, _, _, _, _⟩ :: _) _ _ _; first
      | (refine VcL.callF ok_tithinglaw20_Awake rfl rfl rfl rfl (Rets.mono (Awake_any H) ?_); rintro _ w ⟨rfl, H⟩))
      | (show VcL _ _ _ _ (⟨_, .call ⟨.value (.func F_tithingtop_lockDeed), _, _⟩, _, _, _, _⟩ :: _) _ _ _; first
      | (refine VcL.callF ok_tithingtop_lockDeed rfl rfl rfl rfl (Rets.mono (hst _ _ _ H.drop ht) ?_); rintro _ w ⟨tl2, o2, H, hok2, ho2, hown2⟩))
      | (show VcL _ _ _ _ (⟨_, .call ⟨.value (.func F_lock_Valid), _, _⟩, _, _, _, _⟩ :: _) _ _ _; first
      | (refine VcL.callF ok_lock_Valid rfl rfl rfl rfl (Rets.mono (ValidOk_any H hok2) ?_); rintro _ w ⟨rfl, H⟩))
      | (show VcL _ _ _ _ (⟨_, .call ⟨.value (.func F_tithingtop_owned), _, _⟩, _, _, _, _⟩ :: _) _ _ _; first
      | (refine VcL.callF ok_tithingtop_owned rfl rfl rfl rfl (Rets.mono (owned_any H H.own_toR (by have := hok2.len; omega) hok2 ho2 hown2) ?_); rintro _ w ⟨rfl, H⟩))
      | (show VcL _ _ _ _ (⟨_, .call ⟨.value (.func F_lock_May2), _, _⟩, _, _, _, _⟩ :: _) _ _ _; first
      | (refine VcL.callF ok_lock_May2 rfl rfl rfl rfl (Rets.mono (May2_any H H.own_toR (by omega) (mdAt ms j)) ?_); rintro _ w ⟨rfl, H⟩))
      | (show VcL _ _ _ _ (⟨_, .call ⟨.value (.func F_lock_Beside), _, _⟩, _, _, _, _⟩ :: _) _ _ _; first
      | (refine VcL.callF ok_lock_Beside rfl rfl rfl rfl (Rets.mono (Beside_any H (mdAt ml i) (mdAt ml c)) ?_); rintro _ w ⟨rfl, H⟩))
      | (refine VcL.guard rfl rfl rfl rfl (fun h => ?_) (fun h => ?_) <;> first | (cases h; done) | (exfalso; simp only [decide_eq_true_eq, decide_eq_false_iff_not] at h; omega) | (with_reducible have hp := of_decide_eq_true h) | (with_reducible have hp := of_decide_eq_false h) | (with_reducible have hp := ndec_t h) | (with_reducible have hp := ndec_f h) | skip))
            | (show VcD _ _ _ _ _ _ _ _ _; first
      | refine VcD.pures tabOk (by first | exact H | exact Holds.drop H | exact Holds.drop (Holds.drop H)) rfl ?_
      | refine VcD.done ?_
      | (show VcD _ _ _ _ _ (.take _ _) _ _ _; first
      | refine VcD.load1 tabOk rfl rfl rfl rfl rfl rfl (by first | exact H | exact Holds.drop H | exact Holds.drop (Holds.drop H)) (by intro w_ hw_; first | exact Holds.cell hw_ rfl | exact Holds.cell (Holds.f1 hw_) rfl | exact Holds.cell (Holds.f2 hw_) rfl | exact Holds.cell (Holds.f3 hw_) rfl | exact Holds.cell (Holds.f4 hw_) rfl | exact Holds.cell (Holds.f5 hw_) rfl | exact Holds.cell (Holds.f6 hw_) rfl | exact RdW.get (by assumption) rfl hw_ | exact RdW.get0 (by assumption) rfl hw_ | exact RdW.get (by assumption) rfl (Holds.drop hw_) | exact RdW.get0 (by assumption) rfl (Holds.drop hw_) | exact RdW.get (by assumption) rfl (Holds.drop (Holds.drop hw_)) | exact RdW.get0 (by assumption) rfl (Holds.drop (Holds.drop hw_)) | exact RdW.get (by assumption) rfl (Holds.drop (Holds.drop (Holds.drop hw_))) | exact RdW.get0 (by assumption) rfl (Holds.drop (Holds.drop (Holds.drop hw_))) | assumption) (by exact rfl) ?_
      | refine VcD.loadR tabOk rfl rfl rfl rfl rfl rfl rfl (by first | exact H | exact Holds.drop H | exact Holds.drop (Holds.drop H)) (by intro w_ hw_; first | exact RdW.rd (by assumption) hw_ | exact RdW.rd (by assumption) (Holds.drop hw_) | exact RdW.rd (by assumption) (Holds.drop (Holds.drop hw_)) | exact RdW.rd (by assumption) (Holds.drop (Holds.drop (Holds.drop hw_))) | assumption) rfl ?_
      | refine VcD.loadN tabOk rfl rfl rfl rfl rfl rfl rfl (by first | exact H | exact Holds.drop H | exact Holds.drop (Holds.drop H)) (by intro w_ hw_; first | exact hw_ | exact (Holds.f1 hw_) | exact (Holds.f2 hw_) | exact (Holds.f3 hw_) | exact (Holds.f4 hw_) | exact (Holds.f5 hw_) | exact (Holds.f6 hw_)) (by exact rfl) ?_
      | refine VcD.indexAddr0 tabOk rfl rfl rfl rfl rfl rfl rfl (by first | exact H | exact Holds.drop H | exact Holds.drop (Holds.drop H)) (by omega) (by omega) ?_
      | refine VcD.indexAddr tabOk rfl rfl rfl rfl rfl rfl rfl (by first | exact H | exact Holds.drop H | exact Holds.drop (Holds.drop H)) (by omega) (by omega) ?_
      | refine VcD.indexArr0 tabOk rfl rfl rfl rfl rfl rfl rfl (by first | exact H | exact Holds.drop H | exact Holds.drop (Holds.drop H)) (by omega) (by omega) ?_
      | refine VcD.indexArr tabOk rfl rfl rfl rfl rfl rfl rfl (by first | exact H | exact Holds.drop H | exact Holds.drop (Holds.drop H)) (by omega) (by omega) ?_
      | (refine VcD.guardT rfl rfl rfl rfl rfl (fun h => ?_) (fun h => ?_) <;> first | (cases h; done) | (exfalso; simp only [decide_eq_true_eq, decide_eq_false_iff_not] at h; omega) | (with_reducible have hp := of_decide_eq_true h) | (with_reducible have hp := of_decide_eq_false h) | (with_reducible have hp := ndec_t h) | (with_reducible have hp := ndec_f h) | skip))
      | (show VcD _ _ _ _ _ (.only _ _) _ _ _; first
      | (refine VcD.callF (f := F_tithinglaw20_Awake) rfl ok_tithinglaw20_Awake rfl rfl rfl rfl (Rets.mono (Awake_any H) ?_); rintro _ w ⟨rfl, H⟩; refine ⟨(by first | exact H | exact Holds.drop H | exact Holds.drop (Holds.drop H)), ?_⟩)
      | (refine VcD.callF (f := F_tithingtop_lockDeed) rfl ok_tithingtop_lockDeed rfl rfl rfl rfl (Rets.mono (hst _ _ _ H.drop ht) ?_); rintro _ w ⟨tl2, o2, H, hok2, ho2, hown2⟩; refine ⟨(by first | exact H | exact Holds.drop H | exact Holds.drop (Holds.drop H)), ?_⟩)
      | (refine VcD.callF (f := F_lock_Valid) rfl ok_lock_Valid rfl rfl rfl rfl (Rets.mono (ValidOk_any H hok2) ?_); rintro _ w ⟨rfl, H⟩; refine ⟨(by first | exact H | exact Holds.drop H | exact Holds.drop (Holds.drop H)), ?_⟩)
      | (refine VcD.callF (f := F_tithingtop_owned) rfl ok_tithingtop_owned rfl rfl rfl rfl (Rets.mono (owned_any H H.own_toR (by have := hok2.len; omega) hok2 ho2 hown2) ?_); rintro _ w ⟨rfl, H⟩; refine ⟨(by first | exact H | exact Holds.drop H | exact Holds.drop (Holds.drop H)), ?_⟩)
      | (refine VcD.callF (f := F_lock_May2) rfl ok_lock_May2 rfl rfl rfl rfl (Rets.mono (May2_any H H.own_toR (by omega) (mdAt ms j)) ?_); rintro _ w ⟨rfl, H⟩; refine ⟨(by first | exact H | exact Holds.drop H | exact Holds.drop (Holds.drop H)), ?_⟩)
      | (refine VcD.callF (f := F_lock_Beside) rfl ok_lock_Beside rfl rfl rfl rfl (Rets.mono (Beside_any H (mdAt ml i) (mdAt ml c)) ?_); rintro _ w ⟨rfl, H⟩; refine ⟨(by first | exact H | exact Holds.drop H | exact Holds.drop (Holds.drop H)), ?_⟩)
      | refine VcD.skip rfl rfl rfl (by first | exact H | exact Holds.drop H | exact Holds.drop (Holds.drop H)) ?_
      | (refine VcD.guardO rfl rfl rfl rfl rfl (fun h => ?_) (fun h => ?_) <;> first | (cases h; done) | (exfalso; simp only [decide_eq_true_eq, decide_eq_false_iff_not] at h; omega) | (with_reducible have hp := of_decide_eq_true h) | (with_reducible have hp := of_decide_eq_false h) | (with_reducible have hp := ndec_t h) | (with_reducible have hp := ndec_f h) | skip))
      | (show VcD _ _ _ _ _ (.two _ _ _ _) _ _ _; refine VcD.two ?_ ?_))
            | (show EfO _ _ _ _ _ _ _ _ _; first
      | (refine EfO.call (f := F_tithinglaw20_Awake) rfl rfl rfl rfl (OpC.call ok_tithinglaw20_Awake rfl) (Rets.mono (Awake_any H) ?_); rintro _ w ⟨rfl, H⟩; refine ⟨(by first | exact H | exact Holds.drop H | exact Holds.drop (Holds.drop H)), ?_⟩)
      | (refine EfO.call (f := F_tithingtop_lockDeed) rfl rfl rfl rfl (OpC.call ok_tithingtop_lockDeed rfl) (Rets.mono (hst _ _ _ H.drop ht) ?_); rintro _ w ⟨tl2, o2, H, hok2, ho2, hown2⟩; refine ⟨(by first | exact H | exact Holds.drop H | exact Holds.drop (Holds.drop H)), ?_⟩)
      | (refine EfO.call (f := F_lock_Valid) rfl rfl rfl rfl (OpC.call ok_lock_Valid rfl) (Rets.mono (ValidOk_any H hok2) ?_); rintro _ w ⟨rfl, H⟩; refine ⟨(by first | exact H | exact Holds.drop H | exact Holds.drop (Holds.drop H)), ?_⟩)
      | (refine EfO.call (f := F_tithingtop_owned) rfl rfl rfl rfl (OpC.call ok_tithingtop_owned rfl) (Rets.mono (owned_any H H.own_toR (by have := hok2.len; omega) hok2 ho2 hown2) ?_); rintro _ w ⟨rfl, H⟩; refine ⟨(by first | exact H | exact Holds.drop H | exact Holds.drop (Holds.drop H)), ?_⟩)
      | (refine EfO.call (f := F_lock_May2) rfl rfl rfl rfl (OpC.call ok_lock_May2 rfl) (Rets.mono (May2_any H H.own_toR (by omega) (mdAt ms j)) ?_); rintro _ w ⟨rfl, H⟩; refine ⟨(by first | exact H | exact Holds.drop H | exact Holds.drop (Holds.drop H)), ?_⟩)
      | (refine EfO.call (f := F_lock_Beside) rfl rfl rfl rfl (OpC.call ok_lock_Beside rfl) (Rets.mono (Beside_any H (mdAt ml i) (mdAt ml c)) ?_); rintro _ w ⟨rfl, H⟩; refine ⟨(by first | exact H | exact Holds.drop H | exact Holds.drop (Holds.drop H)), ?_⟩))
            | (show Vc _ _ _ _ _ _; first
      | refine Vc.seq ?_
      | refine Vc.region ?_
      | refine Vc.condT rfl ?_
      | refine Vc.condF rfl ?_
      | refine Vc.ret ?_
      | refine Vc.skip ?_
      | refine Vc.block ?_
      | refine Vc.exit ?_
      | refine Vc.drawnH (id := 28) H (.take 0 (.take 1 (.take 4 (.take 5 (.take 2 (.take 3 (.take 6 (.take 7 (.only 8 (.take 9 (.take 10 (.take 11 (.take 12 (.take 13 (.take 14 (.take 15 (.take 16 (.take 17 (.take 18 (.take 19 (.take 20 (.take 21 (.take 22 (.take 23 (.take 24 (.take 25 (.take 26 (.take 27 (.take 28 (.take 29 (.take 30 (.take 31 (.take 32 (.take 33 (.take 34 (.take 35 (.take 36 (.take 37 .done)))))))))))))))))))))))))))))))))))))) mixed (by kernel_rfl) (fun w H => ?_)
      | (refine Vc.cond rfl (fun h => ?_) (fun h => ?_) <;> first | (cases h; done) | (exfalso; simp only [decide_eq_true_eq, decide_eq_false_iff_not] at h; omega) | (with_reducible have hp := of_decide_eq_true h) | (with_reducible have hp := of_decide_eq_false h) | (with_reducible have hp := ndec_t h) | (with_reducible have hp := ndec_f h) | skip))
            | (show KSeq _ _ _ _ _ _ _; first
      | refine KSeq.normal ?_
      | refine KSeq.ret ?_
      | refine KSeq.exit ?_)
            | (show KBlock _ _ _ _ _; first
      | refine KBlock.normal ?_
      | refine KBlock.here ?_
      | refine KBlock.on rfl ?_
      | refine KBlock.ret ?_)
            | refine KLoop.exit ?_
            | refine KLoop.ret ?_
            | refine KCut.exit ?_
            | refine KCut.ret ?_
            | (show KEnd _ _ _ _ _ _; first
      | refine KEnd.mk (Or.inr rfl) ⟨_, (ResL.tmp rfl ResL.nil), ?_⟩
      | refine KEnd.mk (Or.inl rfl) ⟨_, (ResL.tmp rfl ResL.nil), ?_⟩))
          all_goals first
            | exact KLoop.again (c + 1) ⟨got_succ rfl (by omega), trivial⟩ ⟨rfl, rfl, trivial⟩ ⟨H, by omega⟩ (by omega)
            | (exfalso; clear hm5 hr6 hx6 hx7 hpw hown; simp_all; done)
            | (exfalso; clear hm5 hr6 hx6 hx7 hpw hown; unfold besS barS at hbs; simp_all; done)
        ·
          repeat' (first
            | (refine VcL.loadR tabOk rfl rfl rfl rfl rfl rfl (Holds.rdAt (mid := oC o2) (pre := []) (post := []) (Holds.drop H) (by simp) rfl) (by rw [flat_len nC_len, ho2]) ?_)
            | (refine VcL.append tabOk rfl rfl rfl rfl H.swap H.own_src (oneM (mdAt ms j)) (by show (_ + 1) * 4 ≤ _; omega) rfl rfl rfl (fun v_ w H => ?_); have H := own_pushM (x := mdAt ms j) H.swap.drop)
            | (show VcL _ _ _ _ _ _ _ _; first
      | refine VcL.pures tabOk rfl ?_
      | refine VcL.nil ?_
      | (show VcL _ _ _ _ (⟨_, .load _ _, _, _, _, _⟩ :: _) _ _ _; first
      | refine VcL.load1 tabOk rfl rfl rfl rfl rfl (by first | exact Holds.cell H rfl | exact Holds.cell (Holds.f1 H) rfl | exact Holds.cell (Holds.f2 H) rfl | exact Holds.cell (Holds.f3 H) rfl | exact Holds.cell (Holds.f4 H) rfl | exact Holds.cell (Holds.f5 H) rfl | exact Holds.cell (Holds.f6 H) rfl | exact RdW.get (by assumption) rfl H | exact RdW.get0 (by assumption) rfl H | exact RdW.get (by assumption) rfl (Holds.drop H) | exact RdW.get0 (by assumption) rfl (Holds.drop H) | exact RdW.get (by assumption) rfl (Holds.drop (Holds.drop H)) | exact RdW.get0 (by assumption) rfl (Holds.drop (Holds.drop H)) | exact RdW.get (by assumption) rfl (Holds.drop (Holds.drop (Holds.drop H))) | exact RdW.get0 (by assumption) rfl (Holds.drop (Holds.drop (Holds.drop H))) | assumption) ?_
      | refine VcL.loadR tabOk rfl rfl rfl rfl rfl rfl (by first | exact RdW.rd (by assumption) H | exact RdW.rd (by assumption) (Holds.drop H) | exact RdW.rd (by assumption) (Holds.drop (Holds.drop H)) | exact RdW.rd (by assumption) (Holds.drop (Holds.drop (Holds.drop H))) | assumption) rfl ?_
      | refine VcL.loadN tabOk rfl rfl rfl rfl rfl rfl (by first | exact H | exact (Holds.f1 H) | exact (Holds.f2 H) | exact (Holds.f3 H) | exact (Holds.f4 H) | exact (Holds.f5 H) | exact (Holds.f6 H)) (by exact rfl) ?_)
      | (show VcL _ _ _ _ (⟨_, .binOp _ _ _ _ _, _, _, _, _⟩ :: _) _ _ _; first
      | refine VcL.eqS tabOk rfl rfl rfl rfl rfl rfl (by kernel_rfl) (by kernel_rfl) rfl rfl (by first | exact .inl rfl | exact .inr rfl) ?_)
      | (show VcL _ _ _ _ (⟨_, .indexAddr _ _ _, _, _, _, _⟩ :: _) _ _ _; first
      | refine VcL.indexAddr0 tabOk rfl rfl rfl rfl rfl rfl (by omega) (by omega) ?_
      | refine VcL.indexAddr tabOk rfl rfl rfl rfl rfl rfl (by omega) (by omega) ?_
      | refine VcL.indexArr0 tabOk rfl rfl rfl rfl rfl rfl (by omega) (by omega) ?_
      | refine VcL.indexArr tabOk rfl rfl rfl rfl rfl rfl (by omega) (by omega) ?_)
      | refine VcL.alloc tabOk H rfl rfl rfl rfl (fun b w H => ?_)
      | refine VcL.buildSlice tabOk H rfl rfl rfl rfl rfl rfl (fun sv w H => ?_)
      | (show VcL _ _ _ _ (⟨_, .store _ _ _, _, _, _, _⟩ :: _) _ _ _; first
      | refine VcL.store tabOk rfl (by first | exact H | exact (Holds.f1 H) | exact (Holds.f2 H) | exact (Holds.f3 H) | exact (Holds.f4 H) | exact (Holds.f5 H) | exact (Holds.f6 H)) rfl rfl (by exact rfl) (by exact rfl) (by exact rfl) (by exact rfl) (fun w H => ?_))
      | (show VcL _ _ _ _ (⟨_, .call ⟨.value (.func F_tithinglaw20_Awake), _, _⟩, _, _, _, _⟩ :: _) _ _ _; first
      | (refine VcL.callF ok_tithinglaw20_Awake rfl rfl rfl rfl (Rets.mono (Awake_any H) ?_); rintro _ w ⟨rfl, H⟩))
      | (show VcL _ _ _ _ (⟨_, .call ⟨.value (.func F_tithingtop_lockDeed), _, _⟩, _, _, _, _⟩ :: _) _ _ _; first
      | (refine VcL.callF ok_tithingtop_lockDeed rfl rfl rfl rfl (Rets.mono (hst _ _ _ H.drop ht) ?_); rintro _ w ⟨tl2, o2, H, hok2, ho2, hown2⟩))
      | (show VcL _ _ _ _ (⟨_, .call ⟨.value (.func F_lock_Valid), _, _⟩, _, _, _, _⟩ :: _) _ _ _; first
      | (refine VcL.callF ok_lock_Valid rfl rfl rfl rfl (Rets.mono (ValidOk_any H hok2) ?_); rintro _ w ⟨rfl, H⟩))
      | (show VcL _ _ _ _ (⟨_, .call ⟨.value (.func F_tithingtop_owned), _, _⟩, _, _, _, _⟩ :: _) _ _ _; first
      | (refine VcL.callF ok_tithingtop_owned rfl rfl rfl rfl (Rets.mono (owned_any H H.own_toR (by have := hok2.len; omega) hok2 ho2 hown2) ?_); rintro _ w ⟨rfl, H⟩))
      | (show VcL _ _ _ _ (⟨_, .call ⟨.value (.func F_lock_May2), _, _⟩, _, _, _, _⟩ :: _) _ _ _; first
      | (refine VcL.callF ok_lock_May2 rfl rfl rfl rfl (Rets.mono (May2_any H H.own_toR (by omega) (mdAt ms j)) ?_); rintro _ w ⟨rfl, H⟩))
      | (show VcL _ _ _ _ (⟨_, .call ⟨.value (.func F_lock_Beside), _, _⟩, _, _, _, _⟩ :: _) _ _ _; first
      | (refine VcL.callF ok_lock_Beside rfl rfl rfl rfl (Rets.mono (Beside_any H (mdAt ml i) (mdAt ml c)) ?_); rintro _ w ⟨rfl, H⟩))
      | (refine VcL.guard rfl rfl rfl rfl (fun h => ?_) (fun h => ?_) <;> first | (cases h; done) | (exfalso; simp only [decide_eq_true_eq, decide_eq_false_iff_not] at h; omega) | (with_reducible have hp := of_decide_eq_true h) | (with_reducible have hp := of_decide_eq_false h) | (with_reducible have hp := ndec_t h) | (with_reducible have hp := ndec_f h) | skip))
            | (show VcD _ _ _ _ _ _ _ _ _; first
      | refine VcD.pures tabOk (by first | exact H | exact Holds.drop H | exact Holds.drop (Holds.drop H)) rfl ?_
      | refine VcD.done ?_
      | (show VcD _ _ _ _ _ (.take _ _) _ _ _; first
      | refine VcD.load1 tabOk rfl rfl rfl rfl rfl rfl (by first | exact H | exact Holds.drop H | exact Holds.drop (Holds.drop H)) (by intro w_ hw_; first | exact Holds.cell hw_ rfl | exact Holds.cell (Holds.f1 hw_) rfl | exact Holds.cell (Holds.f2 hw_) rfl | exact Holds.cell (Holds.f3 hw_) rfl | exact Holds.cell (Holds.f4 hw_) rfl | exact Holds.cell (Holds.f5 hw_) rfl | exact Holds.cell (Holds.f6 hw_) rfl | exact RdW.get (by assumption) rfl hw_ | exact RdW.get0 (by assumption) rfl hw_ | exact RdW.get (by assumption) rfl (Holds.drop hw_) | exact RdW.get0 (by assumption) rfl (Holds.drop hw_) | exact RdW.get (by assumption) rfl (Holds.drop (Holds.drop hw_)) | exact RdW.get0 (by assumption) rfl (Holds.drop (Holds.drop hw_)) | exact RdW.get (by assumption) rfl (Holds.drop (Holds.drop (Holds.drop hw_))) | exact RdW.get0 (by assumption) rfl (Holds.drop (Holds.drop (Holds.drop hw_))) | assumption) (by exact rfl) ?_
      | refine VcD.loadR tabOk rfl rfl rfl rfl rfl rfl rfl (by first | exact H | exact Holds.drop H | exact Holds.drop (Holds.drop H)) (by intro w_ hw_; first | exact RdW.rd (by assumption) hw_ | exact RdW.rd (by assumption) (Holds.drop hw_) | exact RdW.rd (by assumption) (Holds.drop (Holds.drop hw_)) | exact RdW.rd (by assumption) (Holds.drop (Holds.drop (Holds.drop hw_))) | assumption) rfl ?_
      | refine VcD.loadN tabOk rfl rfl rfl rfl rfl rfl rfl (by first | exact H | exact Holds.drop H | exact Holds.drop (Holds.drop H)) (by intro w_ hw_; first | exact hw_ | exact (Holds.f1 hw_) | exact (Holds.f2 hw_) | exact (Holds.f3 hw_) | exact (Holds.f4 hw_) | exact (Holds.f5 hw_) | exact (Holds.f6 hw_)) (by exact rfl) ?_
      | refine VcD.indexAddr0 tabOk rfl rfl rfl rfl rfl rfl rfl (by first | exact H | exact Holds.drop H | exact Holds.drop (Holds.drop H)) (by omega) (by omega) ?_
      | refine VcD.indexAddr tabOk rfl rfl rfl rfl rfl rfl rfl (by first | exact H | exact Holds.drop H | exact Holds.drop (Holds.drop H)) (by omega) (by omega) ?_
      | refine VcD.indexArr0 tabOk rfl rfl rfl rfl rfl rfl rfl (by first | exact H | exact Holds.drop H | exact Holds.drop (Holds.drop H)) (by omega) (by omega) ?_
      | refine VcD.indexArr tabOk rfl rfl rfl rfl rfl rfl rfl (by first | exact H | exact Holds.drop H | exact Holds.drop (Holds.drop H)) (by omega) (by omega) ?_
      | (refine VcD.guardT rfl rfl rfl rfl rfl (fun h => ?_) (fun h => ?_) <;> first | (cases h; done) | (exfalso; simp only [decide_eq_true_eq, decide_eq_false_iff_not] at h; omega) | (with_reducible have hp := of_decide_eq_true h) | (with_reducible have hp := of_decide_eq_false h) | (with_reducible have hp := ndec_t h) | (with_reducible have hp := ndec_f h) | skip))
      | (show VcD _ _ _ _ _ (.only _ _) _ _ _; first
      | (refine VcD.callF (f := F_tithinglaw20_Awake) rfl ok_tithinglaw20_Awake rfl rfl rfl rfl (Rets.mono (Awake_any H) ?_); rintro _ w ⟨rfl, H⟩; refine ⟨(by first | exact H | exact Holds.drop H | exact Holds.drop (Holds.drop H)), ?_⟩)
      | (refine VcD.callF (f := F_tithingtop_lockDeed) rfl ok_tithingtop_lockDeed rfl rfl rfl rfl (Rets.mono (hst _ _ _ H.drop ht) ?_); rintro _ w ⟨tl2, o2, H, hok2, ho2, hown2⟩; refine ⟨(by first | exact H | exact Holds.drop H | exact Holds.drop (Holds.drop H)), ?_⟩)
      | (refine VcD.callF (f := F_lock_Valid) rfl ok_lock_Valid rfl rfl rfl rfl (Rets.mono (ValidOk_any H hok2) ?_); rintro _ w ⟨rfl, H⟩; refine ⟨(by first | exact H | exact Holds.drop H | exact Holds.drop (Holds.drop H)), ?_⟩)
      | (refine VcD.callF (f := F_tithingtop_owned) rfl ok_tithingtop_owned rfl rfl rfl rfl (Rets.mono (owned_any H H.own_toR (by have := hok2.len; omega) hok2 ho2 hown2) ?_); rintro _ w ⟨rfl, H⟩; refine ⟨(by first | exact H | exact Holds.drop H | exact Holds.drop (Holds.drop H)), ?_⟩)
      | (refine VcD.callF (f := F_lock_May2) rfl ok_lock_May2 rfl rfl rfl rfl (Rets.mono (May2_any H H.own_toR (by omega) (mdAt ms j)) ?_); rintro _ w ⟨rfl, H⟩; refine ⟨(by first | exact H | exact Holds.drop H | exact Holds.drop (Holds.drop H)), ?_⟩)
      | (refine VcD.callF (f := F_lock_Beside) rfl ok_lock_Beside rfl rfl rfl rfl (Rets.mono (Beside_any H (mdAt ml i) (mdAt ml c)) ?_); rintro _ w ⟨rfl, H⟩; refine ⟨(by first | exact H | exact Holds.drop H | exact Holds.drop (Holds.drop H)), ?_⟩)
      | refine VcD.skip rfl rfl rfl (by first | exact H | exact Holds.drop H | exact Holds.drop (Holds.drop H)) ?_
      | (refine VcD.guardO rfl rfl rfl rfl rfl (fun h => ?_) (fun h => ?_) <;> first | (cases h; done) | (exfalso; simp only [decide_eq_true_eq, decide_eq_false_iff_not] at h; omega) | (with_reducible have hp := of_decide_eq_true h) | (with_reducible have hp := of_decide_eq_false h) | (with_reducible have hp := ndec_t h) | (with_reducible have hp := ndec_f h) | skip))
      | (show VcD _ _ _ _ _ (.two _ _ _ _) _ _ _; refine VcD.two ?_ ?_))
            | (show EfO _ _ _ _ _ _ _ _ _; first
      | (refine EfO.call (f := F_tithinglaw20_Awake) rfl rfl rfl rfl (OpC.call ok_tithinglaw20_Awake rfl) (Rets.mono (Awake_any H) ?_); rintro _ w ⟨rfl, H⟩; refine ⟨(by first | exact H | exact Holds.drop H | exact Holds.drop (Holds.drop H)), ?_⟩)
      | (refine EfO.call (f := F_tithingtop_lockDeed) rfl rfl rfl rfl (OpC.call ok_tithingtop_lockDeed rfl) (Rets.mono (hst _ _ _ H.drop ht) ?_); rintro _ w ⟨tl2, o2, H, hok2, ho2, hown2⟩; refine ⟨(by first | exact H | exact Holds.drop H | exact Holds.drop (Holds.drop H)), ?_⟩)
      | (refine EfO.call (f := F_lock_Valid) rfl rfl rfl rfl (OpC.call ok_lock_Valid rfl) (Rets.mono (ValidOk_any H hok2) ?_); rintro _ w ⟨rfl, H⟩; refine ⟨(by first | exact H | exact Holds.drop H | exact Holds.drop (Holds.drop H)), ?_⟩)
      | (refine EfO.call (f := F_tithingtop_owned) rfl rfl rfl rfl (OpC.call ok_tithingtop_owned rfl) (Rets.mono (owned_any H H.own_toR (by have := hok2.len; omega) hok2 ho2 hown2) ?_); rintro _ w ⟨rfl, H⟩; refine ⟨(by first | exact H | exact Holds.drop H | exact Holds.drop (Holds.drop H)), ?_⟩)
      | (refine EfO.call (f := F_lock_May2) rfl rfl rfl rfl (OpC.call ok_lock_May2 rfl) (Rets.mono (May2_any H H.own_toR (by omega) (mdAt ms j)) ?_); rintro _ w ⟨rfl, H⟩; refine ⟨(by first | exact H | exact Holds.drop H | exact Holds.drop (Holds.drop H)), ?_⟩)
      | (refine EfO.call (f := F_lock_Beside) rfl rfl rfl rfl (OpC.call ok_lock_Beside rfl) (Rets.mono (Beside_any H (mdAt ml i) (mdAt ml c)) ?_); rintro _ w ⟨rfl, H⟩; refine ⟨(by first | exact H | exact Holds.drop H | exact Holds.drop (Holds.drop H)), ?_⟩))
            | (show Vc _ _ _ _ _ _; first
      | refine Vc.seq ?_
      | refine Vc.region ?_
      | refine Vc.condT rfl ?_
      | refine Vc.condF rfl ?_
      | refine Vc.ret ?_
      | refine Vc.skip ?_
      | refine Vc.block ?_
      | refine Vc.exit ?_
      | refine Vc.drawnH (id := 28) H (.take 0 (.take 1 (.take 4 (.take 5 (.take 2 (.take 3 (.take 6 (.take 7 (.only 8 (.take 9 (.take 10 (.take 11 (.take 12 (.take 13 (.take 14 (.take 15 (.take 16 (.take 17 (.take 18 (.take 19 (.take 20 (.take 21 (.take 22 (.take 23 (.take 24 (.take 25 (.take 26 (.take 27 (.take 28 (.take 29 (.take 30 (.take 31 (.take 32 (.take 33 (.take 34 (.take 35 (.take 36 (.take 37 .done)))))))))))))))))))))))))))))))))))))) mixed (by kernel_rfl) (fun w H => ?_)
      | (refine Vc.cond rfl (fun h => ?_) (fun h => ?_) <;> first | (cases h; done) | (exfalso; simp only [decide_eq_true_eq, decide_eq_false_iff_not] at h; omega) | (with_reducible have hp := of_decide_eq_true h) | (with_reducible have hp := of_decide_eq_false h) | (with_reducible have hp := ndec_t h) | (with_reducible have hp := ndec_f h) | skip))
            | (show KSeq _ _ _ _ _ _ _; first
      | refine KSeq.normal ?_
      | refine KSeq.ret ?_
      | refine KSeq.exit ?_)
            | (show KBlock _ _ _ _ _; first
      | refine KBlock.normal ?_
      | refine KBlock.here ?_
      | refine KBlock.on rfl ?_
      | refine KBlock.ret ?_)
            | refine KLoop.exit ?_
            | refine KLoop.ret ?_
            | refine KCut.exit ?_
            | refine KCut.ret ?_
            | (show KEnd _ _ _ _ _ _; first
      | refine KEnd.mk (Or.inr rfl) ⟨_, (ResL.tmp rfl ResL.nil), ?_⟩
      | refine KEnd.mk (Or.inl rfl) ⟨_, (ResL.tmp rfl ResL.nil), ?_⟩))
          exact KLoop.again (i + 1) ⟨got_succ rfl (by omega), trivial⟩ ⟨rfl, trivial⟩ ⟨H, hil⟩ (by omega)
      ·
        repeat' (first
          | (refine VcL.loadR tabOk rfl rfl rfl rfl rfl rfl (Holds.rdAt (mid := oC o2) (pre := []) (post := []) (Holds.drop H) (by simp) rfl) (by rw [flat_len nC_len, ho2]) ?_)
          | (refine VcL.append tabOk rfl rfl rfl rfl H.swap H.own_src (oneM (mdAt ms j)) (by show (_ + 1) * 4 ≤ _; omega) rfl rfl rfl (fun v_ w H => ?_); have H := own_pushM (x := mdAt ms j) H.swap.drop)
          | (show VcL _ _ _ _ _ _ _ _; first
      | refine VcL.pures tabOk rfl ?_
      | refine VcL.nil ?_
      | (show VcL _ _ _ _ (⟨_, .load _ _, _, _, _, _⟩ :: _) _ _ _; first
      | refine VcL.load1 tabOk rfl rfl rfl rfl rfl (by first | exact Holds.cell H rfl | exact Holds.cell (Holds.f1 H) rfl | exact Holds.cell (Holds.f2 H) rfl | exact Holds.cell (Holds.f3 H) rfl | exact Holds.cell (Holds.f4 H) rfl | exact Holds.cell (Holds.f5 H) rfl | exact Holds.cell (Holds.f6 H) rfl | exact RdW.get (by assumption) rfl H | exact RdW.get0 (by assumption) rfl H | exact RdW.get (by assumption) rfl (Holds.drop H) | exact RdW.get0 (by assumption) rfl (Holds.drop H) | exact RdW.get (by assumption) rfl (Holds.drop (Holds.drop H)) | exact RdW.get0 (by assumption) rfl (Holds.drop (Holds.drop H)) | exact RdW.get (by assumption) rfl (Holds.drop (Holds.drop (Holds.drop H))) | exact RdW.get0 (by assumption) rfl (Holds.drop (Holds.drop (Holds.drop H))) | assumption) ?_
      | refine VcL.loadR tabOk rfl rfl rfl rfl rfl rfl (by first | exact RdW.rd (by assumption) H | exact RdW.rd (by assumption) (Holds.drop H) | exact RdW.rd (by assumption) (Holds.drop (Holds.drop H)) | exact RdW.rd (by assumption) (Holds.drop (Holds.drop (Holds.drop H))) | assumption) rfl ?_
      | refine VcL.loadN tabOk rfl rfl rfl rfl rfl rfl (by first | exact H | exact (Holds.f1 H) | exact (Holds.f2 H) | exact (Holds.f3 H) | exact (Holds.f4 H) | exact (Holds.f5 H) | exact (Holds.f6 H)) (by exact rfl) ?_)
      | (show VcL _ _ _ _ (⟨_, .binOp _ _ _ _ _, _, _, _, _⟩ :: _) _ _ _; first
      | refine VcL.eqS tabOk rfl rfl rfl rfl rfl rfl (by kernel_rfl) (by kernel_rfl) rfl rfl (by first | exact .inl rfl | exact .inr rfl) ?_)
      | (show VcL _ _ _ _ (⟨_, .indexAddr _ _ _, _, _, _, _⟩ :: _) _ _ _; first
      | refine VcL.indexAddr0 tabOk rfl rfl rfl rfl rfl rfl (by omega) (by omega) ?_
      | refine VcL.indexAddr tabOk rfl rfl rfl rfl rfl rfl (by omega) (by omega) ?_
      | refine VcL.indexArr0 tabOk rfl rfl rfl rfl rfl rfl (by omega) (by omega) ?_
      | refine VcL.indexArr tabOk rfl rfl rfl rfl rfl rfl (by omega) (by omega) ?_)
      | refine VcL.alloc tabOk H rfl rfl rfl rfl (fun b w H => ?_)
      | refine VcL.buildSlice tabOk H rfl rfl rfl rfl rfl rfl (fun sv w H => ?_)
      | (show VcL _ _ _ _ (⟨_, .store _ _ _, _, _, _, _⟩ :: _) _ _ _; first
      | refine VcL.store tabOk rfl (by first | exact H | exact (Holds.f1 H) | exact (Holds.f2 H) | exact (Holds.f3 H) | exact (Holds.f4 H) | exact (Holds.f5 H) | exact (Holds.f6 H)) rfl rfl (by exact rfl) (by exact rfl) (by exact rfl) (by exact rfl) (fun w H => ?_))
      | (show VcL _ _ _ _ (⟨_, .call ⟨.value (.func F_tithinglaw20_Awake), _, _⟩, _, _, _, _⟩ :: _) _ _ _; first
      | (refine VcL.callF ok_tithinglaw20_Awake rfl rfl rfl rfl (Rets.mono (Awake_any H) ?_); rintro _ w ⟨rfl, H⟩))
      | (show VcL _ _ _ _ (⟨_, .call ⟨.value (.func F_tithingtop_lockDeed), _, _⟩, _, _, _, _⟩ :: _) _ _ _; first
      | (refine VcL.callF ok_tithingtop_lockDeed rfl rfl rfl rfl (Rets.mono (hst _ _ _ H.drop ht) ?_); rintro _ w ⟨tl2, o2, H, hok2, ho2, hown2⟩))
      | (show VcL _ _ _ _ (⟨_, .call ⟨.value (.func F_lock_Valid), _, _⟩, _, _, _, _⟩ :: _) _ _ _; first
      | (refine VcL.callF ok_lock_Valid rfl rfl rfl rfl (Rets.mono (ValidOk_any H hok2) ?_); rintro _ w ⟨rfl, H⟩))
      | (show VcL _ _ _ _ (⟨_, .call ⟨.value (.func F_tithingtop_owned), _, _⟩, _, _, _, _⟩ :: _) _ _ _; first
      | (refine VcL.callF ok_tithingtop_owned rfl rfl rfl rfl (Rets.mono (owned_any H H.own_toR (by have := hok2.len; omega) hok2 ho2 hown2) ?_); rintro _ w ⟨rfl, H⟩))
      | (show VcL _ _ _ _ (⟨_, .call ⟨.value (.func F_lock_May2), _, _⟩, _, _, _, _⟩ :: _) _ _ _; first
      | (refine VcL.callF ok_lock_May2 rfl rfl rfl rfl (Rets.mono (May2_any H H.own_toR (by omega) (mdAt ms j)) ?_); rintro _ w ⟨rfl, H⟩))
      | (show VcL _ _ _ _ (⟨_, .call ⟨.value (.func F_lock_Beside), _, _⟩, _, _, _, _⟩ :: _) _ _ _; first
      | (refine VcL.callF ok_lock_Beside rfl rfl rfl rfl (Rets.mono (Beside_any H (mdAt ml i) (mdAt ml c)) ?_); rintro _ w ⟨rfl, H⟩))
      | (refine VcL.guard rfl rfl rfl rfl (fun h => ?_) (fun h => ?_) <;> first | (cases h; done) | (exfalso; simp only [decide_eq_true_eq, decide_eq_false_iff_not] at h; omega) | (with_reducible have hp := of_decide_eq_true h) | (with_reducible have hp := of_decide_eq_false h) | (with_reducible have hp := ndec_t h) | (with_reducible have hp := ndec_f h) | skip))
          | (show VcD _ _ _ _ _ _ _ _ _; first
      | refine VcD.pures tabOk (by first | exact H | exact Holds.drop H | exact Holds.drop (Holds.drop H)) rfl ?_
      | refine VcD.done ?_
      | (show VcD _ _ _ _ _ (.take _ _) _ _ _; first
      | refine VcD.load1 tabOk rfl rfl rfl rfl rfl rfl (by first | exact H | exact Holds.drop H | exact Holds.drop (Holds.drop H)) (by intro w_ hw_; first | exact Holds.cell hw_ rfl | exact Holds.cell (Holds.f1 hw_) rfl | exact Holds.cell (Holds.f2 hw_) rfl | exact Holds.cell (Holds.f3 hw_) rfl | exact Holds.cell (Holds.f4 hw_) rfl | exact Holds.cell (Holds.f5 hw_) rfl | exact Holds.cell (Holds.f6 hw_) rfl | exact RdW.get (by assumption) rfl hw_ | exact RdW.get0 (by assumption) rfl hw_ | exact RdW.get (by assumption) rfl (Holds.drop hw_) | exact RdW.get0 (by assumption) rfl (Holds.drop hw_) | exact RdW.get (by assumption) rfl (Holds.drop (Holds.drop hw_)) | exact RdW.get0 (by assumption) rfl (Holds.drop (Holds.drop hw_)) | exact RdW.get (by assumption) rfl (Holds.drop (Holds.drop (Holds.drop hw_))) | exact RdW.get0 (by assumption) rfl (Holds.drop (Holds.drop (Holds.drop hw_))) | assumption) (by exact rfl) ?_
      | refine VcD.loadR tabOk rfl rfl rfl rfl rfl rfl rfl (by first | exact H | exact Holds.drop H | exact Holds.drop (Holds.drop H)) (by intro w_ hw_; first | exact RdW.rd (by assumption) hw_ | exact RdW.rd (by assumption) (Holds.drop hw_) | exact RdW.rd (by assumption) (Holds.drop (Holds.drop hw_)) | exact RdW.rd (by assumption) (Holds.drop (Holds.drop (Holds.drop hw_))) | assumption) rfl ?_
      | refine VcD.loadN tabOk rfl rfl rfl rfl rfl rfl rfl (by first | exact H | exact Holds.drop H | exact Holds.drop (Holds.drop H)) (by intro w_ hw_; first | exact hw_ | exact (Holds.f1 hw_) | exact (Holds.f2 hw_) | exact (Holds.f3 hw_) | exact (Holds.f4 hw_) | exact (Holds.f5 hw_) | exact (Holds.f6 hw_)) (by exact rfl) ?_
      | refine VcD.indexAddr0 tabOk rfl rfl rfl rfl rfl rfl rfl (by first | exact H | exact Holds.drop H | exact Holds.drop (Holds.drop H)) (by omega) (by omega) ?_
      | refine VcD.indexAddr tabOk rfl rfl rfl rfl rfl rfl rfl (by first | exact H | exact Holds.drop H | exact Holds.drop (Holds.drop H)) (by omega) (by omega) ?_
      | refine VcD.indexArr0 tabOk rfl rfl rfl rfl rfl rfl rfl (by first | exact H | exact Holds.drop H | exact Holds.drop (Holds.drop H)) (by omega) (by omega) ?_
      | refine VcD.indexArr tabOk rfl rfl rfl rfl rfl rfl rfl (by first | exact H | exact Holds.drop H | exact Holds.drop (Holds.drop H)) (by omega) (by omega) ?_
      | (refine VcD.guardT rfl rfl rfl rfl rfl (fun h => ?_) (fun h => ?_) <;> first | (cases h; done) | (exfalso; simp only [decide_eq_true_eq, decide_eq_false_iff_not] at h; omega) | (with_reducible have hp := of_decide_eq_true h) | (with_reducible have hp := of_decide_eq_false h) | (with_reducible have hp := ndec_t h) | (with_reducible have hp := ndec_f h) | skip))
      | (show VcD _ _ _ _ _ (.only _ _) _ _ _; first
      | (refine VcD.callF (f := F_tithinglaw20_Awake) rfl ok_tithinglaw20_Awake rfl rfl rfl rfl (Rets.mono (Awake_any H) ?_); rintro _ w ⟨rfl, H⟩; refine ⟨(by first | exact H | exact Holds.drop H | exact Holds.drop (Holds.drop H)), ?_⟩)
      | (refine VcD.callF (f := F_tithingtop_lockDeed) rfl ok_tithingtop_lockDeed rfl rfl rfl rfl (Rets.mono (hst _ _ _ H.drop ht) ?_); rintro _ w ⟨tl2, o2, H, hok2, ho2, hown2⟩; refine ⟨(by first | exact H | exact Holds.drop H | exact Holds.drop (Holds.drop H)), ?_⟩)
      | (refine VcD.callF (f := F_lock_Valid) rfl ok_lock_Valid rfl rfl rfl rfl (Rets.mono (ValidOk_any H hok2) ?_); rintro _ w ⟨rfl, H⟩; refine ⟨(by first | exact H | exact Holds.drop H | exact Holds.drop (Holds.drop H)), ?_⟩)
      | (refine VcD.callF (f := F_tithingtop_owned) rfl ok_tithingtop_owned rfl rfl rfl rfl (Rets.mono (owned_any H H.own_toR (by have := hok2.len; omega) hok2 ho2 hown2) ?_); rintro _ w ⟨rfl, H⟩; refine ⟨(by first | exact H | exact Holds.drop H | exact Holds.drop (Holds.drop H)), ?_⟩)
      | (refine VcD.callF (f := F_lock_May2) rfl ok_lock_May2 rfl rfl rfl rfl (Rets.mono (May2_any H H.own_toR (by omega) (mdAt ms j)) ?_); rintro _ w ⟨rfl, H⟩; refine ⟨(by first | exact H | exact Holds.drop H | exact Holds.drop (Holds.drop H)), ?_⟩)
      | (refine VcD.callF (f := F_lock_Beside) rfl ok_lock_Beside rfl rfl rfl rfl (Rets.mono (Beside_any H (mdAt ml i) (mdAt ml c)) ?_); rintro _ w ⟨rfl, H⟩; refine ⟨(by first | exact H | exact Holds.drop H | exact Holds.drop (Holds.drop H)), ?_⟩)
      | refine VcD.skip rfl rfl rfl (by first | exact H | exact Holds.drop H | exact Holds.drop (Holds.drop H)) ?_
      | (refine VcD.guardO rfl rfl rfl rfl rfl (fun h => ?_) (fun h => ?_) <;> first | (cases h; done) | (exfalso; simp only [decide_eq_true_eq, decide_eq_false_iff_not] at h; omega) | (with_reducible have hp := of_decide_eq_true h) | (with_reducible have hp := of_decide_eq_false h) | (with_reducible have hp := ndec_t h) | (with_reducible have hp := ndec_f h) | skip))
      | (show VcD _ _ _ _ _ (.two _ _ _ _) _ _ _; refine VcD.two ?_ ?_))
          | (show EfO _ _ _ _ _ _ _ _ _; first
      | (refine EfO.call (f := F_tithinglaw20_Awake) rfl rfl rfl rfl (OpC.call ok_tithinglaw20_Awake rfl) (Rets.mono (Awake_any H) ?_); rintro _ w ⟨rfl, H⟩; refine ⟨(by first | exact H | exact Holds.drop H | exact Holds.drop (Holds.drop H)), ?_⟩)
      | (refine EfO.call (f := F_tithingtop_lockDeed) rfl rfl rfl rfl (OpC.call ok_tithingtop_lockDeed rfl) (Rets.mono (hst _ _ _ H.drop ht) ?_); rintro _ w ⟨tl2, o2, H, hok2, ho2, hown2⟩; refine ⟨(by first | exact H | exact Holds.drop H | exact Holds.drop (Holds.drop H)), ?_⟩)
      | (refine EfO.call (f := F_lock_Valid) rfl rfl rfl rfl (OpC.call ok_lock_Valid rfl) (Rets.mono (ValidOk_any H hok2) ?_); rintro _ w ⟨rfl, H⟩; refine ⟨(by first | exact H | exact Holds.drop H | exact Holds.drop (Holds.drop H)), ?_⟩)
      | (refine EfO.call (f := F_tithingtop_owned) rfl rfl rfl rfl (OpC.call ok_tithingtop_owned rfl) (Rets.mono (owned_any H H.own_toR (by have := hok2.len; omega) hok2 ho2 hown2) ?_); rintro _ w ⟨rfl, H⟩; refine ⟨(by first | exact H | exact Holds.drop H | exact Holds.drop (Holds.drop H)), ?_⟩)
      | (refine EfO.call (f := F_lock_May2) rfl rfl rfl rfl (OpC.call ok_lock_May2 rfl) (Rets.mono (May2_any H H.own_toR (by omega) (mdAt ms j)) ?_); rintro _ w ⟨rfl, H⟩; refine ⟨(by first | exact H | exact Holds.drop H | exact Holds.drop (Holds.drop H)), ?_⟩)
      | (refine EfO.call (f := F_lock_Beside) rfl rfl rfl rfl (OpC.call ok_lock_Beside rfl) (Rets.mono (Beside_any H (mdAt ml i) (mdAt ml c)) ?_); rintro _ w ⟨rfl, H⟩; refine ⟨(by first | exact H | exact Holds.drop H | exact Holds.drop (Holds.drop H)), ?_⟩))
          | (show Vc _ _ _ _ _ _; first
      | refine Vc.seq ?_
      | refine Vc.region ?_
      | refine Vc.condT rfl ?_
      | refine Vc.condF rfl ?_
      | refine Vc.ret ?_
      | refine Vc.skip ?_
      | refine Vc.block ?_
      | refine Vc.exit ?_
      | refine Vc.drawnH (id := 28) H (.take 0 (.take 1 (.take 4 (.take 5 (.take 2 (.take 3 (.take 6 (.take 7 (.only 8 (.take 9 (.take 10 (.take 11 (.take 12 (.take 13 (.take 14 (.take 15 (.take 16 (.take 17 (.take 18 (.take 19 (.take 20 (.take 21 (.take 22 (.take 23 (.take 24 (.take 25 (.take 26 (.take 27 (.take 28 (.take 29 (.take 30 (.take 31 (.take 32 (.take 33 (.take 34 (.take 35 (.take 36 (.take 37 .done)))))))))))))))))))))))))))))))))))))) mixed (by kernel_rfl) (fun w H => ?_)
      | (refine Vc.cond rfl (fun h => ?_) (fun h => ?_) <;> first | (cases h; done) | (exfalso; simp only [decide_eq_true_eq, decide_eq_false_iff_not] at h; omega) | (with_reducible have hp := of_decide_eq_true h) | (with_reducible have hp := of_decide_eq_false h) | (with_reducible have hp := ndec_t h) | (with_reducible have hp := ndec_f h) | skip))
          | (show KSeq _ _ _ _ _ _ _; first
      | refine KSeq.normal ?_
      | refine KSeq.ret ?_
      | refine KSeq.exit ?_)
          | (show KBlock _ _ _ _ _; first
      | refine KBlock.normal ?_
      | refine KBlock.here ?_
      | refine KBlock.on rfl ?_
      | refine KBlock.ret ?_)
          | refine KLoop.exit ?_
          | refine KLoop.ret ?_
          | refine KCut.exit ?_
          | refine KCut.ret ?_
          | (show KEnd _ _ _ _ _ _; first
      | refine KEnd.mk (Or.inr rfl) ⟨_, (ResL.tmp rfl ResL.nil), ?_⟩
      | refine KEnd.mk (Or.inl rfl) ⟨_, (ResL.tmp rfl ResL.nil), ?_⟩))
        exact ⟨rfl, H.drop⟩
end Go.Proofs.Ytngnddnbhlbjbaa.V
