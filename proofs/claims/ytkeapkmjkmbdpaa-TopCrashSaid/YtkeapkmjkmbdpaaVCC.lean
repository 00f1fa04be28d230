/- The chapter's example. -/
import Derived.Test.YtkeapkmjkmbdpaaVBB
namespace Go.Proofs.Ytkeapkmjkmbdpaa.V
open Go Go.Proofs.YtkeapkmjkmbdpaaV
set_option linter.unusedVariables false
set_option linter.unusedSimpArgs false
set_option maxHeartbeats 1000000
set_option maxRecDepth 4000
attribute [local irreducible] IntKind.wrap
variable {I : Imm} {w : World} {L : List Asn}
theorem OpE.ofBytes {P : Program} {T : Tab} {n : Fi} {env : Env} (hT : TabOk P T) {o : Oper} {s d e : Nat} {x : Operand} {v : Value} {is ie id : TI} {m : Nat} {bs : List UInt8} (ho : o.op = .convert s d x) (hx : opv env x = some v) (hs : T.get s = some is) (hsd : is.desc = .slice e) (he : T.get e = some ie) (hed : ie.desc = .int .u8) (hd : T.get d = some id) (hdd : id.desc = .string)
    (h : Src w 1 v m (bs.map byteV)) (hv : ∃ a c, v = .slice a m c) : OpE P n env o w fun u w' => u = .string ⟨bs.toArray⟩ ∧ w' = w :=
  ⟨_, _, OpV.ofBytes hT ho hx hs hsd he hed hd hdd h hv, rfl, rfl⟩
theorem str_eq (a b : By) : ((⟨a.toArray⟩ : ByteArray).toList == (⟨b.toArray⟩ : ByteArray).toList) = decide (a = b) := by
  rw [ba_beq]
  refine decide_eq_decide.2 ⟨fun h => ?_, fun h => by rw [h]⟩
  have := congrArg (fun s : ByteArray => s.data.toList) h
  simpa using this
def awD : Dk := (openS (newS 50) 5).1
def awC : Dk × Bool × Int := commitS awD 5 false [(2, fullB 7)]
theorem aw0 : (openS (newS 50) 5).2 = 0 := by decide +kernel
theorem aw1 : awC.2.2 = 0 := by decide +kernel
theorem aw2 : awC.2.1 = false := by decide +kernel
theorem aw3 : awC.1.writes = 4 := by decide +kernel
theorem aw4 : awC.1.wait.length = 0 := by decide +kernel
theorem aw5 : srdS awC.1 5 false 2 = (fullB 7, 0) := by decide +kernel
theorem aw6 : awD.writes = 0 := by decide +kernel
theorem aw7 : awD.blocks.length = 50 := by decide +kernel
theorem aw8 : awC.1.blocks.length = 50 := by decide +kernel
theorem Open_ok {d : Nat} {D : Dk} (H : Holds I w (dskA d D :: L)) (hw : D.writes + 100 < 2 ^ 40) {home : Int} (hm1 : -9223372036854775808 ≤ home ∧ home ≤ 9223372036854775807) (h0 : (openS D home).2 = 0) :
    Rets Try.prog F_journal_Open #[ptr d, .int .i64 home] w fun u w' => ∃ s, u = .tuple #[ptr s, .int .i64 0] ∧ Holds I w' (dskA d (openS D home).1 :: blk s 55 (stV d home false) :: L) :=
  (Open_any H hw hm1).mono fun u w' h => by
    rcases h.out with ⟨_, s, h1, h2⟩ | ⟨hne, _⟩
    · exact ⟨s, h1, h2⟩
    · exact absurd h0 hne
theorem Awake_any (H : Holds I w L) : Rets Try.prog F_tithinglaw16_Awake #[] w fun u w' => u = .bool true ∧ Holds I w' L := by
  obtain ⟨D0, hD0⟩ : ∃ D0, newS 50 = D0 := ⟨_, rfl⟩
  obtain ⟨D1, hD1⟩ : ∃ D1, awD = D1 := ⟨_, rfl⟩
  obtain ⟨C, hC⟩ : ∃ C, awC = C := ⟨_, rfl⟩
  have h0 := aw0
  have h1 := aw1
  have h2 := aw2
  have h3 := aw3
  have h4 := aw4
  have h5 := aw5
  have h6 := aw6
  have h7 := aw7
  have h8 := aw8
  have hDe : (openS D0 5).1 = D1 := by rw [← hD0]; exact hD1
  have hCe : commitS D1 5 false [(2, fullB 7)] = C := by rw [← hD1]; exact hC
  have hw0 : D0.writes = 0 := by rw [← hD0]; rfl
  rw [hD0] at h0
  rw [hC] at h1 h2 h3 h4 h5 h8
  rw [hD1] at h6 h7
  have hfl : (fullB 7).length = 256 := fullB_len 7
  obtain ⟨fb, hfb⟩ : ∃ fb, fullB 7 = fb := ⟨_, rfl⟩
  have hFull : byteV 7 = .int .u8 7 := rfl
  rw [hfb] at hCe h5 hfl
  have hcl : ∀ {K : Imm} {w : World} {M : List Asn} {lv : Value} {A9 : Option Addr} {c9 : Nat}, Holds K w (own lv 43 2 1 [.int .i64 2, .slice A9 256 c9] :: M) → SlR K (own lv 43 2 1 [.int .i64 2, .slice A9 256 c9] :: M) lv 2 [((2 : Int), ((Value.slice A9 256 c9, fb) : Vb))].length ([((2 : Int), ((Value.slice A9 256 c9, fb) : Vb))].flatMap wrC) := fun H => Holds.own_toR H
  have hcd : ∀ {K : Imm} {M : List Asn} {A9 : Option Addr} {c9 : Nat}, SlR K M (.slice A9 256 c9) 1 256 (byL fb) → ∀ x ∈ [((2 : Int), ((Value.slice A9 256 c9, fb) : Vb))], SlR K M x.2.1 1 x.2.2.length (byL x.2.2) := fun h x hx => by
    simp only [List.mem_singleton] at hx
    subst hx
    show SlR _ _ _ 1 fb.length (byL fb)
    rw [hfl]
    exact h
  have hcw : ∀ {A9 : Option Addr} {c9 : Nat}, wsOf [((2 : Int), ((Value.slice A9 256 c9, fb) : Vb))] = [(2, fb)] := rfl
  have hss : ((⟨fb.toArray⟩ : ByteArray).toList == (⟨fb.toArray⟩ : ByteArray).toList) = true := by rw [str_eq]; exact decide_eq_true rfl
  refine ok_tithinglaw16_Awake.rets rfl ?_
  repeat' (first
    | rw [hss]
    | (refine EfO.eff rfl rfl rfl rfl (OpE.ofBytes (m := fb.length) (bs := fb) tabOk rfl rfl rfl rfl rfl rfl rfl rfl (by first | exact Holds.own_src H | exact Holds.own_src (Holds.f1 H)) ⟨_, _, rfl⟩) ?_; rintro _ w ⟨rfl, he⟩; subst he; refine ⟨trivial, ?_⟩)
    | (refine EfO.eff rfl rfl rfl rfl (OpE.ofBytes (m := 256) (bs := fb) tabOk rfl rfl rfl rfl rfl rfl rfl rfl (by first | exact Holds.own_src H | exact Holds.own_src (Holds.f1 H)) ⟨_, _, rfl⟩) ?_; rintro _ w ⟨rfl, he⟩; subst he; refine ⟨trivial, ?_⟩)
    | (refine VcD.eff rfl rfl rfl rfl (OpE.ofBytes (m := fb.length) (bs := fb) tabOk rfl rfl rfl rfl rfl rfl rfl rfl (by first | exact Holds.own_src H | exact Holds.own_src (Holds.f1 H)) ⟨_, _, rfl⟩) ?_; rintro _ w ⟨rfl, he⟩; subst he; refine ⟨trivial, ?_⟩)
    | (refine VcD.eff rfl rfl rfl rfl (OpE.ofBytes (m := 256) (bs := fb) tabOk rfl rfl rfl rfl rfl rfl rfl rfl (by first | exact Holds.own_src H | exact Holds.own_src (Holds.f1 H)) ⟨_, _, rfl⟩) ?_; rintro _ w ⟨rfl, he⟩; subst he; refine ⟨trivial, ?_⟩)
    | (show VcL _ _ _ _ _ _ _ _; first
      | refine VcL.pures tabOk rfl ?_
      | refine VcL.nil ?_
      | refine VcL.buildSlice tabOk H rfl rfl rfl rfl rfl rfl (fun sv w H => ?_)
      | (show VcL _ _ _ _ (⟨_, .call ⟨.value (.func F_journal_NewDisk), _, _⟩, _, _, _, _⟩ :: _) _ _ _; (refine VcL.callF ok_journal_NewDisk rfl rfl rfl rfl (Rets.mono (NewDisk_any (n := 50) H (by omega) (by omega)) ?_); rintro _ w ⟨d, rfl, H⟩; rw [hD0] at H))
      | (show VcL _ _ _ _ (⟨_, .call ⟨.value (.func F_journal_Open), _, _⟩, _, _, _, _⟩ :: _) _ _ _; (refine VcL.callF ok_journal_Open rfl rfl rfl rfl (Rets.mono (Open_ok (D := D0) (home := 5) H (by rw [hw0]; decide) (by omega) h0) ?_); rintro _ w ⟨s, rfl, H⟩; rw [hDe] at H; clear h0 hDe))
      | (show VcL _ _ _ _ (⟨_, .call ⟨.value (.func F_tithinglaw16_Full), _, _⟩, _, _, _, _⟩ :: _) _ _ _; (refine VcL.callF ok_tithinglaw16_Full rfl rfl rfl rfl (Rets.mono (Full_any H 7) ?_); rintro _ w H; rw [hfb] at H; obtain ⟨_, A9, c9, rfl⟩ := Holds.own_len H))
      | (show VcL _ _ _ _ (⟨_, .call ⟨.value (.func F_journal_Store_Commit), _, _⟩, _, _, _, _⟩ :: _) _ _ _; (refine VcL.callF ok_journal_Store_Commit rfl rfl rfl rfl (Rets.mono (Commit_any (ho := 5) (dead := false) (wl := [((2 : Int), ((Value.slice A9 256 c9, fb) : Vb))]) (Holds.re [2, 2, 0, 0] H rfl) (by rw [h6]; decide) (by rw [h7]; decide) (hcl (Holds.drop2 (Holds.drop2 H))) (hcd (SlR.up (Holds.own_toR (Holds.drop1 (Holds.drop1 (Holds.drop H)))))) (by show 1 ≤ _; decide)) ?_); rintro _ w ⟨rfl, H⟩; rw [hcw, hCe] at H ⊢; rw [h1]; rw [h2] at H; have H := Holds.drop2 (Holds.drop2 H)))
      | (show VcL _ _ _ _ (⟨_, .call ⟨.value (.func F_journal_Store_Read), _, _⟩, _, _, _, _⟩ :: _) _ _ _; (refine VcL.callF ok_journal_Store_Read rfl rfl rfl rfl (Rets.mono (SRead_any (ho := 5) (dead := false) (D := C.1) H Holds.toW (by rw [h3]; decide) (by rw [h8]; decide) 2) ?_); rintro _ w ⟨uv, rfl, H⟩; rw [h5] at H ⊢; obtain ⟨_, A7, c7, rfl⟩ := Holds.own_len H))
      | (refine VcL.guard rfl rfl rfl rfl (fun h => ?_) (fun h => ?_) <;> first | (cases h; done) | (with_reducible have hp := ndec_f h)))
    | (show VcD _ _ _ _ _ _ _ _ _; first
      | refine VcD.pures tabOk rfl ?_
      | refine VcD.done ?_
      | (show VcD _ _ _ _ _ (.pure _ _) _ _ _; (refine VcD.guardP rfl rfl rfl rfl rfl (fun h => ?_) (fun h => ?_) <;> first | (cases h; done) | (with_reducible have hp := of_decide_eq_true h) | skip))
      | (show VcD _ _ _ _ _ (.only _ _) _ _ _; first
      | (refine VcD.callF (f := F_tithinglaw16_Full) rfl ok_tithinglaw16_Full rfl rfl rfl rfl (Rets.mono (Full_any H 7) ?_); rintro _ w H; rw [hfb] at H; obtain ⟨_, A9, c9, rfl⟩ := Holds.own_len H; refine ⟨(by trivial), ?_⟩)
      | (refine VcD.callF (f := F_journal_Disk_Writes) rfl ok_journal_Disk_Writes rfl rfl rfl rfl (Rets.mono (Writes_any (D := C.1) (Holds.re [2] H rfl)) ?_); rintro _ w ⟨rfl, H⟩; rw [h3]; refine ⟨(by trivial), ?_⟩)
      | (refine VcD.callF (f := F_journal_Disk_Waiting) rfl ok_journal_Disk_Waiting rfl rfl rfl rfl (Rets.mono (Waiting_any (D := C.1) H) ?_); rintro _ w ⟨rfl, H⟩; rw [h4]; refine ⟨(by trivial), ?_⟩))
      | (show VcD _ _ _ _ _ (.two _ _ _ _) _ _ _; refine VcD.two ?_ ?_))
    | (show EfO _ _ _ _ _ _ _ _ _; (refine EfO.call (f := F_tithinglaw16_Full) rfl rfl rfl rfl (OpC.call ok_tithinglaw16_Full rfl) (Rets.mono (Full_any H 7) ?_); rintro _ w H; rw [hfb] at H; obtain ⟨_, A9, c9, rfl⟩ := Holds.own_len H; refine ⟨(by trivial), ?_⟩))
    | (show Vc _ _ _ _ _ _; first
      | refine Vc.seq ?_
      | refine Vc.region ?_
      | refine Vc.condF rfl ?_
      | refine Vc.ret ?_
      | refine Vc.skip ?_
      | (refine Vc.drawn (id := 8) (.pure 0 (.pure 1 (.pure 2 (.pure 3 (.two 4 5 (.only 5 (.only 6 (.pure 7 (.pure 8 (.pure 9 (.pure 10 (.only 11 (.pure 12 (.pure 13 (.pure 14 (.pure 15 (.only 16 (.pure 17 (.pure 18 (.pure 19 .done))))))))))))))) (.two 4 6 (.only 6 (.pure 7 (.pure 8 (.pure 9 (.pure 10 (.only 11 (.pure 12 (.pure 13 (.pure 14 (.pure 15 (.only 16 (.pure 17 (.pure 18 (.pure 19 .done)))))))))))))) (.only 4 (.pure 7 (.pure 8 (.pure 9 (.pure 10 (.only 11 (.pure 12 (.pure 13 (.pure 14 (.pure 15 (.only 16 (.pure 17 (.pure 18 (.pure 19 .done)))))))))))))))))))) (.one (fun w => True)) mixed (by kernel_rfl) (by trivial) ?_; have H := H.drew (w.drawn + 1)))
    | (show KSeq _ _ _ _ _ _ _; refine KSeq.normal ?_)
    | (show KEnd _ _ _ _ _ _ _; refine KEnd.fin (Or.inr rfl) ⟨_, (ResL.tmp rfl ResL.nil), ?_⟩))
  all_goals exact ⟨rfl, H.drop.drop.drop.drop⟩
end Go.Proofs.Ytkeapkmjkmbdpaa.V
