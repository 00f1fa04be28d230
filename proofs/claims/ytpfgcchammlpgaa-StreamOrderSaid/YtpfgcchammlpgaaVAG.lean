/- The pair: what flies comes. -/
import Derived.Test.YtpfgcchammlpgaaVAF
namespace Go.Proofs.Ytpfgcchammlpgaa.V
open Go Go.Proofs.YtpfgcchammlpgaaV
set_option linter.unusedVariables false
set_option linter.unusedSimpArgs false
set_option maxHeartbeats 8000000
set_option maxRecDepth 4000
attribute [local irreducible] IntKind.wrap refA endA
variable {I : Imm} {w : World} {L : List Asn}
section
variable {P : Program} {T : Tab} {n : Fi} {ops : Array Oper} {K : Kont} {G : Gds} {env : Env} {rest : List Oper} {dst : Nat} {ty : Nat} {pos : String} {after : Array Edge} {gd : Option (Nat × Bool)} {t : Nat} {x y : Operand}
/-- A remainder by a number that is above zero. -/
theorem VcL.remS {k : IntKind} {a b : Int} {yt : Nat} (hx : opv env x = some (.int k a)) (hy : opv env y = some (.int k b)) (hb : 0 < b) (hg : gres ops G ⟨some dst, .binOp .rem t x y yt, ty, pos, after, gd⟩ = some true) (hn : inN n (some dst) = true) (ho : outG G (some dst) = true)
    (kk : VcL P n ops K rest G ((dst, .int k (a.tmod b)) :: env) w) : VcL P n ops K (⟨some dst, .binOp .rem t x y yt, ty, pos, after, gd⟩ :: rest) G env w :=
  VcL.val hg hn ho (w' := w) ⟨fun ac ha => .inl (by
    obtain ⟨m, rfl⟩ : ∃ m : Nat, b = Int.ofNat (m + 1) := ⟨b.toNat - 1, by show b = ((b.toNat - 1 + 1 : Nat) : Int); omega⟩
    have hc : intConst .rem k a (Int.ofNat (m + 1)) = some (.int k (a.tmod (Int.ofNat (m + 1)))) := rfl
    obtain ⟨h1, h2⟩ := run_const (P := P) (t := t) (x := x) (y := y) (k' := k) hc (.inl rfl) w
    show (do let r ← (do eqGuard .rem t x y (ac.eval x) (ac.eval y); Go.binOp .rem t (ac.eval x) (ac.eval y) : Sem Value); pure (Next.value r) : Sem Next).run P w = _
    rw [opv_sound ha hx, opv_sound ha hy]
    refine run_v (w' := w) ?_
    rw [run_bind h1]
    exact h2)⟩ kk
end
theorem map_take_drop {α β : Type} (g : α → β) (l : List α) (k : Nat) : (l.take k ++ l.drop (k + 1)).map g = (l.map g).take k ++ (l.map g).drop (k + 1) := by
  rw [List.map_append, List.map_take, List.map_drop]
theorem flat_takeF {α : Type} {enc : α → List Value} {sz : Nat} (he : ∀ x, (enc x).length = sz) : ∀ (l : List α) (k : Nat), (l.flatMap enc).take (k * sz) = (l.take k).flatMap enc
  | l, 0 => by simp
  | [], k + 1 => by simp
  | x :: r, k + 1 => by
    rw [List.flatMap_cons, List.take_succ_cons, List.flatMap_cons, ← flat_takeF he r k, show (k + 1) * sz = (enc x).length + k * sz by rw [he, Nat.succ_mul]; omega, List.take_length_add_append]
theorem flat_dropF {α : Type} {enc : α → List Value} {sz : Nat} (he : ∀ x, (enc x).length = sz) : ∀ (l : List α) (k : Nat), (l.flatMap enc).drop (k * sz) = (l.drop k).flatMap enc
  | l, 0 => by simp
  | [], k + 1 => by simp
  | x :: r, k + 1 => by
    rw [List.flatMap_cons, List.drop_succ_cons, ← flat_dropF he r k, show (k + 1) * sz = (enc x).length + k * sz by rw [he, Nat.succ_mul]; omega, List.drop_length_add_append]
/-- What flies, one of it comes or is lost. -/
def flyK (n : Int) (m : Nat) : Nat := (max n 0).toNat % m
def flyA (d n : Int) (A : List Fr) : List Fr := if d ≠ 11 ∧ d ≠ 12 then A.take (flyK n A.length) ++ A.drop (flyK n A.length + 1) else A
def flyE (d n : Int) (E : En) (A : List Fr) : En := if 12 < d then E else (takeS E (atD A (flyK n A.length))).1
def flyB (d n : Int) (E : En) (A B : List Fr) : List Fr := if 12 < d then B else B ++ (takeS E (atD A (flyK n A.length))).2.1
theorem takeS_len (E : En) (f : Fr) : (takeS E f).2.1.length ≤ 1 := by
  have hd : ∀ E, (doesS E f).2.length ≤ 1 := fun E => by
    unfold doesS
    split
    · exact Nat.le_refl _
    · split
      · exact Nat.le_refl _
      · split
        · exact Nat.zero_le _
        · split
          · unfold heedS
            split
            · exact Nat.le_refl _
            · split
              · exact Nat.zero_le _
              · exact Nat.le_refl _
          · dsimp only
            split
            · exact Nat.le_refl _
            · split
              · exact Nat.le_refl _
              · split
                · exact Nat.zero_le _
                · split <;> exact Nat.zero_le _
  unfold takeS
  split
  · exact Nat.zero_le _
  · split
    · exact Nat.zero_le _
    · split
      · exact hd _
      · split
        · exact Nat.zero_le _
        · exact hd _
theorem flies_none {p i : Nat} (hi : i < 2) {a b : Sd} {m : Value} {vs : List Value} (hm : m = .agg vs.toArray) (hvs : ∃ d n ab v k c, vs = [.int .i64 d, .int .i64 n, .bool ab, .slice v k c])
    (H : Holds I w (blk p 47 (pcl i a b) :: own a.f 24 5 0 [] :: L)) :
    Rets Try.prog F_tithinglaw12_Pair_flies #[ptr p, .int .i64 (i : Nat), m] w fun u w' => Holds I w' (blk p 47 (pcl i a b) :: own a.f 24 5 0 [] :: L) := by
  obtain ⟨d, n, ab, v, kk, c, rfl⟩ := hvs
  subst hm
  obtain ⟨_, P1, pc1, hp⟩ := Holds.own_len (Holds.f1 H)
  obtain ⟨e, r, f, pp, q, s⟩ := a
  obtain ⟨e2, r2, f2, pp2, q2, s2⟩ := b
  dsimp only at hp H ⊢
  subst hp
  match i, hi with
  | 0, _ =>
    have H : Holds I w (blk p 47 (pc0 ⟨e, r, .slice P1 0 pc1, pp, q, s⟩ ⟨e2, r2, f2, pp2, q2, s2⟩) :: own (.slice P1 0 pc1) 24 5 0 [] :: L) := H
    refine ok_tithinglaw12_Pair_flies.rets rfl ?_
    repeat' (first
      | (show VcL _ _ _ _ _ _ _ _; first
      | refine VcL.pures tabOk rfl ?_
      | refine VcL.nil ?_
      | (show VcL _ _ _ _ (⟨_, .load _ _, _, _, _, _⟩ :: _) _ _ _; refine VcL.load1 tabOk rfl rfl rfl rfl rfl (by exact Holds.cell (Holds.f1 H) rfl) ?_)
      | (show VcL _ _ _ _ (⟨_, .indexAddr _ _ _, _, _, _, _⟩ :: _) _ _ _; refine VcL.indexArr tabOk rfl rfl rfl rfl rfl rfl (by omega) (by omega) ?_)
      | refine VcL.box H rfl rfl rfl rfl rfl (fun b w H => ?_))
      | (show Vc _ _ _ _ _ _; first
      | refine Vc.seq ?_
      | refine Vc.region ?_
      | refine Vc.condT rfl ?_
      | refine Vc.ret ?_)
      | (show KSeq _ _ _ _ _ _ _; first
      | refine KSeq.normal ?_
      | refine KSeq.ret ?_)
      | (show KEnd _ _ _ _ _ _ _; refine KEnd.fin (Or.inr rfl) ⟨_, ResL.nil, ?_⟩))
    exact H.drop
  | 1, _ =>
    have H : Holds I w (blk p 47 (pc0 ⟨e2, r2, f2, pp2, q2, s2⟩ ⟨e, r, .slice P1 0 pc1, pp, q, s⟩) :: own (.slice P1 0 pc1) 24 5 0 [] :: L) := H
    refine ok_tithinglaw12_Pair_flies.rets rfl ?_
    repeat' (first
      | (show VcL _ _ _ _ _ _ _ _; first
      | refine VcL.pures tabOk rfl ?_
      | refine VcL.nil ?_
      | (show VcL _ _ _ _ (⟨_, .load _ _, _, _, _, _⟩ :: _) _ _ _; refine VcL.load1 tabOk rfl rfl rfl rfl rfl (by exact Holds.cell (Holds.f1 H) rfl) ?_)
      | (show VcL _ _ _ _ (⟨_, .indexAddr _ _ _, _, _, _, _⟩ :: _) _ _ _; refine VcL.indexArr tabOk rfl rfl rfl rfl rfl rfl (by omega) (by omega) ?_)
      | refine VcL.box H rfl rfl rfl rfl rfl (fun b w H => ?_))
      | (show Vc _ _ _ _ _ _; first
      | refine Vc.seq ?_
      | refine Vc.region ?_
      | refine Vc.condT rfl ?_
      | refine Vc.ret ?_)
      | (show KSeq _ _ _ _ _ _ _; first
      | refine KSeq.normal ?_
      | refine KSeq.ret ?_)
      | (show KEnd _ _ _ _ _ _ _; refine KEnd.fin (Or.inr rfl) ⟨_, ResL.nil, ?_⟩))
    exact H.drop
theorem flies_any {p i : Nat} (hi : i < 2) {a b : Sd} {E : En} {fa fb : List Fm} {d n : Int} {ab : Bool} {v : Option Addr} {kk c : Nat}
    (H : Holds I w (blk p 47 (pcl i a b) :: endA I a.e E :: refA I a.r E :: own a.f 24 5 fa.length (fa.flatMap fmC) :: own b.f 24 5 fb.length (fb.flatMap fmC) :: L))
    (hne : 0 < fa.length) (hfa : fa.length ≤ 1000000000) (hfb : fb.length ≤ 1000000000) (oa : ∀ x ∈ fa, FmOk I x) (ob : ∀ x ∈ fb, FmOk I x) (hda : ∀ x ∈ fa, x.fr.data.length ≤ 140737488355328) (hcl : E.codes.length < 1000000) :
    Rets Try.prog F_tithinglaw12_Pair_flies #[ptr p, .int .i64 (i : Nat), .agg #[.int .i64 d, .int .i64 n, .bool ab, .slice v kk c]] w fun u w' => ∃ J, Imm.Le I J ∧ ∃ fv fv2, ∃ fa2 fb2 : List Fm, fa2.map (·.fr) = flyA d n (fa.map (·.fr)) ∧ fb2.map (·.fr) = flyB d n E (fa.map (·.fr)) (fb.map (·.fr)) ∧ (∀ x ∈ fa2, FmOk J x) ∧ (∀ x ∈ fb2, FmOk J x) ∧
      Holds J w' (blk p 47 (pcl i { a with f := fv } { b with f := fv2 }) :: endA J a.e (flyE d n E (fa.map (·.fr))) :: refA J a.r (flyE d n E (fa.map (·.fr))) :: own fv 24 5 fa2.length (fa2.flatMap fmC) :: own fv2 24 5 fb2.length (fb2.flatMap fmC) :: L) := by
  obtain ⟨P1, po1, pc1, hp, hpc⟩ := Holds.own_some hne (Holds.f3 H)
  obtain ⟨_, P2, pc2, hp2⟩ := Holds.own_len (Holds.f4 H)
  obtain ⟨e, r, f, pp, q, s⟩ := a
  obtain ⟨e2, r2, f2, pp2, q2, s2⟩ := b
  dsimp only at hp hp2 H ⊢
  subst hp
  subst hp2
  obtain ⟨k, hk⟩ : ∃ k, flyK n fa.length = k := ⟨_, rfl⟩
  have hkl : k < fa.length := by rw [← hk]; exact Nat.mod_lt _ hne
  have g1 : (max n 0).tmod ((fa.length : Nat) : Int) = (k : Int) := by
    rw [← hk]; unfold flyK
    rw [Int.tmod_eq_emod_of_nonneg (by omega), Int.natCast_emod, Int.toNat_of_nonneg (by omega)]
  have hA : flyA d n (fa.map (·.fr)) = if d ≠ 11 ∧ d ≠ 12 then (fa.take k ++ fa.drop (k + 1)).map (·.fr) else fa.map (·.fr) := by
    unfold flyA; rw [List.length_map, hk, map_take_drop]
  have hgk : (fa.map (·.fr))[k]? = some (atD fa k).fr := by rw [List.getElem?_map, atD_get hkl]; rfl
  have hat : atD (fa.map (·.fr)) k = (atD fa k).fr := atD_of hgk
  have hEE : flyE d n E (fa.map (·.fr)) = if 12 < d then E else (takeS E (atD fa k).fr).1 := by unfold flyE; rw [List.length_map, hk, hat]
  have hBB : flyB d n E (fa.map (·.fr)) (fb.map (·.fr)) = if 12 < d then fb.map (·.fr) else fb.map (·.fr) ++ (takeS E (atD fa k).fr).2.1 := by unfold flyB; rw [List.length_map, hk, hat]
  have hok := oa _ (atD_mem hkl)
  have hdk := hda _ (atD_mem hkl)
  obtain ⟨⟨fr, dv⟩, hx⟩ : ∃ x, atD fa k = x := ⟨_, rfl⟩
  have hgx : fa[k]? = some ⟨fr, dv⟩ := by rw [← hx]; exact atD_get hkl
  rw [hx] at hEE hBB hok hdk
  rw [hA, hEE, hBB]
  have hok : SlI I dv 1 fr.data.length (byL fr.data) := hok
  obtain ⟨D, dc, rfl, hdc⟩ := hok.form
  dsimp only at hdk hEE hBB ⊢
  clear hA hEE hBB hgk hat hx
  match i, hi with
  | 0, _ =>
    have H : Holds I w (blk p 47 (pc0 ⟨e, r, .slice (some ⟨P1, po1, none⟩) fa.length pc1, pp, q, s⟩ ⟨e2, r2, .slice P2 fb.length pc2, pp2, q2, s2⟩) :: endA I e E :: refA I r E :: own (.slice (some ⟨P1, po1, none⟩) fa.length pc1) 24 5 fa.length (fa.flatMap fmC) :: own (.slice P2 fb.length pc2) 24 5 fb.length (fb.flatMap fmC) :: L) := H
    obtain ⟨P1', po1', h4, hr⟩ := SlR.at (SlR.mem (e := 24) H (by repeat (first | exact .head _ | apply List.Mem.tail))) hne
    injection h4 with h4
    injection h4 with h5 h6 _
    subst h5; subst h6
    have hx0 := hr.elem fmC_len hgx
    have hx0 : RdW I _ P1 (po1 + k * 5) [.int .i64 fr.kind, .int .i64 fr.id, .int .i64 fr.seq, .int .i64 fr.n, .slice D fr.data.length dc] := hx0
    have hsl := SlR.mem (e := 24) H (v := .slice (some ⟨P1, po1, none⟩) fa.length pc1) (by repeat (first | exact .head _ | apply List.Mem.tail))
    have hfix : ∀ (v : Value) (w : World) (Q : List Asn), Holds I w (own v 24 5 (0 + k + (fa.length - (k + 1))) ([] ++ (fa.take k).flatMap fmC ++ (fa.drop (k + 1)).flatMap fmC) :: Q) → Holds I w (own v 24 5 (fa.take k ++ fa.drop (k + 1)).length ((fa.take k ++ fa.drop (k + 1)).flatMap fmC) :: Q) := fun v w Q H => by
      rw [List.length_append, List.length_take, List.length_drop, List.flatMap_append, Nat.min_eq_left (by omega)]
      rw [Nat.zero_add, List.nil_append] at H
      exact H
    have g2 : IntKind.i64.wrap ((k : Int) + 1) = ((k + 1 : Nat) : Int) := by rw [wrap_i64 (by omega) (by omega)]; omega
    refine ok_tithinglaw12_Pair_flies.rets rfl ?_
    repeat' (first
      | rw [g1]
      | rw [g2]
      | (refine VcL.remS rfl rfl (by omega) rfl rfl rfl ?_)
      | (show Vc _ _ (.seq (.seq (.region 5 _ _) _) _) _ _ _; refine Vc.cut [(0, ptr p), (1, .int .i64 ((0 : Nat) : Int)), (5, ptr mb), (8, ptr b)] (fun _ : Unit => []) (fun _ w => ∃ fv, ∃ fa2 : List Fm, fa2.map (·.fr) = (if d ≠ 11 ∧ d ≠ 12 then (fa.take k ++ fa.drop (k + 1)).map (·.fr) else fa.map (·.fr)) ∧ (∀ x ∈ fa2, FmOk I x) ∧ Holds I w (blk p 47 (pc0 ⟨e, r, fv, pp, q, s⟩ ⟨e2, r2, .slice P2 fb.length pc2, pp2, q2, s2⟩) :: blk b 24 [.int .i64 fr.kind, .int .i64 fr.id, .int .i64 fr.seq, .int .i64 fr.n, .slice D fr.data.length dc] :: blk mb 35 [.int .i64 d, .int .i64 n, .bool ab, .slice v kk c] :: endA I e E :: refA I r E :: own fv 24 5 fa2.length (fa2.flatMap fmC) :: own (.slice P2 fb.length pc2) 24 5 fb.length (fb.flatMap fmC) :: L)) ?_ ?_)
      | (show VcL _ _ _ _ (⟨_, .box 35 _, _, _, _, _⟩ :: _) _ _ _; refine VcL.box H rfl rfl rfl rfl rfl (fun mb w H => ?_))
      | (refine VcD.append (m := k) (ds := (fa.take k).flatMap fmC) tabOk rfl rfl rfl rfl rfl (own0 (sz := 5) H) (SlR.src (v := .slice (some ⟨P1, po1, none⟩) k pc1) (by rw [← flat_takeF fmC_len]; exact SlR.take hsl (by omega)) (Holds.drop (Holds.drop (Holds.drop H)))) (fmC_ones fun x hx => oa x (List.mem_of_mem_take hx)) (by show (0 + k) * 56 ≤ _; omega) rfl rfl rfl (fun v_ w H => ⟨Holds.drop H, ?_⟩); obtain ⟨_, A7, c7, rfl⟩ := Holds.own_len H)
      | (refine VcD.append (m := fa.length - (k + 1)) (ds := (fa.drop (k + 1)).flatMap fmC) tabOk rfl rfl rfl rfl rfl H (SlR.src (v := .slice (some ⟨P1, p_, none⟩) (fa.length - (k + 1)) (pc1 - (k + 1))) (by rw [← flat_dropF fmC_len]; exact SlR.drop hsl (by omega) (by exact hp_)) (Holds.drop (Holds.drop (Holds.drop H)))) (fmC_ones fun x hx => oa x (List.mem_of_mem_drop hx)) (by show (0 + k + _) * 56 ≤ _; omega) rfl rfl rfl (fun v_ w H => ⟨Holds.drop H, ?_⟩); obtain ⟨_, A8, c8, rfl⟩ := Holds.own_len H; have H := hfix _ _ _ H)
      | (show VcL _ _ _ _ _ _ _ _; first
      | refine VcL.pures tabOk rfl ?_
      | refine VcL.nil ?_
      | (show VcL _ _ _ _ (⟨_, .load _ _, _, _, _, _⟩ :: _) _ _ _; first
      | refine VcL.load1 tabOk rfl rfl rfl rfl rfl (by first | exact Holds.cell H rfl | exact Holds.cell (Holds.f1 H) rfl | exact RdW.get0 (by assumption) rfl (Holds.drop H)) ?_
      | refine VcL.loadR tabOk rfl rfl rfl rfl rfl rfl (by exact RdW.rd (by assumption) (Holds.drop H)) rfl ?_)
      | (show VcL _ _ _ _ (⟨_, .indexAddr _ _ _, _, _, _, _⟩ :: _) _ _ _; first
      | refine VcL.indexAddr tabOk rfl rfl rfl rfl rfl rfl (by omega) (by omega) ?_
      | refine VcL.indexArr tabOk rfl rfl rfl rfl rfl rfl (by omega) (by omega) ?_)
      | refine VcL.alloc tabOk H rfl rfl rfl rfl (fun b w H => ?_)
      | (show VcL _ _ _ _ (⟨_, .store _ _ _, _, _, _, _⟩ :: _) _ _ _; refine VcL.store tabOk rfl (by exact H) rfl rfl (by exact rfl) (by exact rfl) (by exact rfl) (by exact rfl) (fun w H => ?_))
      | (refine VcL.guard rfl rfl rfl rfl (fun h => ?_) (fun h => ?_) <;> first | (with_reducible have hp := ndec_t h) | (with_reducible have hp := ndec_f h)))
      | (show VcD _ _ _ _ _ _ _ _ _; first
      | refine VcD.pures tabOk rfl ?_
      | refine VcD.done ?_
      | (show VcD _ _ _ _ _ (.pure _ _) _ _ _; first
      | refine VcD.indexArr tabOk rfl rfl rfl rfl rfl rfl rfl (by omega) (by omega) ?_
      | refine VcD.sliceTo tabOk rfl rfl rfl rfl rfl rfl rfl (by omega) ?_
      | refine VcD.sliceFrom tabOk rfl rfl rfl rfl rfl rfl rfl (by omega) (by omega) (fun p_ hp_ => ?_))
      | (show VcD _ _ _ _ _ (.take _ _) _ _ _; refine VcD.load1 tabOk rfl rfl rfl rfl rfl rfl (by intro w_ hw_; exact Holds.cell (Holds.f2 hw_) rfl) (by exact rfl) ?_)
      | (show VcD _ _ _ _ _ (.only _ _) _ _ _; first
      | (refine VcD.eff rfl rfl rfl rfl (OpE.buildSliceP tabOk H rfl rfl rfl rfl) ?_; rintro _ w ⟨b_, rfl, H⟩; refine ⟨(by exact Holds.drop H), ?_⟩)
      | (refine VcD.eff rfl rfl rfl rfl (OpE.store tabOk (by exact (Holds.f3 H)) rfl rfl rfl (by exact rfl) (by exact rfl) (by exact rfl) (by exact rfl)) ?_; rintro _ w ⟨_, H⟩; refine ⟨(by trivial), ?_⟩)))
      | (show Vc _ _ _ _ _ _; first
      | refine Vc.seq ?_
      | refine Vc.region ?_
      | refine Vc.condF rfl ?_
      | refine Vc.skip ?_
      | (refine Vc.drawn (id := 6) (.pure 0 (.pure 1 (.pure 3 (.pure 4 (.pure 5 (.pure 6 (.pure 9 (.pure 12 (.pure 13 (.pure 14 (.pure 15 (.pure 18 (.pure 19 (.pure 22 (.pure 23 (.pure 7 (.take 8 (.pure 10 (.pure 16 (.take 17 (.pure 20 (.only 2 (.only 11 (.only 21 (.pure 24 (.only 25 .done)))))))))))))))))))))))))) (.till (fun w => Holds I w _) 25 (.one (fun _ => True))) mixed (by kernel_rfl) (by exact (Holds.drew H _)) ?_; have H := H.drew (w.drawn + 1))
      | (refine Vc.cond rfl (fun h => ?_) (fun h => ?_) <;> first | (exfalso; simp only [decide_eq_true_eq, decide_eq_false_iff_not, Bool.not_eq_true', Bool.not_eq_false'] at h; omega) | (with_reducible have hp := of_decide_eq_false h) | (with_reducible have hp := ndec_t h) | (with_reducible have hp := ndec_f h)))
      | (show KSeq _ _ _ _ _ _ _; refine KSeq.normal ?_))
    all_goals first
      | exact KCut.join () trivial ⟨rfl, rfl, rfl, rfl, trivial⟩ ⟨.slice A8 (0 + k + (fa.length - (k + 1))) c8, fa.take k ++ fa.drop (k + 1), (if_pos (by omega)).symm, fun x hx => (by rcases List.mem_append.1 hx with hx | hx; exact oa x (List.mem_of_mem_take hx); exact oa x (List.mem_of_mem_drop hx)), Holds.re [0, 1, 1, 1, 1, 0] (Holds.drop (Holds.re [6] H rfl)) rfl⟩
      | exact KCut.join () trivial ⟨rfl, rfl, rfl, rfl, trivial⟩ ⟨.slice (some ⟨P1, po1, none⟩) fa.length pc1, fa, (if_neg (by omega)).symm, oa, Holds.re [2, 0, 0] H rfl⟩
      | skip
    clear H hr hx0 hsl hfix
    rintro _ w ⟨fv, fa2, hfa2, ofa2, H⟩
    obtain ⟨_, P1, pc1, rfl⟩ := Holds.own_len (Holds.f5 H)
    rw [← hfa2]
    by_cases hd12 : 12 < d
    · rw [if_pos hd12, if_pos hd12]
      repeat' (first
        | (show VcL _ _ _ _ _ _ _ _; first
      | refine VcL.pures tabOk rfl ?_
      | refine VcL.nil ?_
      | (show VcL _ _ _ _ (⟨_, .load _ _, _, _, _, _⟩ :: _) _ _ _; refine VcL.load1 tabOk rfl rfl rfl rfl rfl (by exact Holds.cell (Holds.f2 H) rfl) ?_))
        | (show Vc _ _ _ _ _ _; first
      | refine Vc.seq ?_
      | refine Vc.region ?_
      | refine Vc.ret ?_
      | (refine Vc.cond rfl (fun h => ?_) (fun h => ?_) <;> first | (exfalso; simp only [decide_eq_true_eq, decide_eq_false_iff_not, Bool.not_eq_true', Bool.not_eq_false'] at h; omega) | (with_reducible have hp := of_decide_eq_true h)))
        | (show KSeq _ _ _ _ _ _ _; first
      | refine KSeq.normal ?_
      | refine KSeq.ret ?_)
        | (show KEnd _ _ _ _ _ _ _; refine KEnd.fin (Or.inr rfl) ⟨_, ResL.nil, ?_⟩))
      exact ⟨I, Imm.Le.rfl' I, _, _, fa2, fb, rfl, rfl, ofa2, ob, Holds.drop1 (Holds.drop1 H)⟩
    · rw [if_neg hd12, if_neg hd12]
      have htl := takeS_len E fr
      have htk := fun (w : World) (L : List Asn) (H : Holds I w (endA I e E :: L)) => Take_any H hok hdk hcl
      have htr := fun (J : Imm) (hJ : Imm.Le I J) (w : World) (L : List Asn) (H : Holds J w (refA J r E :: L)) => TakeR_any H (hok.mono hJ) hdk hcl
      obtain ⟨T, hT⟩ : ∃ T, takeS E fr = T := ⟨_, rfl⟩
      rw [hT] at htl htk htr ⊢
      have g3 : IntKind.i64.wrap (1 - ((0 : Nat) : Int)) = ((1 - 0 : Nat) : Int) := by rw [wrap_i64 (by omega) (by omega)]; omega
      have g4 : decide (T.2.2 = T.2.2) = true := decide_eq_true rfl
      repeat' (first
        | rw [g3]
        | rw [g4]
        | (refine VcD.load1 tabOk rfl rfl rfl rfl rfl rfl (by intro w_ hw_; exact rdAt0 hw_ rfl) (by exact rfl) ?_)
        | (refine VcD.append (m := fl.length) (ds := fl.flatMap fmC) tabOk rfl rfl rfl rfl rfl (Holds.f6 H) (SlI.src (hsv.mono hJ2) H) (fmC_ones hflo) (by show (_ + _) * 56 ≤ _; omega) rfl rfl rfl (fun v_ w H => ⟨Holds.rdWhole (Holds.f1 H), ?_⟩); obtain ⟨_, A9, c9, rfl⟩ := Holds.own_len H)
        | (show VcL _ _ _ _ _ _ _ _; first
      | refine VcL.pures tabOk rfl ?_
      | refine VcL.nil ?_
      | (show VcL _ _ _ _ (⟨_, .load _ _, _, _, _, _⟩ :: _) _ _ _; refine VcL.load1 tabOk rfl rfl rfl rfl rfl (by exact Holds.cell (Holds.f2 H) rfl) ?_)
      | (show VcL _ _ _ _ (⟨_, .call ⟨.value (.func F_tithingref12_SameFrames), _, _⟩, _, _, _, _⟩ :: _) _ _ _; (refine VcL.callF ok_tithingref12_SameFrames rfl rfl rfl rfl (Rets.mono (SameFrames_any H (hfr.mono hJ2) hfr2 (by omega)) ?_); rintro _ w ⟨rfl, H⟩))
      | (show VcL _ _ _ _ (⟨_, .call ⟨.value (.func F_tithinglaw12_Pair_differ), _, _⟩, _, _, _, _⟩ :: _) _ _ _; (refine VcL.callF ok_tithinglaw12_Pair_differ rfl rfl rfl rfl (Rets.mono (differ_any (a := ⟨e, r, .slice P1 fa2.length pc1, pp, q, s⟩) (b := ⟨e2, r2, .slice P2 fb.length pc2, pp2, q2, s2⟩) (Holds.f2 H)) ?_); rintro _ w H))
      | (refine VcL.guard rfl rfl rfl rfl (fun h => ?_) (fun h => ?_) <;> first | (cases h; done) | skip))
        | (show VcD _ _ _ _ _ _ _ _ _; first
      | refine VcD.pures tabOk rfl ?_
      | refine VcD.done ?_
      | (show VcD _ _ _ _ _ (.pure _ _) _ _ _; first
      | refine VcD.indexArr0 tabOk rfl rfl rfl rfl rfl rfl rfl (by omega) (by omega) ?_
      | refine VcD.indexArr tabOk rfl rfl rfl rfl rfl rfl rfl (by omega) (by omega) ?_)
      | (show VcD _ _ _ _ _ (.take _ _) _ _ _; first
      | refine VcD.load1 tabOk rfl rfl rfl rfl rfl rfl (by intro w_ hw_; first | exact Holds.cell hw_ rfl | exact Holds.cell (Holds.f1 hw_) rfl | exact Holds.cell (Holds.f2 hw_) rfl) (by exact rfl) ?_
      | refine VcD.loadN tabOk rfl rfl rfl rfl rfl rfl rfl (by intro w_ hw_; first | exact (Holds.f1 hw_) | exact (Holds.f2 hw_)) (by exact rfl) ?_)
      | (show VcD _ _ _ _ _ (.only _ _) _ _ _; first
      | (refine VcD.callF (f := F_stream_End_Take) rfl ok_stream_End_Take rfl rfl rfl rfl (Rets.mono (htk _ _ (Holds.f3 H)) ?_); rintro _ w ⟨J, sv, hJ, rfl, hfr, H⟩; obtain ⟨fl, hfl, hsv, hflo⟩ := hfr.out; obtain ⟨SA, sc, rfl, hsc⟩ := hsv.form; have hfll : fl.length = T.2.1.length := (by rw [← hfl, List.length_map]); refine ⟨(by trivial), ?_⟩)
      | (refine VcD.callF (f := F_tithingref12_End_Take) rfl ok_tithingref12_End_Take rfl rfl rfl rfl (Rets.mono (htr _ hJ _ _ (Holds.refUp hJ (Holds.f4 H))) ?_); rintro _ w ⟨J2, sv2, hJ2, rfl, hfr2, H⟩; refine ⟨(by trivial), ?_⟩)
      | (refine VcD.eff rfl rfl rfl rfl (OpE.store tabOk (by exact (Holds.f1 H)) rfl rfl rfl (by exact rfl) (by exact rfl) (by exact rfl) (by exact rfl)) ?_; rintro _ w ⟨_, H⟩; refine ⟨(by trivial), ?_⟩)))
        | (show Vc _ _ _ _ _ _; first
      | refine Vc.seq ?_
      | refine Vc.region ?_
      | refine Vc.skip ?_
      | (refine Vc.drawn (id := 8) (.pure 0 (.pure 1 (.pure 2 (.pure 3 (.pure 4 (.take 5 (.take 6 (.only 7 (.pure 8 (.pure 9 (.pure 10 (.pure 11 (.pure 12 .done))))))))))))) (.till (fun w => Holds I w _) 7 (.one (fun _ => True))) mixed (by kernel_rfl) (by first | exact (Holds.drew H _) | trivial) ?_; have H := H.drew (w.drawn + 1))
      | (refine Vc.drawn (id := 9) (.pure 0 (.pure 1 (.pure 2 (.pure 3 (.pure 4 (.take 5 (.take 6 (.only 7 (.pure 8 (.pure 9 (.pure 10 (.pure 11 (.pure 12 .done))))))))))))) (.till (fun w => Holds J w _) 7 (.one (fun _ => True))) mixed (by kernel_rfl) (by first | exact (Holds.drew H _) | trivial) ?_; have H := H.drew (w.drawn + 1))
      | (refine Vc.drawn (id := 11) (.pure 0 (.pure 1 (.pure 2 (.pure 3 (.pure 4 (.pure 5 (.pure 6 (.pure 7 (.pure 10 (.pure 12 (.pure 13 (.pure 8 (.take 9 (.only 11 (.pure 14 (.only 15 .done)))))))))))))))) (.till (fun w => Rd w p 0 (pc0 ⟨e, r, .slice P1 fa2.length pc1, pp, q, s⟩ ⟨e2, r2, .slice P2 fb.length pc2, pp2, q2, s2⟩)) 15 (.one (fun _ => True))) mixed (by kernel_rfl) (by exact Holds.rdWhole (Holds.drew H _)) ?_; have H := H.drew (w.drawn + 1))
      | (refine Vc.cond rfl (fun h => ?_) (fun h => ?_) <;> first | (exfalso; simp only [decide_eq_true_eq, decide_eq_false_iff_not, Bool.not_eq_true', Bool.not_eq_false'] at h; omega) | (with_reducible have hp := of_decide_eq_false h)))
        | (show KSeq _ _ _ _ _ _ _; refine KSeq.normal ?_)
        | (show KEnd _ _ _ _ _ _ _; refine KEnd.fin (Or.inl rfl) ⟨_, ResL.nil, ?_⟩))
      have H := Holds.drop (Holds.re [4] (Holds.drop (Holds.re [4] H rfl)) rfl)
      have H := Holds.re [1, 0, 1, 1, 0] (Holds.endUp hJ2 (Holds.re [3] H rfl)) rfl
      refine ⟨J2, hJ.trans hJ2, .slice P1 fa2.length pc1, .slice A9 (fb.length + fl.length) c9, fa2, fb ++ fl, rfl, by rw [List.map_append, hfl], fun x hx => (ofa2 x hx).mono (hJ.trans hJ2), fun x hx => (by rcases List.mem_append.1 hx with hx | hx; exact (ob x hx).mono (hJ.trans hJ2); exact (hflo x hx).mono hJ2), ?_⟩
      rw [List.length_append, List.flatMap_append]
      exact H
  | 1, _ =>
    have H : Holds I w (blk p 47 (pc0 ⟨e2, r2, .slice P2 fb.length pc2, pp2, q2, s2⟩ ⟨e, r, .slice (some ⟨P1, po1, none⟩) fa.length pc1, pp, q, s⟩) :: endA I e E :: refA I r E :: own (.slice (some ⟨P1, po1, none⟩) fa.length pc1) 24 5 fa.length (fa.flatMap fmC) :: own (.slice P2 fb.length pc2) 24 5 fb.length (fb.flatMap fmC) :: L) := H
    obtain ⟨P1', po1', h4, hr⟩ := SlR.at (SlR.mem (e := 24) H (by repeat (first | exact .head _ | apply List.Mem.tail))) hne
    injection h4 with h4
    injection h4 with h5 h6 _
    subst h5; subst h6
    have hx0 := hr.elem fmC_len hgx
    have hx0 : RdW I _ P1 (po1 + k * 5) [.int .i64 fr.kind, .int .i64 fr.id, .int .i64 fr.seq, .int .i64 fr.n, .slice D fr.data.length dc] := hx0
    have hsl := SlR.mem (e := 24) H (v := .slice (some ⟨P1, po1, none⟩) fa.length pc1) (by repeat (first | exact .head _ | apply List.Mem.tail))
    have hfix : ∀ (v : Value) (w : World) (Q : List Asn), Holds I w (own v 24 5 (0 + k + (fa.length - (k + 1))) ([] ++ (fa.take k).flatMap fmC ++ (fa.drop (k + 1)).flatMap fmC) :: Q) → Holds I w (own v 24 5 (fa.take k ++ fa.drop (k + 1)).length ((fa.take k ++ fa.drop (k + 1)).flatMap fmC) :: Q) := fun v w Q H => by
      rw [List.length_append, List.length_take, List.length_drop, List.flatMap_append, Nat.min_eq_left (by omega)]
      rw [Nat.zero_add, List.nil_append] at H
      exact H
    have g2 : IntKind.i64.wrap ((k : Int) + 1) = ((k + 1 : Nat) : Int) := by rw [wrap_i64 (by omega) (by omega)]; omega
    refine ok_tithinglaw12_Pair_flies.rets rfl ?_
    repeat' (first
      | rw [g1]
      | rw [g2]
      | (refine VcL.remS rfl rfl (by omega) rfl rfl rfl ?_)
      | (show Vc _ _ (.seq (.seq (.region 5 _ _) _) _) _ _ _; refine Vc.cut [(0, ptr p), (1, .int .i64 ((1 : Nat) : Int)), (5, ptr mb), (8, ptr b)] (fun _ : Unit => []) (fun _ w => ∃ fv, ∃ fa2 : List Fm, fa2.map (·.fr) = (if d ≠ 11 ∧ d ≠ 12 then (fa.take k ++ fa.drop (k + 1)).map (·.fr) else fa.map (·.fr)) ∧ (∀ x ∈ fa2, FmOk I x) ∧ Holds I w (blk p 47 (pc0 ⟨e2, r2, .slice P2 fb.length pc2, pp2, q2, s2⟩ ⟨e, r, fv, pp, q, s⟩) :: blk b 24 [.int .i64 fr.kind, .int .i64 fr.id, .int .i64 fr.seq, .int .i64 fr.n, .slice D fr.data.length dc] :: blk mb 35 [.int .i64 d, .int .i64 n, .bool ab, .slice v kk c] :: endA I e E :: refA I r E :: own fv 24 5 fa2.length (fa2.flatMap fmC) :: own (.slice P2 fb.length pc2) 24 5 fb.length (fb.flatMap fmC) :: L)) ?_ ?_)
      | (show VcL _ _ _ _ (⟨_, .box 35 _, _, _, _, _⟩ :: _) _ _ _; refine VcL.box H rfl rfl rfl rfl rfl (fun mb w H => ?_))
      | (refine VcD.append (m := k) (ds := (fa.take k).flatMap fmC) tabOk rfl rfl rfl rfl rfl (own0 (sz := 5) H) (SlR.src (v := .slice (some ⟨P1, po1, none⟩) k pc1) (by rw [← flat_takeF fmC_len]; exact SlR.take hsl (by omega)) (Holds.drop (Holds.drop (Holds.drop H)))) (fmC_ones fun x hx => oa x (List.mem_of_mem_take hx)) (by show (0 + k) * 56 ≤ _; omega) rfl rfl rfl (fun v_ w H => ⟨Holds.drop H, ?_⟩); obtain ⟨_, A7, c7, rfl⟩ := Holds.own_len H)
      | (refine VcD.append (m := fa.length - (k + 1)) (ds := (fa.drop (k + 1)).flatMap fmC) tabOk rfl rfl rfl rfl rfl H (SlR.src (v := .slice (some ⟨P1, p_, none⟩) (fa.length - (k + 1)) (pc1 - (k + 1))) (by rw [← flat_dropF fmC_len]; exact SlR.drop hsl (by omega) (by exact hp_)) (Holds.drop (Holds.drop (Holds.drop H)))) (fmC_ones fun x hx => oa x (List.mem_of_mem_drop hx)) (by show (0 + k + _) * 56 ≤ _; omega) rfl rfl rfl (fun v_ w H => ⟨Holds.drop H, ?_⟩); obtain ⟨_, A8, c8, rfl⟩ := Holds.own_len H; have H := hfix _ _ _ H)
      | (show VcL _ _ _ _ _ _ _ _; first
      | refine VcL.pures tabOk rfl ?_
      | refine VcL.nil ?_
      | (show VcL _ _ _ _ (⟨_, .load _ _, _, _, _, _⟩ :: _) _ _ _; first
      | refine VcL.load1 tabOk rfl rfl rfl rfl rfl (by first | exact Holds.cell H rfl | exact Holds.cell (Holds.f1 H) rfl | exact RdW.get0 (by assumption) rfl (Holds.drop H)) ?_
      | refine VcL.loadR tabOk rfl rfl rfl rfl rfl rfl (by exact RdW.rd (by assumption) (Holds.drop H)) rfl ?_)
      | (show VcL _ _ _ _ (⟨_, .indexAddr _ _ _, _, _, _, _⟩ :: _) _ _ _; first
      | refine VcL.indexAddr tabOk rfl rfl rfl rfl rfl rfl (by omega) (by omega) ?_
      | refine VcL.indexArr tabOk rfl rfl rfl rfl rfl rfl (by omega) (by omega) ?_)
      | refine VcL.alloc tabOk H rfl rfl rfl rfl (fun b w H => ?_)
      | (show VcL _ _ _ _ (⟨_, .store _ _ _, _, _, _, _⟩ :: _) _ _ _; refine VcL.store tabOk rfl (by exact H) rfl rfl (by exact rfl) (by exact rfl) (by exact rfl) (by exact rfl) (fun w H => ?_))
      | (refine VcL.guard rfl rfl rfl rfl (fun h => ?_) (fun h => ?_) <;> first | (with_reducible have hp := ndec_t h) | (with_reducible have hp := ndec_f h)))
      | (show VcD _ _ _ _ _ _ _ _ _; first
      | refine VcD.pures tabOk rfl ?_
      | refine VcD.done ?_
      | (show VcD _ _ _ _ _ (.pure _ _) _ _ _; first
      | refine VcD.indexArr tabOk rfl rfl rfl rfl rfl rfl rfl (by omega) (by omega) ?_
      | refine VcD.sliceTo tabOk rfl rfl rfl rfl rfl rfl rfl (by omega) ?_
      | refine VcD.sliceFrom tabOk rfl rfl rfl rfl rfl rfl rfl (by omega) (by omega) (fun p_ hp_ => ?_))
      | (show VcD _ _ _ _ _ (.take _ _) _ _ _; refine VcD.load1 tabOk rfl rfl rfl rfl rfl rfl (by intro w_ hw_; exact Holds.cell (Holds.f2 hw_) rfl) (by exact rfl) ?_)
      | (show VcD _ _ _ _ _ (.only _ _) _ _ _; first
      | (refine VcD.eff rfl rfl rfl rfl (OpE.buildSliceP tabOk H rfl rfl rfl rfl) ?_; rintro _ w ⟨b_, rfl, H⟩; refine ⟨(by exact Holds.drop H), ?_⟩)
      | (refine VcD.eff rfl rfl rfl rfl (OpE.store tabOk (by exact (Holds.f3 H)) rfl rfl rfl (by exact rfl) (by exact rfl) (by exact rfl) (by exact rfl)) ?_; rintro _ w ⟨_, H⟩; refine ⟨(by trivial), ?_⟩)))
      | (show Vc _ _ _ _ _ _; first
      | refine Vc.seq ?_
      | refine Vc.region ?_
      | refine Vc.condF rfl ?_
      | refine Vc.skip ?_
      | (refine Vc.drawn (id := 6) (.pure 0 (.pure 1 (.pure 3 (.pure 4 (.pure 5 (.pure 6 (.pure 9 (.pure 12 (.pure 13 (.pure 14 (.pure 15 (.pure 18 (.pure 19 (.pure 22 (.pure 23 (.pure 7 (.take 8 (.pure 10 (.pure 16 (.take 17 (.pure 20 (.only 2 (.only 11 (.only 21 (.pure 24 (.only 25 .done)))))))))))))))))))))))))) (.till (fun w => Holds I w _) 25 (.one (fun _ => True))) mixed (by kernel_rfl) (by exact (Holds.drew H _)) ?_; have H := H.drew (w.drawn + 1))
      | (refine Vc.cond rfl (fun h => ?_) (fun h => ?_) <;> first | (exfalso; simp only [decide_eq_true_eq, decide_eq_false_iff_not, Bool.not_eq_true', Bool.not_eq_false'] at h; omega) | (with_reducible have hp := of_decide_eq_false h) | (with_reducible have hp := ndec_t h) | (with_reducible have hp := ndec_f h)))
      | (show KSeq _ _ _ _ _ _ _; refine KSeq.normal ?_))
    all_goals first
      | exact KCut.join () trivial ⟨rfl, rfl, rfl, rfl, trivial⟩ ⟨.slice A8 (0 + k + (fa.length - (k + 1))) c8, fa.take k ++ fa.drop (k + 1), (if_pos (by omega)).symm, fun x hx => (by rcases List.mem_append.1 hx with hx | hx; exact oa x (List.mem_of_mem_take hx); exact oa x (List.mem_of_mem_drop hx)), Holds.re [0, 1, 1, 1, 1, 0] (Holds.drop (Holds.re [6] H rfl)) rfl⟩
      | exact KCut.join () trivial ⟨rfl, rfl, rfl, rfl, trivial⟩ ⟨.slice (some ⟨P1, po1, none⟩) fa.length pc1, fa, (if_neg (by omega)).symm, oa, Holds.re [2, 0, 0] H rfl⟩
      | skip
    clear H hr hx0 hsl hfix
    rintro _ w ⟨fv, fa2, hfa2, ofa2, H⟩
    obtain ⟨_, P1, pc1, rfl⟩ := Holds.own_len (Holds.f5 H)
    rw [← hfa2]
    by_cases hd12 : 12 < d
    · rw [if_pos hd12, if_pos hd12]
      repeat' (first
        | (show VcL _ _ _ _ _ _ _ _; first
      | refine VcL.pures tabOk rfl ?_
      | refine VcL.nil ?_
      | (show VcL _ _ _ _ (⟨_, .load _ _, _, _, _, _⟩ :: _) _ _ _; refine VcL.load1 tabOk rfl rfl rfl rfl rfl (by exact Holds.cell (Holds.f2 H) rfl) ?_))
        | (show Vc _ _ _ _ _ _; first
      | refine Vc.seq ?_
      | refine Vc.region ?_
      | refine Vc.ret ?_
      | (refine Vc.cond rfl (fun h => ?_) (fun h => ?_) <;> first | (exfalso; simp only [decide_eq_true_eq, decide_eq_false_iff_not, Bool.not_eq_true', Bool.not_eq_false'] at h; omega) | (with_reducible have hp := of_decide_eq_true h)))
        | (show KSeq _ _ _ _ _ _ _; first
      | refine KSeq.normal ?_
      | refine KSeq.ret ?_)
        | (show KEnd _ _ _ _ _ _ _; refine KEnd.fin (Or.inr rfl) ⟨_, ResL.nil, ?_⟩))
      exact ⟨I, Imm.Le.rfl' I, _, _, fa2, fb, rfl, rfl, ofa2, ob, Holds.drop1 (Holds.drop1 H)⟩
    · rw [if_neg hd12, if_neg hd12]
      have htl := takeS_len E fr
      have htk := fun (w : World) (L : List Asn) (H : Holds I w (endA I e E :: L)) => Take_any H hok hdk hcl
      have htr := fun (J : Imm) (hJ : Imm.Le I J) (w : World) (L : List Asn) (H : Holds J w (refA J r E :: L)) => TakeR_any H (hok.mono hJ) hdk hcl
      obtain ⟨T, hT⟩ : ∃ T, takeS E fr = T := ⟨_, rfl⟩
      rw [hT] at htl htk htr ⊢
      have g3 : IntKind.i64.wrap (1 - ((1 : Nat) : Int)) = ((1 - 1 : Nat) : Int) := by rw [wrap_i64 (by omega) (by omega)]; omega
      have g4 : decide (T.2.2 = T.2.2) = true := decide_eq_true rfl
      repeat' (first
        | rw [g3]
        | rw [g4]
        | (refine VcD.load1 tabOk rfl rfl rfl rfl rfl rfl (by intro w_ hw_; exact rdAt0 hw_ rfl) (by exact rfl) ?_)
        | (refine VcD.append (m := fl.length) (ds := fl.flatMap fmC) tabOk rfl rfl rfl rfl rfl (Holds.f6 H) (SlI.src (hsv.mono hJ2) H) (fmC_ones hflo) (by show (_ + _) * 56 ≤ _; omega) rfl rfl rfl (fun v_ w H => ⟨Holds.rdWhole (Holds.f1 H), ?_⟩); obtain ⟨_, A9, c9, rfl⟩ := Holds.own_len H)
        | (show VcL _ _ _ _ _ _ _ _; first
      | refine VcL.pures tabOk rfl ?_
      | refine VcL.nil ?_
      | (show VcL _ _ _ _ (⟨_, .load _ _, _, _, _, _⟩ :: _) _ _ _; refine VcL.load1 tabOk rfl rfl rfl rfl rfl (by exact Holds.cell (Holds.f2 H) rfl) ?_)
      | (show VcL _ _ _ _ (⟨_, .call ⟨.value (.func F_tithingref12_SameFrames), _, _⟩, _, _, _, _⟩ :: _) _ _ _; (refine VcL.callF ok_tithingref12_SameFrames rfl rfl rfl rfl (Rets.mono (SameFrames_any H (hfr.mono hJ2) hfr2 (by omega)) ?_); rintro _ w ⟨rfl, H⟩))
      | (show VcL _ _ _ _ (⟨_, .call ⟨.value (.func F_tithinglaw12_Pair_differ), _, _⟩, _, _, _, _⟩ :: _) _ _ _; (refine VcL.callF ok_tithinglaw12_Pair_differ rfl rfl rfl rfl (Rets.mono (differ_any (a := ⟨e2, r2, .slice P2 fb.length pc2, pp2, q2, s2⟩) (b := ⟨e, r, .slice P1 fa2.length pc1, pp, q, s⟩) (Holds.f2 H)) ?_); rintro _ w H))
      | (refine VcL.guard rfl rfl rfl rfl (fun h => ?_) (fun h => ?_) <;> first | (cases h; done) | skip))
        | (show VcD _ _ _ _ _ _ _ _ _; first
      | refine VcD.pures tabOk rfl ?_
      | refine VcD.done ?_
      | (show VcD _ _ _ _ _ (.pure _ _) _ _ _; first
      | refine VcD.indexArr0 tabOk rfl rfl rfl rfl rfl rfl rfl (by omega) (by omega) ?_
      | refine VcD.indexArr tabOk rfl rfl rfl rfl rfl rfl rfl (by omega) (by omega) ?_)
      | (show VcD _ _ _ _ _ (.take _ _) _ _ _; first
      | refine VcD.load1 tabOk rfl rfl rfl rfl rfl rfl (by intro w_ hw_; first | exact Holds.cell hw_ rfl | exact Holds.cell (Holds.f1 hw_) rfl | exact Holds.cell (Holds.f2 hw_) rfl) (by exact rfl) ?_
      | refine VcD.loadN tabOk rfl rfl rfl rfl rfl rfl rfl (by intro w_ hw_; first | exact (Holds.f1 hw_) | exact (Holds.f2 hw_)) (by exact rfl) ?_)
      | (show VcD _ _ _ _ _ (.only _ _) _ _ _; first
      | (refine VcD.callF (f := F_stream_End_Take) rfl ok_stream_End_Take rfl rfl rfl rfl (Rets.mono (htk _ _ (Holds.f3 H)) ?_); rintro _ w ⟨J, sv, hJ, rfl, hfr, H⟩; obtain ⟨fl, hfl, hsv, hflo⟩ := hfr.out; obtain ⟨SA, sc, rfl, hsc⟩ := hsv.form; have hfll : fl.length = T.2.1.length := (by rw [← hfl, List.length_map]); refine ⟨(by trivial), ?_⟩)
      | (refine VcD.callF (f := F_tithingref12_End_Take) rfl ok_tithingref12_End_Take rfl rfl rfl rfl (Rets.mono (htr _ hJ _ _ (Holds.refUp hJ (Holds.f4 H))) ?_); rintro _ w ⟨J2, sv2, hJ2, rfl, hfr2, H⟩; refine ⟨(by trivial), ?_⟩)
      | (refine VcD.eff rfl rfl rfl rfl (OpE.store tabOk (by exact (Holds.f1 H)) rfl rfl rfl (by exact rfl) (by exact rfl) (by exact rfl) (by exact rfl)) ?_; rintro _ w ⟨_, H⟩; refine ⟨(by trivial), ?_⟩)))
        | (show Vc _ _ _ _ _ _; first
      | refine Vc.seq ?_
      | refine Vc.region ?_
      | refine Vc.skip ?_
      | (refine Vc.drawn (id := 8) (.pure 0 (.pure 1 (.pure 2 (.pure 3 (.pure 4 (.take 5 (.take 6 (.only 7 (.pure 8 (.pure 9 (.pure 10 (.pure 11 (.pure 12 .done))))))))))))) (.till (fun w => Holds I w _) 7 (.one (fun _ => True))) mixed (by kernel_rfl) (by first | exact (Holds.drew H _) | trivial) ?_; have H := H.drew (w.drawn + 1))
      | (refine Vc.drawn (id := 9) (.pure 0 (.pure 1 (.pure 2 (.pure 3 (.pure 4 (.take 5 (.take 6 (.only 7 (.pure 8 (.pure 9 (.pure 10 (.pure 11 (.pure 12 .done))))))))))))) (.till (fun w => Holds J w _) 7 (.one (fun _ => True))) mixed (by kernel_rfl) (by first | exact (Holds.drew H _) | trivial) ?_; have H := H.drew (w.drawn + 1))
      | (refine Vc.drawn (id := 11) (.pure 0 (.pure 1 (.pure 2 (.pure 3 (.pure 4 (.pure 5 (.pure 6 (.pure 7 (.pure 10 (.pure 12 (.pure 13 (.pure 8 (.take 9 (.only 11 (.pure 14 (.only 15 .done)))))))))))))))) (.till (fun w => Rd w p 0 (pc0 ⟨e2, r2, .slice P2 fb.length pc2, pp2, q2, s2⟩ ⟨e, r, .slice P1 fa2.length pc1, pp, q, s⟩)) 15 (.one (fun _ => True))) mixed (by kernel_rfl) (by exact Holds.rdWhole (Holds.drew H _)) ?_; have H := H.drew (w.drawn + 1))
      | (refine Vc.cond rfl (fun h => ?_) (fun h => ?_) <;> first | (exfalso; simp only [decide_eq_true_eq, decide_eq_false_iff_not, Bool.not_eq_true', Bool.not_eq_false'] at h; omega) | (with_reducible have hp := of_decide_eq_false h)))
        | (show KSeq _ _ _ _ _ _ _; refine KSeq.normal ?_)
        | (show KEnd _ _ _ _ _ _ _; refine KEnd.fin (Or.inl rfl) ⟨_, ResL.nil, ?_⟩))
      have H := Holds.drop (Holds.re [4] (Holds.drop (Holds.re [4] H rfl)) rfl)
      have H := Holds.re [1, 0, 1, 1, 0] (Holds.endUp hJ2 (Holds.re [3] H rfl)) rfl
      refine ⟨J2, hJ.trans hJ2, .slice P1 fa2.length pc1, .slice A9 (fb.length + fl.length) c9, fa2, fb ++ fl, rfl, by rw [List.map_append, hfl], fun x hx => (ofa2 x hx).mono (hJ.trans hJ2), fun x hx => (by rcases List.mem_append.1 hx with hx | hx; exact (ob x hx).mono (hJ.trans hJ2); exact (hflo x hx).mono hJ2), ?_⟩
      rw [List.length_append, List.flatMap_append]
      exact H
end Go.Proofs.Ytpfgcchammlpgaa.V
