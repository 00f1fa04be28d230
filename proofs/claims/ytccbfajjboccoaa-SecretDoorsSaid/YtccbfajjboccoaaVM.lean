/- Doors that are the same answer the same. -/
import Derived.Test.YtccbfajjboccoaaVK
namespace Go.Proofs.Ytccbfajjboccoaa.V
open Go Go.Proofs.YtccbfajjboccoaaV
set_option linter.unusedVariables false
set_option linter.unusedSimpArgs false
set_option maxHeartbeats 1000000
attribute [local irreducible] IntKind.wrap
variable {I : Imm} {w : World} {L : List Asn}
theorem DrOk.mono {I J : Imm} {D : Dr} (h : DrOk I D) (hl : Imm.Le I J) : DrOk J D := ⟨h.seed, h.len, fun v hv => ⟨(h.vis v hv).user.mono hl, (h.vis v hv).sec, (h.vis v hv).num, (h.vis v hv).tries, (h.vis v hv).few⟩⟩
theorem SameD.rfl' (D : Dr) : SameD D D := ⟨rfl, rfl, rfl⟩
theorem SameD.symm {D E : Dr} (h : SameD D E) : SameD E D := ⟨h.seed.symm, h.asked.symm, h.vis.symm⟩
theorem SameD.trans {D E F : Dr} (h : SameD D E) (k : SameD E F) : SameD D F := ⟨h.seed.trans k.seed, h.asked.trans k.asked, h.vis.trans k.vis⟩
theorem SameD.len {D E : Dr} (h : SameD D E) : D.vis.length = E.vis.length := by simpa using congrArg List.length h.vis
theorem SameD.at {D E : Dr} (h : SameD D E) {k : Nat} (hk : k < D.vis.length) : vsK (atD D.vis k) = vsK (atD E.vis k) := by
  have h1 : (D.vis.map vsK)[k]? = (E.vis.map vsK)[k]? := by rw [h.vis]
  rw [List.getElem?_map, List.getElem?_map, atD_get hk, atD_get (h.len ▸ hk)] at h1
  simpa using h1
theorem place_key (D : Dr) (name : ByteArray) : placeD D name = idxF (fun q : (Int × ByteArray × Int × List Int) × Bool × Nat × Nat => eqT q.1.2.1 name) (D.vis.map vsK) := by
  unfold placeD idxF
  rw [List.findIdx?_map]
  rfl
theorem SameD.place {D E : Dr} (h : SameD D E) (name : ByteArray) : placeD D name = placeD E name := by rw [place_key, place_key, h.vis]
theorem vsK_eq {v u : Vs} (h : vsK v = vsK u) : usK v.user = usK u.user ∧ v.given = u.given ∧ (v.given = true → v.num = u.num) ∧ v.tries = u.tries := by
  unfold vsK at h
  injection h with h1 h
  injection h with h2 h
  injection h with h3 h4
  refine ⟨h1, h2, fun h5 => ?_, h4⟩
  rw [← h2, if_pos h5, if_pos h5] at h3
  exact h3
theorem usK_eq {v u : Us} (h : usK v = usK u) : v.id = u.id ∧ v.name = u.name ∧ v.sec = u.sec ∧ v.grp.2.2 = u.grp.2.2 := by
  unfold usK at h
  injection h with h1 h
  injection h with h2 h
  injection h with h3 h4
  exact ⟨h1, h2, h3, h4⟩
theorem SameD.set {D E : Dr} (h : SameD D E) {v u : Vs} (k : Nat) (hv : vsK v = vsK u) (s a : Nat) : SameD ⟨s, a, D.vis.set k v⟩ ⟨s, a, E.vis.set k u⟩ :=
  ⟨rfl, rfl, by show (D.vis.set k v).map vsK = (E.vis.set k u).map vsK; rw [List.map_set, List.map_set, h.vis, hv]⟩
theorem SameD.ask {D E : Dr} (h : SameD D E) (name : ByteArray) : SameD (askS D name).1 (askS E name).1 ∧ (askS D name).2 = (askS E name).2 := by
  unfold askS
  rw [← h.place name]
  rcases place_cases D name with hp | ⟨k, hk, hp⟩
  · rw [hp]
    dsimp only
    rw [if_pos (Or.inl (by decide)), if_pos (Or.inl (by decide))]
    exact ⟨h, rfl⟩
  · rw [hp]
    simp only [Int.toNat_natCast]
    obtain ⟨h1, h2, h3, h4⟩ := vsK_eq (h.at hk)
    rw [h4, h.seed, h.asked]
    split
    · exact ⟨h, rfl⟩
    · refine ⟨h.set k ?_ _ _, rfl⟩
      unfold vsK
      dsimp only
      rw [h1, h4]
theorem SameD.enter {D E : Dr} (h : SameD D E) (name : ByteArray) (answer : Int) : SameD (enterS D name answer).1 (enterS E name answer).1 ∧ (enterS D name answer).2 = (enterS E name answer).2 := by
  unfold enterS
  rw [← h.place name]
  rcases place_cases D name with hp | ⟨k, hk, hp⟩
  · rw [hp]
    dsimp only
    rw [if_pos (Or.inl (by decide)), if_pos (Or.inl (by decide))]
    exact ⟨h, rfl⟩
  · rw [hp]
    simp only [Int.toNat_natCast]
    obtain ⟨h1, h2, h3, h4⟩ := vsK_eq (h.at hk)
    obtain ⟨_, _, h5, _⟩ := usK_eq h1
    rw [h4, h2, h5, h.seed, h.asked]
    split
    · exact ⟨h, rfl⟩
    · rename_i hn
      have hg : (atD E.vis k).given = true := by
        cases hg : (atD E.vis k).given with
        | true => rfl
        | false => exact absurd (Or.inr (Or.inr hg)) hn
      rw [h3 (h2.trans hg)]
      split
      · refine ⟨h.set k ?_ _ _, rfl⟩
        unfold vsK
        dsimp only
        rw [h1, h4]
        rfl
      · refine ⟨h.set k ?_ _ _, rfl⟩
        unfold vsK
        dsimp only
        rw [h1]
        rfl
theorem SameD.idAt {D E : Dr} (h : SameD D E) (name : ByteArray) (answer : Int) : idAt (enterS D name answer) = idAt (enterS E name answer) ∧ errAt (enterS D name answer) = errAt (enterS E name answer) := by
  obtain ⟨h1, h2⟩ := h.enter name answer
  refine ⟨?_, by unfold errAt; rw [h2]⟩
  unfold V.idAt
  rw [← h2]
  cases hk : (enterS D name answer).2 with
  | none => rfl
  | some k => exact (usK_eq (vsK_eq (h1.at (enterS_some hk))).1).1
theorem SameD.both {D E : Dr} (h : SameD D E) (name : ByteArray) (answer other : Int) : bothV D name answer other = bothV E name answer other ∧ SameD (bothS D name answer other) (bothS E name answer other) := by
  obtain ⟨h1, h2⟩ := h.enter name answer
  refine ⟨?_, ?_⟩
  · unfold bothV
    rw [← h2]
    split
    · cases hk : (enterS D name answer).2 with
      | none => rfl
      | some k =>
        obtain ⟨h3, _, h4, _⟩ := usK_eq (vsK_eq (h1.at (enterS_some hk))).1
        dsimp only
        rw [h3, h4]
    · rfl
  · unfold bothS
    split
    · exact h1
    · exact h
theorem SameD.change {D E : Dr} (h : SameD D E) (name : ByteArray) (answer sec : Int) : SameD (changeS D name answer sec).1 (changeS E name answer sec).1 ∧ (changeS D name answer sec).2 = (changeS E name answer sec).2 := by
  obtain ⟨h1, h2⟩ := h.enter name answer
  unfold changeS
  rw [← h2]
  split
  · cases hk : (enterS D name answer).2 with
    | none => exact ⟨h1, rfl⟩
    | some k =>
      obtain ⟨h3, h4, h5, h6⟩ := vsK_eq (h1.at (enterS_some hk))
      have h9 := (h1.at (enterS_some hk))
      obtain ⟨h7, h8, _, h10⟩ := usK_eq h3
      refine ⟨?_, rfl⟩
      refine ⟨h1.seed, h1.asked, ?_⟩
      show ((enterS D name answer).1.vis.set k _).map vsK = ((enterS E name answer).1.vis.set k _).map vsK
      rw [List.map_set, List.map_set, h1.vis]
      congr 1
      unfold vsK at h9 ⊢
      injection h9 with _ h9
      show (usK _, _) = (usK _, _)
      unfold usK
      dsimp only
      rw [h7, h8, h10, h9]
  · exact ⟨h, rfl⟩
theorem SameD.tries {D E : Dr} (h : SameD D E) (name : ByteArray) : triesS D name = triesS E name := by
  unfold triesS
  rw [← h.place name]
  rcases place_cases D name with hp | ⟨k, hk, hp⟩
  · rw [hp]
    rfl
  · rw [hp]
    simp only [Int.toNat_natCast]
    rw [(vsK_eq (h.at hk)).2.2.2]
theorem SameD.users {D E : Dr} (h : SameD D E) : D.vis.map (fun v => usK v.user) = E.vis.map (fun v => usK v.user) := by
  have := congrArg (List.map fun q : (Int × ByteArray × Int × List Int) × Bool × Nat × Nat => q.1) h.vis
  rw [List.map_map, List.map_map] at this
  exact this
theorem NewVis.same2 {I J : Imm} {l : List Us} {a b : List Vs} (h : NewVis I l a) (k : NewVis J l b) (s : Nat) : SameD ⟨s, 0, a⟩ ⟨s, 0, b⟩ := by
  refine ⟨rfl, rfl, ?_⟩
  show a.map vsK = b.map vsK
  have h1 := h.same.trans k.same.symm
  have h2 := congrArg (List.map fun q : (Int × ByteArray × Int × List Int) × Bool × Nat × Nat => (q.1, q.2.1, (if q.2.1 then q.2.2.1 else 0), q.2.2.2)) h1
  rw [List.map_map, List.map_map] at h2
  exact h2
/-- What a map of numbers holds. -/
def ints (ml : List (ByteArray × Value)) : Prop := ∀ p ∈ ml, ∃ x : Int, p.2 = .int .i64 x
theorem ints_get {ml : List (ByteArray × Value)} (h : ints ml) (name : ByteArray) : ∃ x : Int, foundV false (.int .i64 0) (mget ml name) = .int .i64 x := by
  unfold mget
  cases hf : ml.find? (fun p => decide (p.1 = name)) with
  | none => exact ⟨0, rfl⟩
  | some p =>
    obtain ⟨x, hx⟩ := h p (List.mem_of_find?_eq_some hf)
    exact ⟨x, hx⟩
theorem ints_set {ml : List (ByteArray × Value)} (h : ints ml) (name : ByteArray) (x : Int) : ints (mset ml name (.int .i64 x)) := by
  intro p hp
  unfold mset at hp
  split at hp
  · rcases set_mem hp with hp | rfl
    · exact h p hp
    · exact ⟨x, rfl⟩
  · rcases List.mem_append.1 hp with hp | hp
    · exact h p hp
    · obtain rfl : p = (name, .int .i64 x) := by simpa using hp
      exact ⟨x, rfl⟩
end Go.Proofs.Ytccbfajjboccoaa.V
