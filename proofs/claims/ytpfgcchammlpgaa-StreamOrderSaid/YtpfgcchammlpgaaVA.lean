/- Ends of streams: what they are, what is done with them. -/
import Derived.Test.YtpfgcchammlpgaaVcHead
namespace Go.Proofs.Ytpfgcchammlpgaa.V
open Go Go.Proofs.YtpfgcchammlpgaaV
set_option linter.unusedVariables false
set_option linter.unusedSimpArgs false
set_option maxHeartbeats 1000000
set_option maxRecDepth 4000
attribute [local irreducible] IntKind.wrap
variable {I : Imm} {w : World} {L : List Asn}
abbrev By := List UInt8
abbrev byL (l : By) : List Value := l.map byteV
instance : Inhabited Value := ⟨.bool false⟩
theorem byL_flat (l : By) : l.flatMap byC = byL l := by_flat l
theorem byL_len (l : By) : (byL l).length = l.length := List.length_map ..
theorem byL_one (l : By) : ∀ u ∈ byL l, oneC u = true := fun u hu => by
  obtain ⟨x, _, rfl⟩ := List.mem_map.1 hu
  rfl
theorem flat_snoc {α : Type} {enc : α → List Value} (l : List α) (x : α) : (l ++ [x]).flatMap enc = l.flatMap enc ++ enc x := by rw [List.flatMap_append]; simp
theorem Holds.own_some {v : Value} {e sz m : Nat} {cs : List Value} (hn : 0 < m) (H : Holds I w (own v e sz m cs :: L)) : ∃ b o cap, v = .slice (some ⟨b, o, none⟩) m cap ∧ m ≤ cap := by
  rcases H.own_cases with ⟨_, h, _⟩ | ⟨b, o, cap, pre, rest, h1, h2, _⟩
  · omega
  · exact ⟨b, o, cap, h1, h2⟩
abbrev ptr (d : Nat) : Value := .pointer (some ⟨d, 0, none⟩)
theorem wi64 {n : Nat} (h : n < 2 ^ 63) : IntKind.i64.wrap (n : Int) = (n : Int) := wrap_i64 (by omega) (by omega)
theorem u8_of (n : Nat) (h : n < 256) : byteV (UInt8.ofNat n) = .int .u8 (n : Nat) := by
  unfold byteV
  rw [UInt8.toNat_ofNat', Nat.mod_eq_of_lt (show n < 2 ^ 8 from h)]
theorem repL0 (x : List Value) : repL 0 x = [] := List.eq_nil_of_length_eq_zero (by rw [repL_length, Nat.zero_mul])
theorem ofBytes_eq (a b : By) : ((⟨a.toArray⟩ : ByteArray).toList == (⟨b.toArray⟩ : ByteArray).toList) = decide (a = b) := by
  rw [ba_beq]
  refine decide_eq_decide.2 ⟨fun h => ?_, fun h => by rw [h]⟩
  have := congrArg (fun s : ByteArray => s.data.toList) h
  simpa using this
theorem OpE.ofBytes {P : Program} {T : Tab} {n : Fi} {env : Env} (hT : TabOk P T) {o : Oper} {s d e : Nat} {x : Operand} {v : Value} {is ie id : TI} {m : Nat} {bs : List UInt8} (ho : o.op = .convert s d x) (hx : opv env x = some v) (hs : T.get s = some is) (hsd : is.desc = .slice e) (he : T.get e = some ie) (hed : ie.desc = .int .u8) (hd : T.get d = some id) (hdd : id.desc = .string)
    (h : Src w 1 v m (bs.map byteV)) (hv : ∃ a c, v = .slice a m c) : OpE P n env o w fun u w' => u = .string ⟨bs.toArray⟩ ∧ w' = w :=
  ⟨_, _, OpV.ofBytes hT ho hx hs hsd he hed hd hdd h hv, rfl, rfl⟩
/-! ### A slice of one's own, cut -/
theorem Holds.own_from {b o n cap e sz k q : Nat} {cs : List Value} (hk : k ≤ n) (hq : q = if cap = k then o else o + k * sz) (H : Holds I w (own (.slice (some ⟨b, o, none⟩) n cap) e sz n cs :: L)) : Holds I w (own (.slice (some ⟨b, q, none⟩) (n - k) (cap - k)) e sz (n - k) (cs.drop (k * sz)) :: L) := by
  rcases H.own_cases with ⟨h, _⟩ | ⟨b', o', cap', pre, rest, h0, h1, h2, h3, h4, HB⟩
  · cases h
  · injection h0 with e1 e2 e3
    injection e1 with e1
    injection e1 with e4 e5 e6
    subst e3; subst e4; subst e5
    have hle : k * sz ≤ n * sz := Nat.mul_le_mul_right _ hk
    by_cases hc : cap = k
    · have hn : n = k := by omega
      subst hn
      rw [if_pos hc] at hq
      subst hq
      rw [← h3]
      have H2 : Holds I w (blk b e (pre ++ [] ++ (cs ++ rest)) :: L) := by simpa [List.append_assoc] using HB
      have := Holds.own_mk (n := 0) (cap := 0) (sz := sz) H2 (Nat.zero_le _) (by simp) (by simp)
      rw [Nat.sub_self, hc, Nat.sub_self, List.drop_of_length_le (by omega)]
      exact this
    · rw [if_neg hc] at hq
      subst hq
      have H2 : Holds I w (blk b e ((pre ++ cs.take (k * sz)) ++ cs.drop (k * sz) ++ rest) :: L) := by
        have e : (pre ++ cs.take (k * sz)) ++ cs.drop (k * sz) ++ rest = pre ++ cs ++ rest := by rw [List.append_assoc pre, List.take_append_drop]
        rw [e]; exact HB
      have hl : (pre ++ cs.take (k * sz)).length = o + k * sz := by rw [List.length_append, List.length_take, h3, h2]; omega
      rw [← hl]
      exact Holds.own_mk (n := n - k) (cap := cap - k) (sz := sz) H2 (by omega) (by rw [List.length_drop, h2, Nat.sub_mul]) (by rw [show cap - k - (n - k) = cap - n by omega]; exact h4)
section
variable {P : Program} {T : Tab} {n : Fi} {ops : Array Oper} {K : Kont} {G : Gds} {env : Env} {rest : List Oper} {dst : Nat} {ty : Nat} {pos : String} {after : Array Edge} {gd : Option (Nat × Bool)} {t : Nat} {x : Operand}
theorem VcL.sliceOwn {lo : Operand} {A : Option Addr} {len cap e sz l et : Nat} {b2 : Bool} {cs : List Value} (hT : TabOk P T) (H : Holds I w (own (.slice A len cap) et sz len cs :: L)) (hx : opv env x = some (.slice A len cap)) (hh : cutV env (some lo) 0 = some ((l : Int), b2)) (ht : elemT T t = some (e, sz))
    (hg : gres ops G ⟨some dst, .slice t x (some lo) none none, ty, pos, after, gd⟩ = some true) (hn : inN n (some dst) = true) (ho : outG G (some dst) = true) (h1 : l ≤ len)
    (k : ∀ A' cap', Holds I w (own (.slice A' (len - l) cap') et sz (len - l) (cs.drop (l * sz)) :: L) → VcL P n ops K rest G ((dst, .slice A' (len - l) cap') :: env) w) : VcL P n ops K (⟨some dst, .slice t x (some lo) none none, ty, pos, after, gd⟩ :: rest) G env w := by
  rcases H.own_cases with ⟨h, h2, h3, H2⟩ | ⟨b, q, cap', pre, rest', h0, h2, _⟩
  · injection h with e1 e2 e3
    subst e1; subst e3; subst h2; subst h3
    obtain rfl : l = 0 := by omega
    have hk := k none 0 (by simpa using H2.own_nil)
    exact VcL.sliceNil hT hx hh rfl ht hg hn ho rfl rfl hk
  · injection h0 with e1 e2 e3
    subst e1; subst e3
    exact VcL.val hg hn ho (OpV.slice hT rfl hx hh (h := len) rfl ht (by omega) (by omega) (by omega)) (k _ _ (Holds.own_from h1 (by simp) H))
theorem VcL.sliceToA {hi : Operand} {A : Option Addr} {len cap e sz h et : Nat} {b2 : Bool} {cs : List Value} (hT : TabOk P T) (H : Holds I w (own (.slice A len cap) et sz len cs :: L)) (hx : opv env x = some (.slice A len cap)) (hh : cutV env (some hi) len = some ((h : Int), b2)) (ht : elemT T t = some (e, sz))
    (hg : gres ops G ⟨some dst, .slice t x none (some hi) none, ty, pos, after, gd⟩ = some true) (hn : inN n (some dst) = true) (ho : outG G (some dst) = true) (h1 : h ≤ len)
    (k : VcL P n ops K rest G ((dst, .slice A h cap) :: env) w) : VcL P n ops K (⟨some dst, .slice t x none (some hi) none, ty, pos, after, gd⟩ :: rest) G env w := by
  rcases H.own_cases with ⟨h2, h3, h4, H2⟩ | ⟨b, q, cap', pre, rest', h0, h2, _⟩
  · injection h2 with e1 e2 e3
    subst e1; subst e3; subst h3
    obtain rfl : h = 0 := by omega
    exact VcL.sliceNil hT hx rfl hh ht hg hn ho rfl rfl k
  · injection h0 with e1 e2 e3
    subst e1; subst e3
    exact VcL.sliceTo hT hx hh ht hg hn ho (by omega) k
end
/-! ### What an end is -/
def M : Nat := 4294967296
abbrev Bf := UInt8 × Bool
structure En where mk ::
  num : Nat
  other : Nat
  state : Nat
  first : Nat
  base : Nat
  out : List Bf
  room : Nat
  want : Nat
  inn : List Bf
  resets : Bool
  resetAt : Nat
  news : Option By
  seq : Nat
  next : Nat
  codes : List By
  age : Nat
  quiet : Nat
structure Fr where mk ::
  kind : Int
  id : Int
  seq : Int
  n : Int
  data : By
instance : Inhabited Fr := ⟨⟨0, 0, 0, 0, []⟩⟩
structure EnOk (E : En) : Prop where mk ::
  num : 0 < E.num ∧ E.num ≤ 65535
  other : E.other ≤ 65535
  state : E.state ≤ 4
  first : E.first < M
  base : E.base < M
  out : E.out.length ≤ 200
  room : E.room ≤ 65535
  want : E.want < M
  inn : E.inn.length ≤ 200
  resetAt : E.resetAt < M
  news : ∀ b ∈ E.news, b.length ≤ 60
  seq : E.seq < 65536
  next : E.next < 65536
  codes : E.codes.length ≤ 1000000 ∧ ∀ b ∈ E.codes, b.length ≤ 60
  age : E.age ≤ 41
  quiet : E.quiet ≤ 1099511627776
def plusS (a b : Nat) : Nat := (a + b) % M
def fromS (a b : Nat) : Nat := (b + M - a) % M
theorem plusS_lt (a b : Nat) : plusS a b < M := Nat.mod_lt _ (by decide)
theorem fromS_lt (a b : Nat) : fromS a b < M := Nat.mod_lt _ (by decide)
/-- The numbers of the bytes that end messages. -/
def endsL : Nat → List Bf → List Nat
  | _, [] => []
  | b, x :: r => if x.2 then b :: endsL (plusS b 1) r else endsL (plusS b 1) r
/-- How many bytes stand up to the end of each message. -/
def marksL : Nat → List Bf → List Nat
  | _, [] => []
  | k, x :: r => if x.2 then (k + 1) :: marksL (k + 1) r else marksL (k + 1) r
/-- Bytes, the last of which may end a message. -/
def markS : By → Bool → List Bf
  | [], _ => []
  | [x], e => [(x, e)]
  | x :: y :: r, e => (x, false) :: markS (y :: r) e
theorem markS_len : ∀ (l : By) (e : Bool), (markS l e).length = l.length
  | [], _ => rfl
  | [_], _ => rfl
  | x :: y :: r, e => by unfold markS; rw [List.length_cons, markS_len (y :: r) e]; rfl
theorem markS_fst : ∀ (l : By) (e : Bool), (markS l e).map (·.1) = l
  | [], _ => rfl
  | [_], _ => rfl
  | x :: y :: r, e => by unfold markS; rw [List.map_cons, markS_fst (y :: r) e]
/-- How many bytes the next piece has. -/
def cutN : List Bf → Nat → Nat
  | [], _ => 0
  | _ :: _, 0 => 0
  | x :: r, k + 1 => if x.2 then 1 else cutN r k + 1
theorem cutN_le : ∀ (l : List Bf) (k : Nat), cutN l k ≤ k ∧ cutN l k ≤ l.length
  | [], _ => ⟨Nat.zero_le _, Nat.zero_le _⟩
  | _ :: _, 0 => ⟨Nat.zero_le _, Nat.zero_le _⟩
  | x :: r, k + 1 => by
    have := cutN_le r k
    unfold cutN
    rw [List.length_cons]
    split <;> omega
theorem cutN_pos {l : List Bf} {k : Nat} (hl : l ≠ []) (hk : 0 < k) : 0 < cutN l k := by
  cases l with
  | nil => exact absurd rfl hl
  | cons x r =>
    cases k with
    | zero => omega
    | succ k => unfold cutN; split <;> omega
def bitB (b : Bool) : UInt8 := if b then 1 else 0
def validF (f : Fr) : Bool := decide (1 ≤ f.id ∧ f.id ≤ 65535 ∧ 0 ≤ f.seq ∧ f.seq < 4294967296 ∧ 0 ≤ f.n ∧ f.n < 4294967296) &&
  (if f.kind = 1 ∨ f.kind = 2 then decide (f.n ≤ 65535 ∧ f.data.length = 0)
  else if f.kind = 3 then decide (f.seq = 0 ∧ f.data.length = 2)
  else if f.kind = 4 then decide (3 < f.data.length ∧ f.data.length ≤ 63 ∧ (atD f.data 0).toNat ≤ 1)
  else if f.kind = 5 then decide (f.data.length = 0)
  else if f.kind = 6 then decide (f.seq = 0 ∧ f.data.length = 0)
  else if f.kind = 7 then decide (f.seq < 65536 ∧ f.n = 0 ∧ f.data.length ≤ 60)
  else if f.kind = 8 then decide (f.seq < 65536 ∧ f.data.length = 0)
  else if f.kind = 9 then decide (f.seq = 0 ∧ f.n = 0 ∧ f.data.length = 0)
  else false)
def newS (n f : Nat) : En := ⟨n, 0, 0, f, f, [], 0, 0, [], false, 0, none, 0, 0, [], 0, 0⟩
def winS (E : En) : Nat := 200 - E.inn.length
def tailS (E : En) : By := [UInt8.ofNat (winS E / 256), UInt8.ofNat (winS E % 256)]
def frameS (E : En) (kind seq : Int) (b : By) : Fr := ⟨kind, E.num, seq, E.want, b⟩
def openingS (E : En) (kind : Int) : Fr := ⟨kind, E.num, E.first, winS E, []⟩
def beginS (E : En) (s : Nat) : En × Int := if E.state ≠ 0 then (E, 110) else ({ E with state := s }, 0)
def putS (E : En) (b : By) (e : Bool) : En × Int :=
  if E.state ≠ 3 then (E, 110) else if b.length = 0 then (E, 2) else if 200 < E.out.length + b.length then (E, 150) else ({ E with out := E.out ++ markS b e }, 0)
def cutE (l : List Bf) (k : Nat) : Bool := (l.take k).any (·.2)
def readS (E : En) (n : Int) : En × By × Bool × Int :=
  if n < 1 then (E, [], false, 2) else
  let k := cutN E.inn n.toNat
  ({ E with inn := E.inn.drop k }, (E.inn.take k).map (·.1), cutE E.inn k, 0)
def resetS (E : En) : En × Int := if E.state ≠ 3 then (E, 110) else ({ E with base := plusS E.base E.out.length, out := [], resets := true, resetAt := plusS E.base E.out.length }, 0)
def attendS (E : En) (b : By) : En × Int := if E.state ≠ 3 then (E, 110) else if E.news.isSome then (E, 90) else if 60 < b.length then (E, 2) else ({ E with news := some b }, 0)
def closeS (E : En) : En × Fr × Int := if E.state ≠ 3 then (E, ⟨0, 0, 0, 0, []⟩, 110) else ({ E with state := 4 }, ⟨9, E.num, 0, 0, []⟩, 0)
def heedS (E : En) (f : Fr) : En × List Fr :=
  if f.seq = E.next then ({ E with codes := E.codes ++ [f.data], next := (E.next + 1) % 65536 }, [frameS E 8 f.seq []])
  else if ((f.seq.toNat + 1) % 65536 : Nat) ≠ E.next then (E, []) else (E, [frameS E 8 f.seq []])
def ackS (E : En) (n : Nat) : En := if fromS E.base n ≤ E.out.length then { E with base := n, out := E.out.drop (fromS E.base n) } else E
def num2 (l : By) (k : Nat) : Nat := (atD l k).toNat * 256 + (atD l (k + 1)).toNat
def heardS (E : En) (f : Fr) : En := if f.kind = 3 ∨ f.kind = 4 then { ackS E f.n.toNat with room := num2 f.data (f.data.length - 2) } else ackS E f.n.toNat
def dataS (E : En) (f : Fr) : En :=
  let b := (f.data.take (f.data.length - 2)).drop 1
  let old := fromS f.seq.toNat E.want
  if b.length ≤ old then E else
  let c := b.drop old
  let d := c.take (winS E)
  { E with inn := E.inn ++ markS d (decide (c.length ≤ winS E) && decide ((atD f.data 0).toNat = 1)), want := plusS E.want d.length }
/-- What is done with a frame of the other end. -/
def doesS (E : En) (f : Fr) : En × List Fr :=
  if f.kind = 1 then (E, [openingS E 2])
  else if f.kind = 2 then (E, [frameS E 3 0 (tailS E)])
  else if f.kind = 9 then ({ E with state := 4 }, [])
  else if f.kind = 7 then heedS E f
  else
    let E := heardS E f
    if f.kind = 4 then (dataS E f, [frameS (dataS E f) 3 0 (tailS (dataS E f))])
    else if f.kind = 5 then
      let E := if fromS E.want f.seq.toNat < 2147483648 then { E with want := f.seq.toNat, inn := [] } else E
      (E, [frameS E 6 0 []])
    else if f.kind = 6 then (if E.resets = true ∧ fromS E.resetAt f.n.toNat < 2147483648 then { E with resets := false } else E, [])
    else if f.kind = 8 then (if E.news.isSome = true ∧ f.seq = E.seq then { E with news := none, seq := (E.seq + 1) % 65536 } else E, [])
    else (E, [])
def learnS (E : En) (f : Fr) : En := { E with other := f.id.toNat, want := f.seq.toNat, room := f.n.toNat }
def wakeS (E : En) (f : Fr) : En := if f.kind ≠ 1 ∧ E.state ≠ 3 then { E with age := 0, state := 3, quiet := 0 } else { E with age := 0 }
def takeS (E : En) (f : Fr) : En × List Fr × Int :=
  if validF f = false then (E, [], 2)
  else if E.state = 0 ∨ E.state = 4 then (E, [], 0)
  else if E.other = 0 ∧ (f.kind = 1 ∨ (f.kind = 2 ∧ E.state = 2)) then ((doesS (wakeS (learnS E f) f) f).1, (doesS (wakeS (learnS E f) f) f).2, 0)
  else if E.other = 0 ∨ f.id ≠ E.other then (E, [], 0)
  else ((doesS (wakeS E f) f).1, (doesS (wakeS E f) f).2, 0)
/-- The frames with the bytes of a list, the first of which has the number so many further. -/
def sentG (E : En) : Nat → Nat → List Bf → List Fr
  | 0, _, _ => []
  | _ + 1, _, [] => []
  | g + 1, at_, x :: r =>
    let k := cutN (x :: r) 60
    frameS E 4 (plusS E.base at_) ((bitB (cutE (x :: r) k) :: ((x :: r).take k).map (·.1)) ++ tailS E) :: sentG E g (at_ + k) ((x :: r).drop k)
def sentS (E : En) (n : Nat) : List Fr := sentG E n 0 (E.out.take n)
def ageS (E : En) : En := if E.state ≠ 1 ∨ E.other ≠ 0 then { E with age := E.age + 1 } else E
def tickO (E : En) : List Fr :=
  (if E.resets then [frameS E 5 E.resetAt []] else []) ++ (match E.news with | some b => [⟨7, E.num, E.seq, 0, b⟩] | none => []) ++
  (if 0 < min E.out.length E.room ∧ E.resets = false then sentS E (min E.out.length E.room) else if E.quiet % 5 = 0 then [frameS E 3 0 (tailS E)] else [])
def tickS (E : En) : En × List Fr :=
  if E.state = 0 ∨ E.state = 4 then (E, [])
  else if (E.state ≠ 1 ∨ E.other ≠ 0) ∧ 40 < E.age + 1 then ({ E with age := E.age + 1, state := 4 }, [])
  else if E.state = 1 then (ageS E, [])
  else if E.state = 2 then (ageS E, [openingS E 1])
  else ({ ageS E with quiet := E.quiet + 1 }, tickO { ageS E with quiet := E.quiet + 1 })
end Go.Proofs.Ytpfgcchammlpgaa.V
