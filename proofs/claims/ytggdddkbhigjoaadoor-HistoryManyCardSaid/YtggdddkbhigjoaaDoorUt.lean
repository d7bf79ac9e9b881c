/- Plain texts: what utext's functions compute; and of bits; the table of bars. -/
import Derived.Test.YtggdddkbhigjoaaDoorPl
import Derived.Test.YtggdddkbhigjoaaDoorGwH
set_option linter.unusedVariables false
namespace Go.GW
open Go
theorem q_and {P : Program} {l : Fr} {Ps : List Part} {As : List Fact} {d : Option Tmp} {ty : TypeId} {pos : String} {aft : Array Edge} {g : Option (Nat × Bool)} {t t2 : TypeId} {x y : Operand} {k : IntKind} {a b c : Int} (hx : evs l x = some (.int k a)) (hy : evs l y = some (.int k b)) (hw : bits .and k a b = c) : QR P l Ps As ⟨d, .binOp .and t x y t2, ty, pos, aft, g⟩ (.int k c) := fun Z w ρ hs hρ => by
  subst hw; simp [execOp, hρ _ _ hx, hρ _ _ hy, go_sem]
theorem i32_and65535 (n : Int) : bits .and .i32 n 65535 = n % 65536 := by
  have h127 : (BitVec.ofInt 32 65535).toNat = 2 ^ 16 - 1 := by decide
  have key : (BitVec.ofInt 32 n &&& BitVec.ofInt 32 65535).toNat = (n % ((2 ^ 32 : Nat) : Int)).toNat % 2 ^ 16 := by
    rw [BitVec.toNat_and, BitVec.toNat_ofInt, h127, Nat.and_two_pow_sub_one_eq_mod]
  show IntKind.i32.wrap ((BitVec.ofInt 32 n &&& BitVec.ofInt 32 65535).toNat : Nat) = n % 65536
  rw [key, IntKind.wrap_i32]
  omega
/-- An element of an array that is a value. -/
theorem q_index2 {P : Program} {l : Fr} {Ps : List Part} {As : List Fact} {d : Option Tmp} {ty : TypeId} {pos : String} {aft : Array Edge} {g : Option (Nat × Bool)} {T E : TypeId} {x y : Operand} {cs vs : List Value} {len : Nat} {i : Int} {de : TypeDesc} {z : Option Value} {sz by_ : Nat} (hu : P.underlying T = some (.array len E)) (he : P.underlying E = some de) (hd : agg? de = true) (ht : ti P E = some (z, sz, by_))
    (hx : evs l x = some (.agg cs.toArray)) (hy : evs l y = some (.int .i64 i)) (h0 : 0 ≤ i) (h1 : i < len) (hv : (cs.drop (i.toNat * sz)).take sz = vs) : QR P l Ps As ⟨d, .index T x y, ty, pos, aft, g⟩ (.agg vs.toArray) := fun Z w ρ hs hρ => by
  have h2 := run_partN (P := P) (w := w) (cs := cs) (o := i.toNat * sz) he hd ht hv
  simp only [execOp, hρ _ _ hx, hρ _ _ hy, Instr.index, asIntOf, Sem.run_bind, Sem.run_pure, run_underlying hu, Result.andThen_ok, h0, h1, and_self, if_true, run_sizeOf ht, h2]
end Go.GW
namespace Go.Proofs.YtggdddkbhigjoaaDoor
open Go Go.GW
def barL : List (Int × Int) := [(0x00, 0x08), (0x0b, 0x1f), (0x7f, 0x9f), (0xfdd0, 0xfdef), (0xfeff, 0xfeff)]
def barC : List Value := [.int .i32 0x00, .int .i32 0x08, .int .i32 0x0b, .int .i32 0x1f, .int .i32 0x7f, .int .i32 0x9f, .int .i32 0xfdd0, .int .i32 0xfdef, .int .i32 0xfeff, .int .i32 0xfeff]
abbrev barF : Fact := FzA 0 0 barC
theorem bar_at : ∀ k (h : k < barL.length), (barC.drop ((k : Int).toNat * 2)).take 2 = [.int .i32 barL[k].1, .int .i32 barL[k].2] := by
  intro k h
  match k, h with
  | 0, _ => rfl
  | 1, _ => rfl
  | 2, _ => rfl
  | 3, _ => rfl
  | 4, _ => rfl
/-- letIn. -/
def letF (c : Int) : Bool := (barL.all fun b => !(decide (b.1 ≤ c) && decide (c ≤ b.2))) && decide (c % 65536 < 65534)
/-- begins. -/
def fffd : ByteArray := ⟨#[0xEF, 0xBF, 0xBD]⟩
def prefF (s t : ByteArray) : Bool := decide (t.size ≤ s.size) && (s.extract 0 t.size == t)
def begF (s : ByteArray) (p : Nat) (c : Int) : Bool := decide (c ≠ 65533) || prefF (s.extract p s.size) fffd
theorem decode_pos (s : ByteArray) (p : Nat) : 0 < (Utf8.decode s p).2 := by
  unfold Utf8.decode
  simp only
  repeat' split
  all_goals simp
theorem decode_leP {s : ByteArray} {p : Nat} (h : p < s.size) : p + (Utf8.decode s p).2 ≤ s.size := by
  unfold Utf8.decode
  simp only
  repeat' split
  all_goals simp_all
  all_goals omega
/-- Check, from byte p on, where k runes have been counted. -/
def utAt (s : ByteArray) (p k : Nat) : Int × Int × Int :=
  if h : p < s.size then
    let c := Utf8.decode s p
    if begF s p c.1 = false then (0, p, 10)
    else if letF c.1 = false then (0, p, 11)
    else utAt s (p + c.2) (k + 1)
  else (k, 0, 0)
  termination_by s.size - p
  decreasing_by
    have := decode_pos s p
    omega
def utF (s : ByteArray) : Int × Int × Int := utAt s 0 0
theorem utAt_end {s : ByteArray} {p k : Nat} (h : ¬ p < s.size) : utAt s p k = ((k : Int), 0, 0) := by unfold utAt; rw [dif_neg h]
theorem utAt_utf8 {s : ByteArray} {p k : Nat} (h : p < s.size) (h1 : begF s p (Utf8.decode s p).1 = false) : utAt s p k = ((0 : Int), (p : Int), 10) := by unfold utAt; rw [dif_pos h, if_pos h1]
theorem utAt_rune {s : ByteArray} {p k : Nat} (h : p < s.size) (h1 : ¬ begF s p (Utf8.decode s p).1 = false) (h2 : letF (Utf8.decode s p).1 = false) : utAt s p k = ((0 : Int), (p : Int), 11) := by unfold utAt; rw [dif_pos h, if_neg h1, if_pos h2]
theorem utAt_next {s : ByteArray} {p k : Nat} (h : p < s.size) (h1 : ¬ begF s p (Utf8.decode s p).1 = false) (h2 : ¬ letF (Utf8.decode s p).1 = false) : utAt s p k = utAt s (p + (Utf8.decode s p).2) (k + 1) := by
  conv => lhs; unfold utAt
  rw [dif_pos h, if_neg h1, if_neg h2]
end Go.Proofs.YtggdddkbhigjoaaDoor
