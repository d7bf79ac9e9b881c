/- Plain texts of the statements: words' runes; what Check says of them. -/
import Derived.Test.YtggdddkbhigjoaaDoorOp
import Derived.Laws.RangeString
import Derived.Laws.Concat
set_option linter.unusedVariables false
namespace Go.Proofs.YtggdddkbhigjoaaDoor
open Go Go.GW
def mkB (l : List UInt8) : ByteArray := ⟨l.toArray⟩
theorem mkB_size (l : List UInt8) : (mkB l).size = l.length := by simp [mkB, ByteArray.size]
theorem mkB_get (a b : List UInt8) (k : Nat) (h : k < b.length) : (mkB (a ++ b)).get! (a.length + k) = b[k] := by
  have hlt : a.length + k < (a ++ b).length := by simp; omega
  show (a ++ b).toArray[a.length + k]! = b[k]
  rw [List.getElem!_toArray, getElem!_pos (a ++ b) (a.length + k) hlt, List.getElem_append_right (by omega)]
  congr 1; omega
theorem mkB_append (a b : List UInt8) : mkB a ++ mkB b = mkB (a ++ b) := ByteArray.mk_append_mk a b
def wide (j : Nat) : Bool := decide (j % 7 = 3)
def bytesOf (j : Nat) : List UInt8 := if wide j = true then [0xE2, 0x82, 0xAC] else [UInt8.ofNat (97 + j % 26)]
def textL : Nat → Nat → List UInt8
  | _, 0 => []
  | k, n + 1 => bytesOf k ++ textL (k + 1) n
def textB (k n : Nat) : ByteArray := mkB (textL k n)
theorem textL_snoc : ∀ (n k : Nat), textL k (n + 1) = textL k n ++ bytesOf (k + n)
  | 0, k => by simp [textL]
  | n + 1, k => by
    have := textL_snoc n (k + 1)
    rw [textL, this, textL, List.append_assoc, show k + 1 + n = k + (n + 1) from by omega]
theorem bytesOf_len (j : Nat) : 1 ≤ (bytesOf j).length ∧ (bytesOf j).length ≤ 3 := by unfold bytesOf; split <;> simp
theorem textL_len : ∀ (n k : Nat), (textL k n).length ≤ 3 * n
  | 0, _ => by simp [textL]
  | n + 1, k => by
    have := textL_len n (k + 1)
    have := bytesOf_len k
    simp only [textL, List.length_append]; omega
theorem decode_wide (a b : List UInt8) : Utf8.decode (mkB (a ++ ([0xE2, 0x82, 0xAC] ++ b))) a.length = (8364, 3) := by
  have g : ∀ k (h : k < ([0xE2, 0x82, 0xAC] ++ b : List UInt8).length), (mkB (a ++ ([0xE2, 0x82, 0xAC] ++ b))).get! (a.length + k) = ([0xE2, 0x82, 0xAC] ++ b : List UInt8)[k] := fun k h => mkB_get a _ k h
  have g0 := g 0 (by simp)
  have g1 := g 1 (by simp)
  have g2 := g 2 (by simp)
  have s : (mkB (a ++ ([0xE2, 0x82, 0xAC] ++ b))).size = a.length + (3 + b.length) := by rw [mkB_size]; simp; omega
  have e0 : ([0xE2, 0x82, 0xAC] ++ b : List UInt8)[0]'(by simp) = 0xE2 := rfl
  have e1 : ([0xE2, 0x82, 0xAC] ++ b : List UInt8)[1]'(by simp) = 0x82 := rfl
  have e2 : ([0xE2, 0x82, 0xAC] ++ b : List UInt8)[2]'(by simp) = 0xAC := rfl
  rw [e0] at g0; rw [e1] at g1; rw [e2] at g2
  unfold Utf8.decode
  simp only [g0, g1, g2, s]
  have h1 : a.length + 1 < a.length + (3 + b.length) := by omega
  have h2 : a.length + 2 < a.length + (3 + b.length) := by omega
  simp only [h1, h2, decide_true, Bool.true_and, show (0xE2 : UInt8).toNat = 226 from rfl, show (0x82 : UInt8).toNat = 130 from rfl, show (0xAC : UInt8).toNat = 172 from rfl]
  rw [if_neg (by decide), if_neg (by decide), if_pos (by decide), if_pos (by decide)]
theorem decode_one (a b : List UInt8) (c : UInt8) (hc : c.toNat < 128) : Utf8.decode (mkB (a ++ ([c] ++ b))) a.length = (c.toNat, 1) := by
  have g0 := mkB_get a ([c] ++ b) 0 (by simp)
  have e0 : ([c] ++ b : List UInt8)[0]'(by simp) = c := rfl
  rw [e0] at g0
  unfold Utf8.decode
  simp only [g0]
  rw [if_pos hc]
theorem letF_wide : letF 8364 = true := by decide
theorem letF_low {c : Int} (h1 : 97 ≤ c) (h2 : c ≤ 122) : letF c = true := by
  unfold letF barL
  simp only [List.all_cons, List.all_nil, Bool.and_true, Bool.and_eq_true, Bool.not_eq_true', Bool.and_eq_false_iff, decide_eq_false_iff_not, decide_eq_true_eq]
  omega
theorem utAt_text : ∀ (n k q : Nat) (pre : List UInt8), utAt (mkB (pre ++ textL k n)) pre.length q = (((q + n : Nat) : Int), 0, 0)
  | 0, k, q, pre => by
    rw [utAt_end (by rw [mkB_size]; simp [textL])]; rfl
  | n + 1, k, q, pre => by
    have hl := bytesOf_len k
    have hp : pre.length < (mkB (pre ++ textL k (n + 1))).size := by rw [mkB_size, textL]; simp only [List.length_append]; omega
    have ih := utAt_text n (k + 1) (q + 1) (pre ++ bytesOf k)
    rw [List.append_assoc] at ih
    have key : ∃ c : Nat, Utf8.decode (mkB (pre ++ (bytesOf k ++ textL (k + 1) n))) pre.length = (c, (bytesOf k).length) ∧ (c : Int) ≠ 65533 ∧ letF c = true := by
      unfold bytesOf
      split
      · exact ⟨8364, by rw [decode_wide]; rfl, by decide, letF_wide⟩
      · have hk : k % 26 < 26 := Nat.mod_lt _ (by decide)
        have hc : (UInt8.ofNat (97 + k % 26)).toNat = 97 + k % 26 := by
          rw [UInt8.toNat_ofNat']; omega
        refine ⟨97 + k % 26, ?_, by omega, letF_low (by omega) (by omega)⟩
        rw [decode_one _ _ _ (by rw [hc]; omega), hc]; rfl
    obtain ⟨c, h1, h2, h3⟩ := key
    rw [textL] at hp ⊢
    rw [utAt_next hp]
    · rw [h1]
      simp only
      rw [List.length_append] at ih
      rw [ih]
      congr 2; omega
    · rw [h1]; unfold begF; simp [h2]
    · rw [h1]; simp [h3]
theorem utF_text (k n : Nat) : utF (textB k n) = ((n : Int), 0, 0) := by
  have := utAt_text n k 0 []
  simp only [List.nil_append, List.length_nil, Nat.zero_add] at this
  exact this
end Go.Proofs.YtggdddkbhigjoaaDoor
