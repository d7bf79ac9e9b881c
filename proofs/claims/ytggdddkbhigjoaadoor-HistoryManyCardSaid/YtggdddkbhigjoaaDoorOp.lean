/- Plain operations: what op's functions compute. -/
import Derived.Test.YtggdddkbhigjoaaDoorUt
set_option linter.unusedVariables false
namespace Go.Proofs.YtggdddkbhigjoaaDoor
open Go Go.GW
def widthF (o : GOp) : Int := if o.kind = 1 then (utF o.text).1 else 0
def rightF (c n : Int) : Bool := decide (1 ≤ c ∧ c ≤ 8 ∧ 1 ≤ n ∧ n ≤ 1024)
def extraF (o : GOp) : Bool :=
  (decide (o.kind ≠ 1) && (decide (o.at_ ≠ 0) || !(o.text == ⟨#[]⟩))) || ((decide (o.kind ≠ 2) && decide (o.kind ≠ 3)) && decide (0 < o.rs.length)) || (decide (o.kind ≠ 4) && ((decide (o.tc ≠ 0) || decide (o.tn ≠ 0)) || o.on))
def insF (o : GOp) (total : Int) : Int :=
  if (utF o.text).2.2 ≠ 0 then (utF o.text).2.2
  else if (utF o.text).1 = 0 then 15
  else if (utF o.text).1 > 256 then 14
  else if o.at_ < 0 ∨ o.at_ > total then 12
  else if total + (utF o.text).1 > 1048576 then 24
  else 0
def rangesF (xs : List Rg) (total : Int) : Int :=
  match xs.getLast? with
  | none => 43
  | some r => if (ckF xs).2 ≠ 0 then (ckF xs).2 else if r.hi > total then 12 else 0
theorem rangesF_nil {xs : List Rg} {total : Int} (h : xs.length = 0) : rangesF xs total = 43 := by
  rw [List.length_eq_zero_iff.1 h]; rfl
theorem rangesF_ck {xs : List Rg} {total : Int} (h : ¬ xs.length = 0) (h2 : (ckF xs).2 ≠ 0) : rangesF xs total = (ckF xs).2 := by
  have hk : xs.length - 1 < xs.length := by omega
  unfold rangesF
  rw [List.getLast?_eq_getElem?, List.getElem?_eq_getElem hk]
  simp only [if_pos h2]
theorem rangesF_at {xs : List Rg} {total : Int} (hk : xs.length - 1 < xs.length) (h2 : (ckF xs).2 = 0) : rangesF xs total = if xs[xs.length - 1].hi > total then 12 else 0 := by
  unfold rangesF
  rw [List.getLast?_eq_getElem?, List.getElem?_eq_getElem hk]
  simp only [ne_eq, h2, not_true_eq_false, if_false]
def checkF (o : GOp) (total : Int) : Int :=
  if total < 0 ∨ total > 1048576 then 12
  else if o.kind < 1 ∨ o.kind > 4 then 40
  else if (o.c ≠ 0 ∨ o.n ≠ 0) ∧ rightF o.c o.n = false then 41
  else if extraF o = true then 42
  else if o.kind = 1 then insF o total
  else if o.kind = 4 then (if rightF o.tc o.tn = false ∨ (o.tc = o.c ∧ o.tn = o.n) then 63 else 0)
  else rangesF o.rs total
theorem utAt_n {s : ByteArray} : ∀ (m p k : Nat), s.size - p ≤ m → p ≤ s.size → 0 ≤ (utAt s p k).1 ∧ (utAt s p k).1 ≤ k + (s.size - p : Nat)
  | m, p, k, hm, hp => by
    by_cases h : p < s.size
    · by_cases h1 : begF s p (Utf8.decode s p).1 = false
      · rw [utAt_utf8 h h1]; simp; omega
      · by_cases h2 : letF (Utf8.decode s p).1 = false
        · rw [utAt_rune h h1 h2]; simp; omega
        · rw [utAt_next h h1 h2]
          have h3 := decode_pos s p
          have h4 := decode_leP h
          cases m with
          | zero => omega
          | succ m =>
            have := utAt_n m (p + (Utf8.decode s p).2) (k + 1) (by omega) h4
            omega
    · rw [utAt_end h]; constructor <;> simp <;> omega
theorem utF_n (s : ByteArray) : 0 ≤ (utF s).1 ∧ (utF s).1 ≤ s.size := by
  have := utAt_n (s := s) s.size 0 0 (by omega) (Nat.zero_le _)
  unfold utF; omega
theorem widthF_le (o : GOp) : 0 ≤ widthF o ∧ widthF o ≤ o.text.size := by
  unfold widthF
  split
  · exact utF_n _
  · omega
end Go.Proofs.YtggdddkbhigjoaaDoor
