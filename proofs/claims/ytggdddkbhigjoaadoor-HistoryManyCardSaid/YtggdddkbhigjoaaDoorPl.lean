/- Plain lists of ranges: what span's functions compute; their cells. -/
import Derived.Test.YtggdddkbhigjoaaDoorGo
set_option linter.unusedVariables false
namespace Go.Proofs.YtggdddkbhigjoaaDoor
open Go Go.GW
/-- The cells of a list of ranges. -/
def rgs (xs : List Rg) : List Value := (xs.map rgC).flatten
theorem rgs_append (xs ys : List Rg) : rgs (xs ++ ys) = rgs xs ++ rgs ys := by simp [rgs]
theorem rgs_length (xs : List Rg) : (rgs xs).length = xs.length * 2 := by
  induction xs with
  | nil => rfl
  | cons x xs ih => simp only [rgs, List.map_cons, List.flatten_cons, List.length_append, List.length_cons] at ih ⊢; rw [ih]; simp [rgC]; omega
theorem rgs_one (x : Rg) : rgs [x] = rgC x := by simp [rgs]
theorem rgs_reps (xs : List Rg) (Z : Nat → Prop) (w : World) : Reps (rgD.rep Z w) xs (xs.map rgC) := by
  induction xs with
  | nil => exact .nil
  | cons x xs ih => exact .cons rfl ih
theorem rgs_last (ys : List Rg) (r : Rg) (jk : List Value) : (rgs (ys ++ [r]) ++ jk)[ys.length * 2 + 1]? = some (.int .i64 r.hi) := by
  rw [rgs_append, rgs_one, List.append_assoc, List.getElem?_append_right (by rw [rgs_length]; omega), rgs_length, show ys.length * 2 + 1 - ys.length * 2 = 1 from by omega]
  rfl
theorem rgs_set (ys : List Rg) (r : Rg) (m : Int) (jk : List Value) : (rgs (ys ++ [r]) ++ jk).set (ys.length * 2 + 1) (.int .i64 m) = rgs (ys ++ [⟨r.lo, m⟩]) ++ jk := by
  rw [rgs_append, rgs_one, List.append_assoc, rgs_append, rgs_one, List.append_assoc, List.set_append_right _ _ (by rw [rgs_length]; omega), rgs_length, show ys.length * 2 + 1 - ys.length * 2 = 1 from by omega]
  rfl
/-- add: a range behind a list. -/
def addF (xs : List Rg) (lo hi : Int) : List Rg :=
  if hi ≤ lo then xs else match xs.getLast? with
    | some r => if lo ≤ r.hi then xs.dropLast ++ [⟨r.lo, max r.hi hi⟩] else xs ++ [⟨lo, hi⟩]
    | none => [⟨lo, hi⟩]
theorem addF_len (xs : List Rg) (lo hi : Int) : (addF xs lo hi).length ≤ xs.length + 1 := by
  unfold addF
  split
  · omega
  · split
    · rename_i r hr
      split
      · simp
      · simp
    · simp
theorem addF_skip {xs : List Rg} {lo hi : Int} (h : hi ≤ lo) : addF xs lo hi = xs := by simp [addF, h]
theorem addF_nil {lo hi : Int} (h : ¬ hi ≤ lo) : addF [] lo hi = [⟨lo, hi⟩] := by simp [addF, h]
theorem addF_join {ys : List Rg} {r : Rg} {lo hi : Int} (h : ¬ hi ≤ lo) (h2 : lo ≤ r.hi) : addF (ys ++ [r]) lo hi = ys ++ [⟨r.lo, max r.hi hi⟩] := by simp [addF, h, h2]
theorem addF_more {ys : List Rg} {r : Rg} {lo hi : Int} (h : ¬ hi ≤ lo) (h2 : ¬ lo ≤ r.hi) : addF (ys ++ [r]) lo hi = ys ++ [r] ++ [⟨lo, hi⟩] := by simp [addF, h, h2]
/-- Check: the first range that can't stand there. -/
def ckAt (i : Int) : Option Rg → List Rg → Int × Int
  | _, [] => (0, 0)
  | p, r :: rs =>
    if r.lo < 0 ∨ r.hi > 1048576 ∨ r.lo ≥ r.hi then (i, 20)
    else if (match p with | some q => decide (r.lo ≤ q.hi) | none => false) = true then (i, 22)
    else ckAt (i + 1) (some r) rs
def ckF (xs : List Rg) : Int × Int := if xs.length > 32768 then (32768, 21) else ckAt 0 none xs
/-- Through. -/
def thrL (at_ n : Int) (acc : List Rg) : List Rg → List Rg
  | [] => acc
  | r :: rs => thrL at_ n (addF (addF acc r.lo (min r.hi at_)) (max r.lo at_ + n) (r.hi + n)) rs
def boundF (xs : List Rg) : List Rg × Int := if xs.length > 32768 then ([], 21) else (xs, 0)
def thrF (xs : List Rg) (at_ n : Int) : List Rg × Int :=
  if (ckF xs).2 ≠ 0 then ([], (ckF xs).2)
  else if at_ < 0 ∨ at_ > 1048576 ∨ n < 0 ∨ n > 1048576 then ([], 12)
  else match xs.getLast? with
    | some r => if r.hi > at_ ∧ r.hi + n > 1048576 then ([], 24) else boundF (thrL at_ n [] xs)
    | none => boundF (thrL at_ n [] xs)
end Go.Proofs.YtggdddkbhigjoaaDoor
namespace Go.Proofs.YtggdddkbhigjoaaDoor
open Go Go.GW
theorem ckAt_bad {i : Int} {p : Option Rg} {r : Rg} {rs : List Rg} (h : r.lo < 0 ∨ r.hi > 1048576 ∨ r.lo ≥ r.hi) : ckAt i p (r :: rs) = (i, 20) := by
  cases p <;> rw [ckAt, if_pos h]
theorem ckAt_ord {i : Int} {q r : Rg} {rs : List Rg} (h : ¬ (r.lo < 0 ∨ r.hi > 1048576 ∨ r.lo ≥ r.hi)) (h2 : r.lo ≤ q.hi) : ckAt i (some q) (r :: rs) = (i, 22) := by
  rw [ckAt, if_neg h, if_pos (by simpa using h2)]
theorem ckAt_next {i : Int} {q r : Rg} {rs : List Rg} (h : ¬ (r.lo < 0 ∨ r.hi > 1048576 ∨ r.lo ≥ r.hi)) (h2 : ¬ r.lo ≤ q.hi) : ckAt i (some q) (r :: rs) = ckAt (i + 1) (some r) rs := by
  rw [ckAt, if_neg h, if_neg (by simpa using h2)]
theorem ckAt_first {i : Int} {r : Rg} {rs : List Rg} (h : ¬ (r.lo < 0 ∨ r.hi > 1048576 ∨ r.lo ≥ r.hi)) : ckAt i none (r :: rs) = ckAt (i + 1) (some r) rs := by
  rw [ckAt, if_neg h, if_neg (by simp)]
def pv (xs : List Rg) (k : Nat) : Option Rg := if k = 0 then none else xs[k - 1]?
/-- What holds of Check's loop. -/
def CkI (xs : List Rg) (k : Nat) : Prop := k ≤ xs.length ∧ ckF xs = ckAt k (pv xs k) (xs.drop k)
theorem CkI.zero {xs : List Rg} (h : ¬ xs.length > 32768) : CkI xs 0 := ⟨Nat.zero_le _, by simp [ckF, h, pv]⟩
theorem CkI.done {xs : List Rg} {k : Nat} (h : CkI xs k) (hk : ¬ k < xs.length) : ckF xs = (0, 0) := by
  have : k = xs.length := by have := h.1; omega
  rw [h.2, List.drop_eq_nil_of_le (by omega)]
  cases pv xs k <;> rfl
theorem CkI.drop {xs : List Rg} {k : Nat} (hk : k < xs.length) : xs.drop k = xs[k] :: xs.drop (k + 1) := List.drop_eq_getElem_cons hk
theorem CkI.bad {xs : List Rg} {k : Nat} (h : CkI xs k) (hk : k < xs.length) (hb : xs[k].lo < 0 ∨ xs[k].hi > 1048576 ∨ xs[k].lo ≥ xs[k].hi) : ckF xs = (↑k, 20) := by
  rw [h.2, CkI.drop hk, ckAt_bad hb]
theorem CkI.ord {xs : List Rg} {k : Nat} (h : CkI xs (k + 1)) (hk : k + 1 < xs.length) (hb : ¬ (xs[k + 1].lo < 0 ∨ xs[k + 1].hi > 1048576 ∨ xs[k + 1].lo ≥ xs[k + 1].hi)) (h2 : xs[k + 1].lo ≤ (xs[k]'(by omega)).hi) : ckF xs = (↑(k + 1), 22) := by
  rw [h.2, CkI.drop hk, pv, if_neg (by omega), Nat.add_sub_cancel, List.getElem?_eq_getElem (by omega), ckAt_ord hb h2]
theorem CkI.next {xs : List Rg} {k : Nat} (h : CkI xs (k + 1)) (hk : k + 1 < xs.length) (hb : ¬ (xs[k + 1].lo < 0 ∨ xs[k + 1].hi > 1048576 ∨ xs[k + 1].lo ≥ xs[k + 1].hi)) (h2 : ¬ xs[k + 1].lo ≤ (xs[k]'(by omega)).hi) : CkI xs (k + 1 + 1) := by
  refine ⟨hk, ?_⟩
  rw [h.2, CkI.drop hk, pv, if_neg (by omega), Nat.add_sub_cancel, List.getElem?_eq_getElem (by omega), ckAt_next hb h2, pv, if_neg (by omega), Nat.add_sub_cancel, List.getElem?_eq_getElem hk]
  rfl
theorem CkI.first {xs : List Rg} (h : CkI xs 0) (hk : 0 < xs.length) (hb : ¬ (xs[0].lo < 0 ∨ xs[0].hi > 1048576 ∨ xs[0].lo ≥ xs[0].hi)) : CkI xs (0 + 1) := by
  refine ⟨hk, ?_⟩
  rw [h.2, CkI.drop hk, pv, if_pos rfl, ckAt_first hb, pv, if_neg (by omega), Nat.add_sub_cancel, List.getElem?_eq_getElem hk]
  rfl
end Go.Proofs.YtggdddkbhigjoaaDoor
namespace Go.Proofs.YtggdddkbhigjoaaDoor
open Go Go.GW
theorem ckAt_good : ∀ (rs : List Rg) (i : Int) (p : Option Rg), (ckAt i p rs).2 = 0 → ∀ r ∈ rs, 0 ≤ r.lo ∧ r.lo < r.hi ∧ r.hi ≤ 1048576
  | [], _, _, _, r, hr => by cases hr
  | x :: rs, i, p, h, r, hr => by
    by_cases hb : x.lo < 0 ∨ x.hi > 1048576 ∨ x.lo ≥ x.hi
    · rw [ckAt_bad hb] at h; cases h
    · rcases List.mem_cons.1 hr with rfl | hr
      · omega
      · rcases p with _ | q
        · rw [ckAt_first hb] at h; exact ckAt_good rs _ _ h r hr
        · by_cases h2 : x.lo ≤ q.hi
          · rw [ckAt_ord hb h2] at h; cases h
          · rw [ckAt_next hb h2] at h; exact ckAt_good rs _ _ h r hr
theorem ckF_good {xs : List Rg} (h : (ckF xs).2 = 0) : xs.length ≤ 32768 ∧ ∀ r ∈ xs, 0 ≤ r.lo ∧ r.lo < r.hi ∧ r.hi ≤ 1048576 := by
  unfold ckF at h
  split at h
  · cases h
  · exact ⟨by omega, ckAt_good xs _ _ h⟩
theorem ckF_at {xs : List Rg} (h : (ckF xs).2 = 0) {k : Nat} (hk : k < xs.length) : 0 ≤ xs[k].lo ∧ xs[k].lo < xs[k].hi ∧ xs[k].hi ≤ 1048576 := (ckF_good h).2 _ (List.getElem_mem hk)
theorem thrF_ck {xs : List Rg} {at_ n : Int} (h : (ckF xs).2 ≠ 0) : thrF xs at_ n = ([], (ckF xs).2) := by unfold thrF; rw [if_pos h]
theorem thrF_out {xs : List Rg} {at_ n : Int} (h : (ckF xs).2 = 0) (h2 : at_ < 0 ∨ at_ > 1048576 ∨ n < 0 ∨ n > 1048576) : thrF xs at_ n = ([], 12) := by
  unfold thrF; rw [if_neg (by simpa using h), if_pos h2]
theorem thrF_grow {xs : List Rg} {at_ n : Int} (h : (ckF xs).2 = 0) (h2 : ¬ (at_ < 0 ∨ at_ > 1048576 ∨ n < 0 ∨ n > 1048576)) (hk : xs.length - 1 < xs.length) (h3 : xs[xs.length - 1].hi > at_ ∧ xs[xs.length - 1].hi + n > 1048576) : thrF xs at_ n = ([], 24) := by
  unfold thrF; rw [if_neg (by simpa using h), if_neg h2]
  rw [List.getLast?_eq_getElem?, List.getElem?_eq_getElem hk]
  simp [h3]
theorem thrF_nil {at_ n : Int} (h2 : ¬ (at_ < 0 ∨ at_ > 1048576 ∨ n < 0 ∨ n > 1048576)) : thrF [] at_ n = boundF (thrL at_ n [] []) := by
  unfold thrF; rw [if_neg (by simp [ckF, ckAt]), if_neg h2]; rfl
theorem thrF_ok {xs : List Rg} {at_ n : Int} (h : (ckF xs).2 = 0) (h2 : ¬ (at_ < 0 ∨ at_ > 1048576 ∨ n < 0 ∨ n > 1048576)) (hk : xs.length - 1 < xs.length) (h3 : ¬ (xs[xs.length - 1].hi > at_ ∧ xs[xs.length - 1].hi + n > 1048576)) : thrF xs at_ n = boundF (thrL at_ n [] xs) := by
  unfold thrF; rw [if_neg (by simpa using h), if_neg h2]
  rw [List.getLast?_eq_getElem?, List.getElem?_eq_getElem hk]
  simp only [if_neg h3]
/-- What holds of Through's loop. -/
structure ThI (xs : List Rg) (at_ n : Int) (k : Nat) (acc : List Rg) (v : Value) (p : Part) : Prop where
  le : k ≤ xs.length
  row : Row 37 2 v acc.length (rgs acc) p
  len : acc.length ≤ 2 * k
  eq : thrL at_ n [] xs = thrL at_ n acc (xs.drop k)
theorem ThI.next {xs : List Rg} {at_ n : Int} {k : Nat} {acc : List Rg} {v v' : Value} {p p' : Part} (h : ThI xs at_ n k acc v p) (hk : k < xs.length)
    (hr : Row 37 2 v' (addF (addF acc xs[k].lo (min xs[k].hi at_)) (max xs[k].lo at_ + n) (xs[k].hi + n)).length (rgs (addF (addF acc xs[k].lo (min xs[k].hi at_)) (max xs[k].lo at_ + n) (xs[k].hi + n))) p') :
    ThI xs at_ n (k + 1) (addF (addF acc xs[k].lo (min xs[k].hi at_)) (max xs[k].lo at_ + n) (xs[k].hi + n)) v' p' := by
  refine ⟨hk, hr, ?_, ?_⟩
  · have h1 := addF_len (addF acc xs[k].lo (min xs[k].hi at_)) (max xs[k].lo at_ + n) (xs[k].hi + n)
    have h2 := addF_len acc xs[k].lo (min xs[k].hi at_)
    have := h.len
    omega
  · rw [h.eq, List.drop_eq_getElem_cons hk]; rfl
theorem ThI.done {xs : List Rg} {at_ n : Int} {k : Nat} {acc : List Rg} {v : Value} {p : Part} (h : ThI xs at_ n k acc v p) (hk : ¬ k < xs.length) : thrL at_ n [] xs = acc := by
  rw [h.eq, List.drop_eq_nil_of_le (by omega)]; rfl
end Go.Proofs.YtggdddkbhigjoaaDoor
