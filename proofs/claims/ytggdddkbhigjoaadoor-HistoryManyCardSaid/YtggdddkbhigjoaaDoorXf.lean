/- Plain operations: what xform's functions compute. -/
import Derived.Test.YtggdddkbhigjoaaDoorOp
import Derived.Test.YtggdddkbhigjoaaDoorGwI
set_option linter.unusedVariables false
namespace Go.Proofs.YtggdddkbhigjoaaDoor
open Go Go.GW
def zeroOp : GOp := ⟨0, 0, 0, 0, ⟨#[]⟩, [], 0, 0, false⟩
/-- An operation that fits: no sum of its numbers leaves the whole numbers. -/
structure Fit (o : GOp) : Prop where
  text : o.text.size ≤ 2305843009213693952
  rs : o.rs.length ≤ 4398046511104
  lo : -2305843009213693952 ≤ o.at_
  hi : o.at_ ≤ 2305843009213693952
def ownF (o : GOp) : Int := if o.kind = 1 ∧ 0 ≤ o.at_ ∧ o.at_ ≤ 1048576 then checkF o o.at_ else checkF o 1048576
def ownsF : List GOp → Int
  | [] => 0
  | o :: r => if ownF o ≠ 0 then ownF o else ownsF r
def clashF (a b : GOp) : Prop := a.c = b.c ∧ a.n = b.n ∧ ¬ (a.c = 0 ∧ a.n = 0)
instance (a b : GOp) : Decidable (clashF a b) := by unfold clashF; infer_instance
def movedF (a : GOp) (at_ : Int) : GOp × Int := if at_ + widthF a > 1048576 then (zeroOp, 24) else ({ a with at_ := at_, rs := [] }, 0)
def rangedF (a : GOp) (l : List Rg) (e : Int) : GOp × Int := if e ≠ 0 then (zeroOp, e) else ({ a with rs := l }, 0)
def includeF (a b : GOp) (earlier : Bool) : GOp × Int :=
  if clashF a b then (zeroOp, 50)
  else if b.kind ≠ 1 then (a, 0)
  else if a.kind = 1 then (if b.at_ < a.at_ ∨ (b.at_ = a.at_ ∧ earlier = true) then movedF a (a.at_ + widthF b) else (a, 0))
  else if a.kind = 2 ∨ a.kind = 3 then rangedF a (thrF a.rs b.at_ (widthF b)).1 (thrF a.rs b.at_ (widthF b)).2
  else (a, 0)
/-- Cross: one later operation over all of the first. -/
def crossIn : GOp → List GOp → Except Int (GOp × List GOp)
  | l, [] => .ok (l, [])
  | l, f :: fs =>
    if (includeF l f true).2 ≠ 0 then .error (includeF l f true).2
    else if (includeF f l false).2 ≠ 0 then .error (includeF f l false).2
    else match crossIn (includeF l f true).1 fs with
      | .error e => .error e
      | .ok (l', fs') => .ok (l', (includeF f l false).1 :: fs')
def crossOut : List GOp → List GOp → Except Int (List GOp × List GOp)
  | fs, [] => .ok (fs, [])
  | fs, l :: ls => match crossIn l fs with
    | .error e => .error e
    | .ok (l', fs') => match crossOut fs' ls with
      | .error e => .error e
      | .ok (fs2, ls2) => .ok (fs2, l' :: ls2)
def crossF (xs ys : List GOp) : List GOp × List GOp × Int :=
  if ownsF xs ≠ 0 then ([], [], ownsF xs)
  else if ownsF ys ≠ 0 then ([], [], ownsF ys)
  else match crossOut xs ys with
    | .error e => ([], [], e)
    | .ok (a, b) => (a, b, 0)
def putIn (fs : List GOp) : Except Int (GOp × List GOp) → Except Int (GOp × List GOp)
  | .error e => .error e
  | .ok (l, r) => .ok (l, fs ++ r)
def putOut (ls : List GOp) : Except Int (List GOp × List GOp) → Except Int (List GOp × List GOp)
  | .error e => .error e
  | .ok (f, r) => .ok (f, ls ++ r)
def restOut (ls : List GOp) : Except Int (GOp × List GOp) → Except Int (List GOp × List GOp)
  | .error e => .error e
  | .ok (l', fs') => match crossOut fs' ls with
      | .error e => .error e
      | .ok (fs2, ls2) => .ok (fs2, l' :: ls2)
theorem crossOut_cons (fs : List GOp) (l : GOp) (ls : List GOp) : crossOut fs (l :: ls) = restOut ls (crossIn l fs) := by
  rw [crossOut]; unfold restOut; rfl
theorem crossIn_err1 {l f : GOp} {fs : List GOp} (h : (includeF l f true).2 ≠ 0) : crossIn l (f :: fs) = .error (includeF l f true).2 := by rw [crossIn, if_pos h]
theorem crossIn_err2 {l f : GOp} {fs : List GOp} (h : ¬ (includeF l f true).2 ≠ 0) (h2 : (includeF f l false).2 ≠ 0) : crossIn l (f :: fs) = .error (includeF f l false).2 := by rw [crossIn, if_neg h, if_pos h2]
theorem crossIn_ok {l f : GOp} {fs : List GOp} (h : ¬ (includeF l f true).2 ≠ 0) (h2 : ¬ (includeF f l false).2 ≠ 0) : crossIn l (f :: fs) = putIn [(includeF f l false).1] (crossIn (includeF l f true).1 fs) := by
  rw [crossIn, if_neg h, if_neg h2]; cases crossIn (includeF l f true).1 fs <;> rfl
/-- The inner loop: l has come to place k of F. -/
structure CiI (l0 : GOp) (F0 F : List GOp) (l : GOp) (k : Nat) : Prop where
  le : k ≤ F.length
  len : F.length = F0.length
  fit : ∀ o ∈ F, Fit o
  fitl : Fit l
  eq : crossIn l0 F0 = putIn (F.take k) (crossIn l (F.drop k))
/-- The outer loop. -/
structure CoI (xs ys F L : List GOp) (i : Nat) : Prop where
  le : i ≤ L.length
  lenF : F.length = xs.length
  lenL : L.length = ys.length
  fitF : ∀ o ∈ F, Fit o
  fitL : ∀ o ∈ L, Fit o
  eq : crossOut xs ys = putOut (L.take i) (crossOut F (L.drop i))
theorem boundF_len (xs : List Rg) : (boundF xs).1.length ≤ 32768 := by
  unfold boundF; split
  · simp
  · simp only; omega
theorem thrF_len (xs : List Rg) (at_ n : Int) : (thrF xs at_ n).1.length ≤ 32768 := by
  unfold thrF
  split
  · simp
  · split
    · simp
    · split
      · split
        · simp
        · exact boundF_len _
      · exact boundF_len _
theorem Fit.zero : Fit zeroOp := ⟨by decide, by decide, by decide, by decide⟩
theorem Fit.include {a b : GOp} (ha : Fit a) (hb : Fit b) (e : Bool) : Fit (includeF a b e).1 := by
  have h1 := widthF_le a
  have h2 := widthF_le b
  have h3 := hb.text
  have h4 := ha.lo
  have h5 := ha.hi
  unfold includeF
  split
  · exact Fit.zero
  · split
    · exact ha
    · split
      · split
        · unfold movedF
          split
          · exact Fit.zero
          · exact ⟨ha.text, by simp, by show _ ≤ a.at_ + widthF b; omega, by show a.at_ + widthF b ≤ _; omega⟩
        · exact ha
      · split
        · unfold rangedF
          split
          · exact Fit.zero
          · exact ⟨ha.text, by have := thrF_len a.rs b.at_ (widthF b); show (thrF a.rs b.at_ (widthF b)).1.length ≤ _; omega, ha.lo, ha.hi⟩
        · exact ha
theorem CiI.zero {l0 : GOp} {F0 : List GOp} (hF : ∀ o ∈ F0, Fit o) (hl : Fit l0) : CiI l0 F0 F0 l0 0 := ⟨Nat.zero_le _, rfl, hF, hl, by
  simp only [List.take_zero, List.drop_zero]; cases crossIn l0 F0 <;> rfl⟩
theorem CiI.err1 {l0 l : GOp} {F0 F : List GOp} {k : Nat} (h : CiI l0 F0 F l k) (hk : k < F.length) (h1 : (includeF l F[k] true).2 ≠ 0) : crossIn l0 F0 = .error (includeF l F[k] true).2 := by
  rw [h.eq, List.drop_eq_getElem_cons hk, crossIn_err1 h1]; rfl
theorem CiI.err2 {l0 l : GOp} {F0 F : List GOp} {k : Nat} (h : CiI l0 F0 F l k) (hk : k < F.length) (h1 : ¬ (includeF l F[k] true).2 ≠ 0) (h2 : (includeF F[k] l false).2 ≠ 0) : crossIn l0 F0 = .error (includeF F[k] l false).2 := by
  rw [h.eq, List.drop_eq_getElem_cons hk, crossIn_err2 h1 h2]; rfl
theorem CiI.next {l0 l : GOp} {F0 F : List GOp} {k : Nat} (h : CiI l0 F0 F l k) (hk : k < F.length) (h1 : ¬ (includeF l F[k] true).2 ≠ 0) (h2 : ¬ (includeF F[k] l false).2 ≠ 0) : CiI l0 F0 (F.set k (includeF F[k] l false).1) (includeF l F[k] true).1 (k + 1) := by
  have hfk : Fit F[k] := h.fit _ (List.getElem_mem hk)
  refine ⟨by simp; omega, by simp [h.len], fun o ho => ?_, h.fitl.include hfk _, ?_⟩
  · rcases List.mem_or_eq_of_mem_set ho with ho | rfl
    · exact h.fit o ho
    · exact hfk.include h.fitl _
  · rw [h.eq, List.drop_eq_getElem_cons hk, crossIn_ok h1 h2]
    have e1 : (F.set k (includeF F[k] l false).1).take (k + 1) = F.take k ++ [(includeF F[k] l false).1] := by
      rw [List.set_eq_take_append_cons_drop, if_pos hk, List.take_append]
      simp [List.length_take, List.take_take, Nat.min_eq_left (by omega : k ≤ F.length)]
    have e2 : (F.set k (includeF F[k] l false).1).drop (k + 1) = F.drop (k + 1) := by
      rw [List.drop_set_of_lt (by omega)]
    rw [e1, e2]
    cases crossIn (includeF l F[k] true).1 (F.drop (k + 1)) with
    | error e => rfl
    | ok r => simp [putIn]
theorem CiI.done {l0 l : GOp} {F0 F : List GOp} {k : Nat} (h : CiI l0 F0 F l k) (hk : ¬ k < F.length) : crossIn l0 F0 = .ok (l, F) := by
  have := h.le
  rw [h.eq, List.drop_eq_nil_of_le (by omega), List.take_of_length_le (by omega)]
  simp [crossIn, putIn]
theorem CoI.zero {xs ys : List GOp} (hx : ∀ o ∈ xs, Fit o) (hy : ∀ o ∈ ys, Fit o) : CoI xs ys xs ys 0 := ⟨Nat.zero_le _, rfl, rfl, hx, hy, by
  simp only [List.take_zero, List.drop_zero]; cases crossOut xs ys <;> rfl⟩
theorem CoI.err {xs ys F L : List GOp} {i : Nat} {e : Int} (h : CoI xs ys F L i) (hi : i < L.length) (h1 : crossIn L[i] F = .error e) : crossOut xs ys = .error e := by
  rw [h.eq, List.drop_eq_getElem_cons hi, crossOut_cons, h1]; rfl
theorem CoI.next {xs ys F L F' : List GOp} {i : Nat} {l' : GOp} (h : CoI xs ys F L i) (hi : i < L.length) (h1 : crossIn L[i] F = .ok (l', F')) (hlen : F'.length = F.length) (hF : ∀ o ∈ F', Fit o) (hl : Fit l') : CoI xs ys F' (L.set i l') (i + 1) := by
  refine ⟨by simp; omega, by rw [hlen, h.lenF], by simp [h.lenL], hF, fun o ho => ?_, ?_⟩
  · rcases List.mem_or_eq_of_mem_set ho with ho | rfl
    · exact h.fitL o ho
    · exact hl
  · rw [h.eq, List.drop_eq_getElem_cons hi, crossOut_cons, h1]
    have e1 : (L.set i l').take (i + 1) = L.take i ++ [l'] := by
      rw [List.set_eq_take_append_cons_drop, if_pos hi, List.take_append]
      simp [List.length_take, List.take_take, Nat.min_eq_left (by omega : i ≤ L.length)]
    have e2 : (L.set i l').drop (i + 1) = L.drop (i + 1) := by
      rw [List.drop_set_of_lt (by omega)]
    rw [e1, e2]
    unfold restOut
    simp only
    cases crossOut F' (L.drop (i + 1)) with
    | error e => rfl
    | ok r => simp [putOut]
theorem CoI.done {xs ys F L : List GOp} {i : Nat} (h : CoI xs ys F L i) (hi : ¬ i < L.length) : crossOut xs ys = .ok (F, L) := by
  have := h.le
  rw [h.eq, List.drop_eq_nil_of_le (by omega), List.take_of_length_le (by omega)]
  simp [crossOut, putOut]
/-- What an operation with an error answers. -/
def OpP (r : GOp × Int) : Value → List Part → List Fact → Prop := fun v Lo fs => ∃ (A' : Option Addr) (c' : Nat), v = .tuple #[opV r.1 A' c', .int .i64 r.2] ∧ Lo = [] ∧ fs = [RdF rgD A' c' r.1.rs]
def CrP (r : List GOp × List GOp × Int) : Value → List Part → List Fact → Prop := fun v Lo fs => ∃ (A1 : Option Addr) (c1 : Nat) (A2 : Option Addr) (c2 : Nat), v = .tuple #[.slice A1 r.1.length c1, .slice A2 r.2.1.length c2, .int .i64 r.2.2] ∧ Lo = [] ∧ fs = [RdF opD A1 c1 r.1, RdF opD A2 c2 r.2.1]
theorem crossF_1 {xs ys : List GOp} (h : ownsF xs ≠ 0) : crossF xs ys = ([], [], ownsF xs) := by unfold crossF; rw [if_pos h]
theorem crossF_2 {xs ys : List GOp} (h : ownsF xs = 0) (h2 : ownsF ys ≠ 0) : crossF xs ys = ([], [], ownsF ys) := by unfold crossF; rw [if_neg (by simpa using h), if_pos h2]
theorem crossF_3 {xs ys : List GOp} {e : Int} (h : ownsF xs = 0) (h2 : ownsF ys = 0) (h3 : crossOut xs ys = .error e) : crossF xs ys = ([], [], e) := by unfold crossF; rw [if_neg (by simpa using h), if_neg (by simpa using h2), h3]
theorem crossF_4 {xs ys a b : List GOp} (h : ownsF xs = 0) (h2 : ownsF ys = 0) (h3 : crossOut xs ys = .ok (a, b)) : crossF xs ys = (a, b, 0) := by unfold crossF; rw [if_neg (by simpa using h), if_neg (by simpa using h2), h3]
end Go.Proofs.YtggdddkbhigjoaaDoor
