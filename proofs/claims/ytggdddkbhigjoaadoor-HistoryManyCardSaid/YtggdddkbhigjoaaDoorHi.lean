/- Plain histories: what history's methods compute; how a history lies in memory. -/
import Derived.Test.YtggdddkbhigjoaaDoorXf
import Derived.Test.YtggdddkbhigjoaaDoorGwJ
set_option linter.unusedVariables false
namespace Go.Proofs.YtggdddkbhigjoaaDoor
open Go Go.GW
structure Ent where
  op : GOp
  now : List Rg
  off : Bool
structure Hist where
  ents : List Ent
  total : Int
def Hist.ops (H : Hist) : List GOp := H.ents.map (·.op)
structure Mark where
  c : Int
  n : Int
  num : Int
  now : List Rg
  off : Bool
def markAt (k : Nat) (e : Ent) : Mark := ⟨e.op.c, e.op.n, k, e.now, e.off⟩
def marksFrom : List Ent → Nat → List Mark
  | [], _ => []
  | e :: r, k => markAt k e :: marksFrom r (k + 1)
/-- A mark and where it lies. -/
structure MR where
  mark : Mark
  b : Nat
  A : Option Addr
  cap : Nat
def keys (L : List MR) : List MK := L.map fun x => ⟨x.mark.c, x.mark.n, x.b⟩
abbrev hdP (h : Nat) (A : Option Addr) (len cap m : Nat) (total : Int) : Part := [(h, cellsO [.slice A len cap, .map (some m), .int .i64 total] 97)]
abbrev mpP (m : Nat) (L : List MR) : Part := [(m, mapO (keys L))]
def mrO (x : MR) : Obj := cellsO [.int .i64 x.mark.num, .slice x.A x.mark.now.length x.cap, .bool x.mark.off] 101
def mkP (L : List MR) : Part := L.map fun x => (x.b, mrO x)
abbrev nowF (x : MR) : Fact := RdF rgD x.A x.cap x.mark.now
structure HR (H : Hist) (L : List MR) : Prop where
  perm : (L.map (·.mark)).Perm (marksFrom H.ents 0)
  ids : (H.ents.map fun e => (e.op.c, e.op.n)).Nodup
  fit : ∀ e ∈ H.ents, Fit e.op
  wid : ∀ e ∈ H.ents, widthF e.op ≤ 256
  now : ∀ e ∈ H.ents, e.now.length ≤ 4398046511104
  len : H.ents.length ≤ 1000000
  tot : 0 ≤ H.total ∧ H.total ≤ 1048576
/-- What a method that only looks answers. -/
def HIs (u : Value) (ps : List Part) : Value → List Part → List Fact → Prop := fun v Lo fs => v = u ∧ Lo = ps ∧ fs = []
theorem marksFrom_length : ∀ (l : List Ent) (k : Nat), (marksFrom l k).length = l.length
  | [], _ => rfl
  | e :: r, k => by simp [marksFrom, marksFrom_length r (k + 1)]
theorem marksFrom_get : ∀ (l : List Ent) (k j : Nat) (e : Ent), l[j]? = some e → (marksFrom l k)[j]? = some (markAt (k + j) e)
  | [], _, j, e, h => by simp at h
  | a :: r, k, 0, e, h => by simp at h; subst h; simp [marksFrom]
  | a :: r, k, j + 1, e, h => by
    have := marksFrom_get r (k + 1) j e (by simpa using h)
    simp only [marksFrom, List.getElem?_cons_succ, this]
    congr 2; omega
theorem marksFrom_mem : ∀ {l : List Ent} {k : Nat} {x : Mark}, x ∈ marksFrom l k → ∃ j e, l[j]? = some e ∧ x = markAt (k + j) e
  | [], _, x, h => by cases h
  | a :: r, k, x, h => by
    unfold marksFrom at h
    rcases List.mem_cons.1 h with rfl | h
    · exact ⟨0, a, by simp, rfl⟩
    · obtain ⟨j, e, h1, h2⟩ := marksFrom_mem h
      exact ⟨j + 1, e, by simpa using h1, by rw [h2]; congr 1; omega⟩
theorem marksFrom_ids : ∀ (l : List Ent) (k : Nat), (marksFrom l k).map (fun x => (x.c, x.n)) = l.map fun e => (e.op.c, e.op.n)
  | [], _ => rfl
  | a :: r, k => by simp [marksFrom, markAt, marksFrom_ids r (k + 1)]
theorem keys_get {L : List MR} {j : Nat} {x : MR} (h : L[j]? = some x) : (keys L)[j]? = some ⟨x.mark.c, x.mark.n, x.b⟩ := by simp [keys, h]
theorem mkP_get {L : List MR} {j : Nat} {x : MR} (h : L[j]? = some x) : (mkP L)[j]? = some (x.b, mrO x) := by simp [mkP, h]
theorem mkP_mem {L : List MR} {j : Nat} {x : MR} (h : L[j]? = some x) : (x.b, mrO x) ∈ mkP L := List.mem_of_getElem? (mkP_get h)
theorem mGet_of : ∀ {L : List MR} {x : MR}, (L.map fun x => (x.mark.c, x.mark.n)).Nodup → x ∈ L → mGet (keys L) x.mark.c x.mark.n = some x.b
  | [], x, _, h => by cases h
  | y :: L, x, hn, h => by
    simp only [List.map_cons, List.nodup_cons] at hn
    unfold keys
    simp only [List.map_cons, mGet]
    rcases List.mem_cons.1 h with rfl | h
    · simp
    · rw [if_neg]
      · exact mGet_of hn.2 h
      · intro e
        exact hn.1 (List.mem_map.2 ⟨x, h, by rw [e.1, e.2]⟩)
theorem mGet_some : ∀ {L : List MR} {c n : Int} {b : Nat}, mGet (keys L) c n = some b → ∃ (j : Nat) (x : MR), L[j]? = some x ∧ x.mark.c = c ∧ x.mark.n = n ∧ x.b = b
  | [], c, n, b, h => by simp [keys, mGet] at h
  | y :: L, c, n, b, h => by
    unfold keys at h
    simp only [List.map_cons, mGet] at h
    split at h
    · rename_i e; exact ⟨0, y, by simp, e.1.symm, e.2.symm, Option.some.inj h⟩
    · obtain ⟨j, x, h1, h2⟩ := mGet_some (L := L) h
      exact ⟨j + 1, x, by simpa using h1, h2⟩
theorem HR.nodup {H : Hist} {L : List MR} (h : HR H L) : (L.map fun x => (x.mark.c, x.mark.n)).Nodup := by
  have h1 : (L.map fun x => (x.mark.c, x.mark.n)) = (L.map (·.mark)).map fun x => (x.c, x.n) := by simp [List.map_map, Function.comp_def]
  rw [h1, (h.perm.map _).nodup_iff, marksFrom_ids]
  exact h.ids
theorem HR.look {H : Hist} {L : List MR} (h : HR H L) {k : Nat} (hk : k < H.ents.length) : ∃ (j : Nat) (x : MR), L[j]? = some x ∧ x.mark = markAt k H.ents[k] ∧ mGet (keys L) H.ents[k].op.c H.ents[k].op.n = some x.b := by
  have h1 := marksFrom_get H.ents 0 k _ (List.getElem?_eq_getElem hk)
  have h2 := (h.perm.mem_iff).2 (List.mem_of_getElem? h1)
  obtain ⟨x, hx, hm⟩ := List.mem_map.1 h2
  obtain ⟨j, hj, rfl⟩ := List.mem_iff_getElem.1 hx
  rw [Nat.zero_add] at hm
  refine ⟨j, L[j], List.getElem?_eq_getElem hj, hm, ?_⟩
  have := mGet_of h.nodup hx
  rw [hm] at this
  exact this
/-- Where the command of an id stands. -/
def whereId (l : List Ent) (c n : Int) : Option Nat := l.findIdx? fun e => decide (c = e.op.c) && decide (n = e.op.n)
theorem whereId_some {l : List Ent} {c n : Int} {k : Nat} (h : whereId l c n = some k) : ∃ hk : k < l.length, l[k].op.c = c ∧ l[k].op.n = n := by
  obtain ⟨hk, h1, _⟩ := List.findIdx?_eq_some_iff_getElem.1 h
  simp at h1
  exact ⟨hk, h1.1.symm, h1.2.symm⟩
theorem whereId_none {l : List Ent} {c n : Int} (h : whereId l c n = none) : ∀ e ∈ l, ¬ (e.op.c = c ∧ e.op.n = n) := fun e he hh => by
  have := List.findIdx?_eq_none_iff.1 h e he
  simp [hh.1, hh.2] at this
theorem HR.look0 {H : Hist} {L : List MR} (h : HR H L) {c n : Int} (hn : whereId H.ents c n = none) : mGet (keys L) c n = none := by
  cases hg : mGet (keys L) c n with
  | none => rfl
  | some b =>
    obtain ⟨j, x, h1, h2, h3, _⟩ := mGet_some hg
    have h4 := (h.perm.mem_iff).1 (List.mem_map.2 ⟨x, List.mem_of_getElem? h1, rfl⟩)
    obtain ⟨k, e, h5, h6⟩ := marksFrom_mem h4
    have h7 := whereId_none hn e (List.mem_of_getElem? h5)
    rw [h6] at h2 h3
    exact absurd ⟨h2, h3⟩ h7
theorem HR.look1 {H : Hist} {L : List MR} (h : HR H L) {c n : Int} {k : Nat} (hn : whereId H.ents c n = some k) : ∃ (hk : k < H.ents.length) (j : Nat) (x : MR), H.ents[k].op.c = c ∧ H.ents[k].op.n = n ∧ L[j]? = some x ∧ x.mark = markAt k H.ents[k] ∧ mGet (keys L) c n = some x.b := by
  obtain ⟨hk, rfl, rfl⟩ := whereId_some hn
  obtain ⟨j, x, h1, h2, h3⟩ := h.look hk
  exact ⟨hk, j, x, rfl, rfl, h1, h2, h3⟩
def sumW : List Ent → Int
  | [] => 0
  | e :: r => widthF e.op + sumW r
theorem sumW_append : ∀ (a b : List Ent), sumW (a ++ b) = sumW a + sumW b
  | [], b => by simp [sumW]
  | e :: a, b => by simp [sumW, sumW_append a b]; omega
theorem sumW_le : ∀ (l : List Ent), (∀ e ∈ l, widthF e.op ≤ 256) → 0 ≤ sumW l ∧ sumW l ≤ 256 * l.length
  | [], _ => by simp [sumW]
  | e :: r, h => by
    have h1 := sumW_le r fun x hx => h x (List.mem_cons_of_mem _ hx)
    have h2 := h e List.mem_cons_self
    have h3 := widthF_le e.op
    simp only [sumW, List.length_cons]
    omega
def beforeF (H : Hist) (i : Nat) : Int := sumW (H.ents.take i)
def fitsRest (H : Hist) (o : GOp) : Int := if H.total + widthF o > 1048576 then 24 else 0
def fitsT (H : Hist) (i : Int) (o : GOp) : Int :=
  match whereId H.ents o.tc o.tn with
  | none => 60
  | some k => if (k : Int) ≥ i then 60 else match H.ents[k]? with
    | some e => if e.op.kind = 4 then 63 else fitsRest H o
    | none => 60
def fitsF (H : Hist) (i : Int) (o : GOp) : Int :=
  if i < 0 ∨ i > H.ents.length then 12
  else if checkF o (beforeF H i.toNat) ≠ 0 then checkF o (beforeF H i.toNat)
  else if o.kind = 3 then 40
  else if o.c = 0 ∧ o.n = 0 then 41
  else if (whereId H.ents o.c o.n).isSome then 61
  else if o.kind = 4 then fitsT H i o
  else fitsRest H o
def movedAll : List Ent → Int → Int → Except Int (List (List Rg))
  | [], _, _ => .ok []
  | e :: r, at_, n => if (thrF e.now at_ n).2 ≠ 0 then .error (thrF e.now at_ n).2 else match movedAll r at_ n with
    | .error x => .error x
    | .ok ls => .ok ((thrF e.now at_ n).1 :: ls)
def turnF (e : Ent) (on : Bool) : GOp := { zeroOp with kind := if (decide (e.op.kind = 2) == on) = true then 2 else 3, rs := e.now }
def laterT (l : List Ent) (c n : Int) : Bool := l.any fun e => decide (e.op.kind = 4) && (decide (e.op.tc = c) && decide (e.op.tn = n))
def offE (e : Ent) (b : Bool) : Ent := ⟨e.op, e.now, b⟩
def turnedF (H : Hist) (i : Nat) (o : GOp) : List Ent × GOp :=
  if laterT (H.ents.drop i) o.tc o.tn = true then (H.ents, zeroOp)
  else match whereId H.ents o.tc o.tn with
    | none => (H.ents, zeroOp)
    | some k => match H.ents[k]? with
      | none => (H.ents, zeroOp)
      | some e => if e.off = !o.on then (H.ents, zeroOp) else (H.ents.set k (offE e (!o.on)), turnF e o.on)
/-! One entry is turned into another one. -/
theorem erase_perm {α : Type} : ∀ {l : List α} {n : Nat} (h : n < l.length), (l[n] :: l.eraseIdx n).Perm l
  | [], n, h => by simp at h
  | a :: l, 0, h => by simp
  | a :: l, n + 1, h => by
    have h' : n < l.length := by simpa using h
    simp only [List.getElem_cons_succ, List.eraseIdx_cons_succ]
    exact (List.Perm.swap a l[n] _).trans ((erase_perm h').cons a)
theorem set_perm_cons {α : Type} : ∀ {l : List α} {n : Nat} (h : n < l.length) (b : α), (l.set n b).Perm (b :: l.eraseIdx n)
  | [], n, h, b => by simp at h
  | a :: l, 0, h, b => by simp
  | a :: l, n + 1, h, b => by
    have h' : n < l.length := by simpa using h
    simp only [List.set_cons_succ, List.eraseIdx_cons_succ]
    exact ((set_perm_cons h' b).cons a).trans (List.Perm.swap b a _)
theorem set_perm {α : Type} {l M : List α} {j k : Nat} {a : α} (h : l.Perm M) (hj : l[j]? = some a) (hk : M[k]? = some a) (b : α) : (l.set j b).Perm (M.set k b) := by
  have hjl : j < l.length := by
    rcases Nat.lt_or_ge j l.length with h | h
    · exact h
    · rw [List.getElem?_eq_none h] at hj; cases hj
  have hkl : k < M.length := by
    rcases Nat.lt_or_ge k M.length with h | h
    · exact h
    · rw [List.getElem?_eq_none h] at hk; cases hk
  have e1 : l[j] = a := by rw [List.getElem?_eq_getElem hjl] at hj; exact Option.some.inj hj
  have e2 : M[k] = a := by rw [List.getElem?_eq_getElem hkl] at hk; exact Option.some.inj hk
  have h1 : (a :: l.eraseIdx j).Perm (a :: M.eraseIdx k) := by
    have p1 := erase_perm hjl
    have p2 := erase_perm hkl
    rw [e1] at p1; rw [e2] at p2
    exact (p1.trans h).trans p2.symm
  have h2 := h1.cons_inv
  exact ((set_perm_cons hjl b).trans (h2.cons b)).trans (set_perm_cons hkl b).symm
theorem marksFrom_set : ∀ (l : List Ent) (k j : Nat) (e : Ent), j < l.length → marksFrom (l.set j e) k = (marksFrom l k).set j (markAt (k + j) e)
  | [], _, j, e, h => by simp at h
  | a :: r, k, 0, e, h => by simp [marksFrom]
  | a :: r, k, j + 1, e, h => by
    have := marksFrom_set r (k + 1) j e (by simpa using h)
    simp only [marksFrom, List.set_cons_succ, this]
    congr 2; congr 1; omega
theorem HR.upd {H : Hist} {L : List MR} (h : HR H L) {k j : Nat} (hk : k < H.ents.length) {x : MR} (hj : L[j]? = some x) (hm : x.mark = markAt k H.ents[k]) (e' : Ent) (he : e'.op = H.ents[k].op) (hn : e'.now.length ≤ 4398046511104) (A' : Option Addr) (c' : Nat) :
    HR ⟨H.ents.set k e', H.total⟩ (L.set j ⟨markAt k e', x.b, A', c'⟩) := by
  have hjl : j < L.length := by
    rcases Nat.lt_or_ge j L.length with h | h
    · exact h
    · rw [List.getElem?_eq_none h] at hj; cases hj
  refine ⟨?_, ?_, ?_, ?_, ?_, by simpa using h.len, h.tot⟩
  · rw [List.map_set, marksFrom_set _ _ _ _ hk, Nat.zero_add]
    refine set_perm h.perm (a := markAt k H.ents[k]) ?_ ?_ _
    · rw [List.getElem?_map, hj]; simp [hm]
    · have := marksFrom_get H.ents 0 k _ (List.getElem?_eq_getElem hk)
      rwa [Nat.zero_add] at this
  · have : ((H.ents.set k e').map fun e => (e.op.c, e.op.n)) = H.ents.map fun e => (e.op.c, e.op.n) := by
      rw [List.map_set, he]
      apply List.ext_getElem
      · simp
      · intro i h1 h2
        rw [List.getElem_set]
        split
        · rename_i e; subst e; simp
        · rfl
    show ((H.ents.set k e').map fun e => (e.op.c, e.op.n)).Nodup
    rw [this]; exact h.ids
  · intro e hmem
    rcases List.mem_or_eq_of_mem_set hmem with hmem | rfl
    · exact h.fit e hmem
    · rw [he]; exact h.fit _ (List.getElem_mem hk)
  · intro e hmem
    rcases List.mem_or_eq_of_mem_set hmem with hmem | rfl
    · exact h.wid e hmem
    · rw [he]; exact h.wid _ (List.getElem_mem hk)
  · intro e hmem
    rcases List.mem_or_eq_of_mem_set hmem with hmem | rfl
    · exact h.now e hmem
    · exact hn
theorem keys_set {L : List MR} {j : Nat} {x y : MR} (hj : L[j]? = some x) (h1 : y.mark.c = x.mark.c) (h2 : y.mark.n = x.mark.n) (h3 : y.b = x.b) : keys (L.set j y) = keys L := by
  have hjl : j < L.length := by
    rcases Nat.lt_or_ge j L.length with h | h
    · exact h
    · rw [List.getElem?_eq_none h] at hj; cases hj
  have e1 : L[j] = x := by rw [List.getElem?_eq_getElem hjl] at hj; exact Option.some.inj hj
  unfold keys
  rw [List.map_set, h1, h2, h3, ← e1]
  apply List.ext_getElem
  · simp
  · intro i g1 g2
    rw [List.getElem_set]
    split
    · rename_i e; subst e; simp
    · rfl
theorem mkP_set (L : List MR) (j : Nat) (y : MR) : mkP (L.set j y) = (mkP L).set j (y.b, mrO y) := by unfold mkP; rw [List.map_set]
theorem now_set {L : List MR} {j : Nat} {y : MR} {Z : Nat → Prop} {w : World} (h : (AllF L nowF).holds Z w) (hy : (nowF y).holds Z w) : (AllF (L.set j y) nowF).holds Z w := fun x hx => by
  rcases List.mem_or_eq_of_mem_set hx with hx | rfl
  · exact h x hx
  · exact hy
theorem hops_set {H : Hist} {k : Nat} (hk : k < H.ents.length) (e' : Ent) (he : e'.op = H.ents[k].op) (t : Int) : (⟨H.ents.set k e', t⟩ : Hist).ops = H.ops := by
  unfold Hist.ops
  simp only [List.map_set, he]
  apply List.ext_getElem
  · simp
  · intro i h1 h2
    rw [List.getElem_set]
    split
    · rename_i e; subst e; simp
    · rfl
end Go.Proofs.YtggdddkbhigjoaaDoor
