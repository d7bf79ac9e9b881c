/- Plain histories: Put. -/
import Derived.Test.YtggdddkbhigjoaaDoorHi
set_option linter.unusedVariables false
namespace Go.Proofs.YtggdddkbhigjoaaDoor
open Go Go.GW
/-- What carrying leaves of an operation. -/
structure Same (a b : GOp) : Prop where
  c : b.c = a.c
  n : b.n = a.n
  kind : b.kind = a.kind
  text : b.text = a.text
  tc : b.tc = a.tc
  tn : b.tn = a.tn
  on : b.on = a.on
inductive Sames : List GOp → List GOp → Prop
  | nil : Sames [] []
  | cons {a b : GOp} {l m : List GOp} (h : Same a b) (hr : Sames l m) : Sames (a :: l) (b :: m)
theorem Same.refl (a : GOp) : Same a a := ⟨rfl, rfl, rfl, rfl, rfl, rfl, rfl⟩
theorem Same.trans {a b c : GOp} (h : Same a b) (k : Same b c) : Same a c := ⟨k.c.trans h.c, k.n.trans h.n, k.kind.trans h.kind, k.text.trans h.text, k.tc.trans h.tc, k.tn.trans h.tn, k.on.trans h.on⟩
theorem Same.width {a b : GOp} (h : Same a b) : widthF b = widthF a := by unfold widthF; rw [h.kind, h.text]
theorem Sames.refl : ∀ l, Sames l l
  | [] => .nil
  | a :: l => .cons (Same.refl a) (Sames.refl l)
theorem Sames.trans : ∀ {a b c : List GOp}, Sames a b → Sames b c → Sames a c
  | _, _, _, .nil, .nil => .nil
  | _, _, _, .cons h r, .cons k s => .cons (h.trans k) (r.trans s)
theorem Sames.length {a b : List GOp} (h : Sames a b) : b.length = a.length := by
  induction h with
  | nil => rfl
  | cons _ _ ih => simp [ih]
theorem Sames.get {a b : List GOp} (h : Sames a b) : ∀ (k : Nat) (hk : k < a.length) (hk' : k < b.length), Same a[k] b[k] := by
  induction h with
  | nil => intro k hk; simp at hk
  | cons h _ ih =>
    intro k hk hk'
    cases k with
    | zero => exact h
    | succ k => exact ih k (by simpa using hk) (by simpa using hk')
theorem include_same {a b : GOp} {e : Bool} (h : (includeF a b e).2 = 0) : Same a (includeF a b e).1 := by
  unfold includeF at h ⊢
  split at h
  · cases h
  · rename_i h1
    rw [if_neg h1]
    split at h
    · rename_i h2; rw [if_pos h2]; exact Same.refl a
    · rename_i h2
      rw [if_neg h2]
      split at h
      · rename_i h3
        rw [if_pos h3]
        split at h
        · rename_i h4
          rw [if_pos h4]
          unfold movedF at h ⊢
          split at h
          · cases h
          · rename_i h5; rw [if_neg h5]; exact ⟨rfl, rfl, rfl, rfl, rfl, rfl, rfl⟩
        · rename_i h4; rw [if_neg h4]; exact Same.refl a
      · rename_i h3
        rw [if_neg h3]
        split at h
        · rename_i h4
          rw [if_pos h4]
          unfold rangedF at h ⊢
          split at h
          · rename_i h5; exact absurd h h5
          · rename_i h5; rw [if_neg h5]; exact ⟨rfl, rfl, rfl, rfl, rfl, rfl, rfl⟩
        · rename_i h4; rw [if_neg h4]; exact Same.refl a
theorem crossIn_same : ∀ {fs : List GOp} {l l' : GOp} {fs' : List GOp}, crossIn l fs = .ok (l', fs') → Same l l' ∧ Sames fs fs'
  | [], l, l', fs', h => by
    simp only [crossIn, Except.ok.injEq, Prod.mk.injEq] at h
    obtain ⟨rfl, rfl⟩ := h
    exact ⟨Same.refl _, .nil⟩
  | f :: fs, l, l', fs', h => by
    by_cases h1 : (includeF l f true).2 ≠ 0
    · rw [crossIn_err1 h1] at h; cases h
    · by_cases h2 : (includeF f l false).2 ≠ 0
      · rw [crossIn_err2 h1 h2] at h; cases h
      · rw [crossIn_ok h1 h2] at h
        cases hq : crossIn (includeF l f true).1 fs with
        | error e => rw [hq] at h; cases h
        | ok r =>
          obtain ⟨x, y⟩ := r
          rw [hq] at h
          simp only [putIn, Except.ok.injEq, Prod.mk.injEq] at h
          obtain ⟨rfl, rfl⟩ := h
          obtain ⟨k1, k2⟩ := crossIn_same hq
          exact ⟨(include_same (by simpa using h1)).trans k1, .cons (include_same (by simpa using h2)) k2⟩
theorem crossOut_same : ∀ {ls fs a b : List GOp}, crossOut fs ls = .ok (a, b) → Sames fs a ∧ Sames ls b
  | [], fs, a, b, h => by
    simp only [crossOut, Except.ok.injEq, Prod.mk.injEq] at h
    obtain ⟨rfl, rfl⟩ := h
    exact ⟨Sames.refl _, .nil⟩
  | l :: ls, fs, a, b, h => by
    rw [crossOut_cons] at h
    cases hq : crossIn l fs with
    | error e => rw [hq] at h; cases h
    | ok r =>
      obtain ⟨l', fs'⟩ := r
      rw [hq] at h
      unfold restOut at h
      simp only at h
      cases hq2 : crossOut fs' ls with
      | error e => rw [hq2] at h; cases h
      | ok r2 =>
        obtain ⟨x, y⟩ := r2
        rw [hq2] at h
        simp only [Except.ok.injEq, Prod.mk.injEq] at h
        obtain ⟨rfl, rfl⟩ := h
        obtain ⟨k1, k2⟩ := crossIn_same hq
        obtain ⟨k3, k4⟩ := crossOut_same hq2
        exact ⟨k2.trans k3, .cons k1 k4⟩
theorem crossIn_ne : ∀ {fs : List GOp} {l : GOp} {e : Int}, crossIn l fs = .error e → e ≠ 0
  | [], l, e, h => by simp [crossIn] at h
  | f :: fs, l, e, h => by
    by_cases h1 : (includeF l f true).2 ≠ 0
    · rw [crossIn_err1 h1] at h; cases h; exact h1
    · by_cases h2 : (includeF f l false).2 ≠ 0
      · rw [crossIn_err2 h1 h2] at h; cases h; exact h2
      · rw [crossIn_ok h1 h2] at h
        cases hq : crossIn (includeF l f true).1 fs with
        | error e' => rw [hq] at h; cases h; exact crossIn_ne hq
        | ok r => rw [hq] at h; obtain ⟨a, b⟩ := r; cases h
theorem crossOut_ne : ∀ {ls fs : List GOp} {e : Int}, crossOut fs ls = .error e → e ≠ 0
  | [], fs, e, h => by simp [crossOut] at h
  | l :: ls, fs, e, h => by
    rw [crossOut_cons] at h
    cases hq : crossIn l fs with
    | error e' => rw [hq] at h; cases h; exact crossIn_ne hq
    | ok r =>
      obtain ⟨l', fs'⟩ := r
      rw [hq] at h
      unfold restOut at h
      simp only at h
      cases hq2 : crossOut fs' ls with
      | error e' => rw [hq2] at h; cases h; exact crossOut_ne hq2
      | ok r2 => rw [hq2] at h; obtain ⟨a, b⟩ := r2; cases h
theorem crossIn_fit : ∀ {fs : List GOp} {l l' : GOp} {fs' : List GOp}, Fit l → (∀ o ∈ fs, Fit o) → crossIn l fs = .ok (l', fs') → Fit l' ∧ ∀ o ∈ fs', Fit o
  | [], l, l', fs', hl, hf, h => by
    simp only [crossIn, Except.ok.injEq, Prod.mk.injEq] at h
    obtain ⟨rfl, rfl⟩ := h
    exact ⟨hl, hf⟩
  | f :: fs, l, l', fs', hl, hf, h => by
    have hff := hf f List.mem_cons_self
    by_cases h1 : (includeF l f true).2 ≠ 0
    · rw [crossIn_err1 h1] at h; cases h
    · by_cases h2 : (includeF f l false).2 ≠ 0
      · rw [crossIn_err2 h1 h2] at h; cases h
      · rw [crossIn_ok h1 h2] at h
        cases hq : crossIn (includeF l f true).1 fs with
        | error e => rw [hq] at h; cases h
        | ok r =>
          obtain ⟨x, y⟩ := r
          rw [hq] at h
          simp only [putIn, Except.ok.injEq, Prod.mk.injEq] at h
          obtain ⟨rfl, rfl⟩ := h
          obtain ⟨k1, k2⟩ := crossIn_fit (hl.include hff true) (fun o ho => hf o (List.mem_cons_of_mem _ ho)) hq
          refine ⟨k1, fun o ho => ?_⟩
          rcases List.mem_cons.1 ho with rfl | ho
          · exact hff.include hl false
          · exact k2 o ho
theorem crossOut_fit : ∀ {ls fs a b : List GOp}, (∀ o ∈ fs, Fit o) → (∀ o ∈ ls, Fit o) → crossOut fs ls = .ok (a, b) → (∀ o ∈ a, Fit o) ∧ ∀ o ∈ b, Fit o
  | [], fs, a, b, hf, hl, h => by
    simp only [crossOut, Except.ok.injEq, Prod.mk.injEq] at h
    obtain ⟨rfl, rfl⟩ := h
    exact ⟨hf, hl⟩
  | l :: ls, fs, a, b, hf, hl, h => by
    rw [crossOut_cons] at h
    cases hq : crossIn l fs with
    | error e => rw [hq] at h; cases h
    | ok r =>
      obtain ⟨l', fs'⟩ := r
      rw [hq] at h
      unfold restOut at h
      simp only at h
      cases hq2 : crossOut fs' ls with
      | error e => rw [hq2] at h; cases h
      | ok r2 =>
        obtain ⟨x, y⟩ := r2
        rw [hq2] at h
        simp only [Except.ok.injEq, Prod.mk.injEq] at h
        obtain ⟨rfl, rfl⟩ := h
        obtain ⟨k1, k2⟩ := crossIn_fit (hl l List.mem_cons_self) hf hq
        obtain ⟨k3, k4⟩ := crossOut_fit k2 (fun o ho => hl o (List.mem_cons_of_mem _ ho)) hq2
        refine ⟨k3, fun o ho => ?_⟩
        rcases List.mem_cons.1 ho with rfl | ho
        · exact k1
        · exact k4 o ho
theorem crossF_fit {xs ys : List GOp} (hx : ∀ o ∈ xs, Fit o) (hy : ∀ o ∈ ys, Fit o) : (∀ o ∈ (crossF xs ys).1, Fit o) ∧ ∀ o ∈ (crossF xs ys).2.1, Fit o := by
  have h0 : ∀ e : Int, (∀ o ∈ (([], [], e) : List GOp × List GOp × Int).1, Fit o) ∧ ∀ o ∈ (([], [], e) : List GOp × List GOp × Int).2.1, Fit o := fun e => ⟨fun o h => by simp at h, fun o h => by simp at h⟩
  by_cases h1 : ownsF xs ≠ 0
  · rw [crossF_1 h1]; exact h0 _
  · by_cases h2 : ownsF ys ≠ 0
    · rw [crossF_2 (by simpa using h1) h2]; exact h0 _
    · cases hq : crossOut xs ys with
      | error e => rw [crossF_3 (by simpa using h1) (by simpa using h2) hq]; exact h0 _
      | ok r =>
        obtain ⟨a, b⟩ := r
        rw [crossF_4 (by simpa using h1) (by simpa using h2) hq]
        exact crossOut_fit hx hy hq
theorem crossF_same {xs ys : List GOp} (h : (crossF xs ys).2.2 = 0) : Sames xs (crossF xs ys).1 ∧ Sames ys (crossF xs ys).2.1 := by
  unfold crossF at h ⊢
  split at h
  · rename_i h1; exact absurd h h1
  · rename_i h1
    rw [if_neg h1]
    split at h
    · rename_i h2; exact absurd h h2
    · rename_i h2
      rw [if_neg h2]
      cases hq : crossOut xs ys with
      | error e => rw [hq] at h; simp only at h; exact absurd h (crossOut_ne hq)
      | ok r => obtain ⟨a, b⟩ := r; exact crossOut_same hq
/-! ### Put -/
/-- The later commands, carried, with the places and flags that they have. -/
def zipE : List GOp → List Ent → List Ent
  | x :: xs, e :: es => ⟨x, e.now, e.off⟩ :: zipE xs es
  | _, _ => []
def newEnts (i : Nat) (o : GOp) (now : List Rg) (es : List Ent) (later : List GOp) : List Ent := es.take i ++ ⟨o, now, false⟩ :: zipE later (es.drop i)
/-- The first k places are new ones. -/
def setNow : List Ent → List (List Rg) → Nat → List Ent
  | e :: es, l :: ls, k + 1 => ⟨e.op, l, e.off⟩ :: setNow es ls k
  | es, _, _ => es
def effF (o : GOp) : GOp := { zeroOp with kind := o.kind }
structure Mid where
  es : List Ent
  now : List Rg
  eff : GOp
/-- What stands when the history has not grown yet. -/
def midF (H : Hist) (i : Nat) (o t : GOp) : Except Int Mid :=
  if o.kind = 1 then match movedAll H.ents t.at_ (widthF o) with
    | .error e => .error e
    | .ok ls => .ok ⟨setNow H.ents ls H.ents.length, [⟨t.at_, t.at_ + widthF o⟩], { effF o with at_ := t.at_, text := o.text }⟩
  else if o.kind = 2 then .ok ⟨H.ents, t.rs, { effF o with rs := t.rs }⟩
  else if o.kind = 4 then .ok ⟨(turnedF H i o).1, [], (turnedF H i o).2⟩
  else .ok ⟨H.ents, [], effF o⟩
def putF (H : Hist) (i : Int) (o : GOp) : Hist × GOp × Int :=
  if fitsF H i o ≠ 0 then (H, zeroOp, fitsF H i o)
  else if (crossF [o] (H.ops.drop i.toNat)).2.2 ≠ 0 then (H, zeroOp, (crossF [o] (H.ops.drop i.toNat)).2.2)
  else match midF H i.toNat o ((crossF [o] (H.ops.drop i.toNat)).1.headD zeroOp) with
    | .error e => (H, zeroOp, e)
    | .ok m => (⟨newEnts i.toNat o m.now m.es (crossF [o] (H.ops.drop i.toNat)).2.1, H.total + widthF o⟩, m.eff, 0)
theorem zipE_ops : ∀ (xs : List GOp) (es : List Ent), xs.length = es.length → (zipE xs es).map (·.op) = xs
  | [], [], _ => rfl
  | x :: xs, e :: es, h => by simp [zipE, zipE_ops xs es (by simpa using h)]
theorem zipE_length : ∀ (xs : List GOp) (es : List Ent), xs.length = es.length → (zipE xs es).length = es.length
  | [], [], _ => rfl
  | x :: xs, e :: es, h => by simp [zipE, zipE_length xs es (by simpa using h)]
theorem zipE_get : ∀ (xs : List GOp) (es : List Ent) (k : Nat) (h1 : k < xs.length) (h2 : k < es.length), (zipE xs es)[k]? = some ⟨xs[k], es[k].now, es[k].off⟩
  | x :: xs, e :: es, 0, _, _ => rfl
  | x :: xs, e :: es, k + 1, h1, h2 => by
    have := zipE_get xs es k (by simpa using h1) (by simpa using h2)
    simpa [zipE] using this
theorem setNow_length : ∀ (es : List Ent) (ls : List (List Rg)) (k : Nat), (setNow es ls k).length = es.length
  | [], _, _ => by simp [setNow]
  | e :: es, [], k => by simp [setNow]
  | e :: es, l :: ls, 0 => by simp [setNow]
  | e :: es, l :: ls, k + 1 => by simp [setNow, setNow_length es ls k]
theorem setNow_ops : ∀ (es : List Ent) (ls : List (List Rg)) (k : Nat), (setNow es ls k).map (·.op) = es.map (·.op)
  | [], _, _ => by simp [setNow]
  | e :: es, [], k => by simp [setNow]
  | e :: es, l :: ls, 0 => by simp [setNow]
  | e :: es, l :: ls, k + 1 => by simp [setNow, setNow_ops es ls k]
theorem setNow_zero (es : List Ent) (ls : List (List Rg)) : setNow es ls 0 = es := by cases es <;> cases ls <;> rfl
theorem setNow_get : ∀ (es : List Ent) (ls : List (List Rg)) (k : Nat) (h : k < es.length), (setNow es ls k)[k]? = some es[k]
  | e :: es, [], k, h => by simp only [setNow]; exact List.getElem?_eq_getElem h
  | e :: es, l :: ls, 0, _ => by simp [setNow]
  | e :: es, l :: ls, k + 1, h => by simpa [setNow] using setNow_get es ls k (by simpa using h)
theorem setNow_succ : ∀ (es : List Ent) (ls : List (List Rg)) (k : Nat) (h : k < es.length) (h2 : k < ls.length), setNow es ls (k + 1) = (setNow es ls k).set k ⟨es[k].op, ls[k], es[k].off⟩
  | e :: es, l :: ls, 0, _, _ => by simp [setNow, setNow_zero]
  | e :: es, l :: ls, k + 1, h, h2 => by
    have := setNow_succ es ls k (by simpa using h) (by simpa using h2)
    simp only [setNow, List.set_cons_succ, List.getElem_cons_succ]
    rw [← this]
theorem movedAll_length : ∀ {es : List Ent} {at_ n : Int} {ls : List (List Rg)}, movedAll es at_ n = .ok ls → ls.length = es.length
  | [], _, _, ls, h => by simp only [movedAll, Except.ok.injEq] at h; subst h; rfl
  | e :: es, at_, n, ls, h => by
    unfold movedAll at h
    split at h
    · cases h
    · cases hq : movedAll es at_ n with
      | error x => rw [hq] at h; cases h
      | ok l => rw [hq] at h; simp only [Except.ok.injEq] at h; subst h; simp [movedAll_length hq]
theorem movedAll_le : ∀ {es : List Ent} {at_ n : Int} {ls : List (List Rg)}, movedAll es at_ n = .ok ls → ∀ l ∈ ls, l.length ≤ 32768
  | [], _, _, ls, h, l, hl => by simp only [movedAll, Except.ok.injEq] at h; subst h; cases hl
  | e :: es, at_, n, ls, h, l, hl => by
    unfold movedAll at h
    split at h
    · cases h
    · cases hq : movedAll es at_ n with
      | error x => rw [hq] at h; cases h
      | ok r =>
        rw [hq] at h; simp only [Except.ok.injEq] at h; subst h
        rcases List.mem_cons.1 hl with rfl | hl
        · exact thrF_len _ _ _
        · exact movedAll_le hq l hl
/-! ### Marks whose numbers are not right yet -/
def marksG : List Ent → (Nat → Nat) → Nat → List Mark
  | [], _, _ => []
  | e :: r, f, j => markAt (f j) e :: marksG r f (j + 1)
theorem marksG_id : ∀ (l : List Ent) (k : Nat), marksG l (fun j => j) k = marksFrom l k
  | [], _ => rfl
  | e :: r, k => by simp [marksG, marksFrom, marksG_id r (k + 1)]
theorem marksG_congr : ∀ (l : List Ent) (f g : Nat → Nat) (k : Nat), (∀ j, j < l.length → f (k + j) = g (k + j)) → marksG l f k = marksG l g k
  | [], _, _, _, _ => rfl
  | e :: r, f, g, k, h => by
    have h0 := h 0 (by simp)
    simp only [Nat.add_zero] at h0
    simp only [marksG, h0]
    rw [marksG_congr r f g (k + 1) fun j hj => by have := h (j + 1) (by simpa using hj); rw [show k + 1 + j = k + (j + 1) from by omega]; exact this]
theorem marksG_append : ∀ (a b : List Ent) (f : Nat → Nat) (k : Nat), marksG (a ++ b) f k = marksG a f k ++ marksG b f (k + a.length)
  | [], b, f, k => by simp [marksG]
  | e :: a, b, f, k => by
    simp only [List.cons_append, marksG, marksG_append a b f (k + 1), List.length_cons]
    rw [show k + 1 + a.length = k + (a.length + 1) from by omega]
theorem marksG_get : ∀ (l : List Ent) (f : Nat → Nat) (k j : Nat) (e : Ent), l[j]? = some e → (marksG l f k)[j]? = some (markAt (f (k + j)) e)
  | [], _, _, j, e, h => by simp at h
  | a :: r, f, k, 0, e, h => by simp at h; subst h; simp [marksG]
  | a :: r, f, k, j + 1, e, h => by
    have := marksG_get r f (k + 1) j e (by simpa using h)
    simp only [marksG, List.getElem?_cons_succ, this]
    rw [show k + 1 + j = k + (j + 1) from by omega]
theorem marksG_ids : ∀ (l : List Ent) (f : Nat → Nat) (k : Nat), (marksG l f k).map (fun x => (x.c, x.n)) = l.map fun e => (e.op.c, e.op.n)
  | [], _, _ => rfl
  | a :: r, f, k => by simp [marksG, markAt, marksG_ids r f (k + 1)]
theorem marksG_set : ∀ (l : List Ent) (f : Nat → Nat) (k j v : Nat) (h : j < l.length), marksG l (fun q => if q = k + j then v else f q) k = (marksG l f k).set j (markAt v l[j])
  | [], _, _, j, v, h => by simp at h
  | a :: r, f, k, 0, v, h => by
    simp only [marksG, List.set_cons_zero, Nat.add_zero, if_true, List.getElem_cons_zero]
    rw [marksG_congr r _ f (k + 1) fun j _ => if_neg (by omega)]
  | a :: r, f, k, j + 1, v, h => by
    have := marksG_set r f (k + 1) j v (by simpa using h)
    simp only [marksG, List.set_cons_succ, List.getElem_cons_succ, if_neg (by omega : ¬ k = k + (j + 1))]
    rw [show k + (j + 1) = k + 1 + j from by omega, this]
structure HN (F : List Ent) (L : List MR) (f : Nat → Nat) : Prop where
  perm : (L.map (·.mark)).Perm (marksG F f 0)
  ids : (F.map fun e => (e.op.c, e.op.n)).Nodup
theorem HN.nodup {F : List Ent} {L : List MR} {f : Nat → Nat} (h : HN F L f) : (L.map fun x => (x.mark.c, x.mark.n)).Nodup := by
  have h1 : (L.map fun x => (x.mark.c, x.mark.n)) = (L.map (·.mark)).map fun x => (x.c, x.n) := by simp [List.map_map, Function.comp_def]
  rw [h1, (h.perm.map _).nodup_iff, marksG_ids]
  exact h.ids
theorem HN.look {F : List Ent} {L : List MR} {f : Nat → Nat} (h : HN F L f) {k : Nat} (hk : k < F.length) : ∃ (j : Nat) (x : MR), L[j]? = some x ∧ x.mark = markAt (f k) F[k] ∧ mGet (keys L) F[k].op.c F[k].op.n = some x.b := by
  have h1 := marksG_get F f 0 k _ (List.getElem?_eq_getElem hk)
  have h2 := (h.perm.mem_iff).2 (List.mem_of_getElem? h1)
  obtain ⟨x, hx, hm⟩ := List.mem_map.1 h2
  obtain ⟨j, hj, rfl⟩ := List.mem_iff_getElem.1 hx
  rw [Nat.zero_add] at hm
  refine ⟨j, L[j], List.getElem?_eq_getElem hj, hm, ?_⟩
  have := mGet_of h.nodup hx
  rw [hm] at this
  exact this
theorem HN.upd {F : List Ent} {L : List MR} {f : Nat → Nat} (h : HN F L f) {k j : Nat} (hk : k < F.length) {x : MR} (hj : L[j]? = some x) (hm : x.mark = markAt (f k) F[k]) : HN F (L.set j ⟨markAt k F[k], x.b, x.A, x.cap⟩) (fun q => if q = k then k else f q) := by
  refine ⟨?_, h.ids⟩
  have e := marksG_set F f 0 k k hk
  simp only [Nat.zero_add] at e
  rw [List.map_set, e]
  refine set_perm h.perm (a := markAt (f k) F[k]) ?_ ?_ _
  · rw [List.getElem?_map, hj]; simp [hm]
  · have := marksG_get F f 0 k _ (List.getElem?_eq_getElem hk)
    rwa [Nat.zero_add] at this
/-- The numbers, when those below k are right. -/
def numF (i k j : Nat) : Nat := if j < k then j else if j ≤ i then j else j - 1
theorem HN.next {F : List Ent} {L : List MR} {i k : Nat} (h : HN F L (fun q => if q = k then k else numF i k q)) : HN F L (numF i (k + 1)) := by
  refine ⟨?_, h.ids⟩
  rw [marksG_congr F (numF i (k + 1)) (fun q => if q = k then k else numF i k q) 0 fun j _ => ?_]
  · exact h.perm
  · simp only [Nat.zero_add, numF]
    by_cases e : j = k
    · subst e; simp
    · rw [if_neg e]
      by_cases e2 : j < k
      · rw [if_pos e2, if_pos (by omega)]
      · rw [if_neg e2, if_neg (by omega)]
theorem marksG_zipE : ∀ (xs : List GOp) (es : List Ent) (f g : Nat → Nat) (k k' : Nat), Sames (es.map (·.op)) xs → (∀ j, j < es.length → f (k + j) = g (k' + j)) → marksG (zipE xs es) f k = marksG es g k'
  | [], [], _, _, _, _, _, _ => rfl
  | x :: xs, e :: es, f, g, k, k', h, hf => by
    cases h with
    | cons h hr =>
      have h0 := hf 0 (by simp)
      simp only [Nat.add_zero] at h0
      simp only [zipE, marksG, markAt, h0, h.c, h.n]
      congr 1
      exact marksG_zipE xs es f g (k + 1) (k' + 1) hr fun j hj => by
        have := hf (j + 1) (by simpa using hj)
        rw [show k + 1 + j = k + (j + 1) from by omega, show k' + 1 + j = k' + (j + 1) from by omega]; exact this
  | [], e :: es, _, _, _, _, h, _ => by cases h
  | x :: xs, [], _, _, _, _, h, _ => by cases h
theorem ids_zipE : ∀ (xs : List GOp) (es : List Ent), Sames (es.map (·.op)) xs → (zipE xs es).map (fun e => (e.op.c, e.op.n)) = es.map fun e => (e.op.c, e.op.n)
  | [], [], _ => rfl
  | x :: xs, e :: es, h => by
    cases h with
    | cons h hr => simp [zipE, h.c, h.n, ids_zipE xs es hr]
  | [], e :: es, h => by cases h
  | x :: xs, [], h => by cases h
theorem HN.start {es : List Ent} {L : List MR} {t : Int} (h : HR ⟨es, t⟩ L) {i : Nat} (hi : i ≤ es.length) {o : GOp} {nw : List Rg} {later : List GOp} (hs : Sames ((es.drop i).map (·.op)) later) (hn : whereId es o.c o.n = none) (b : Nat) (A : Option Addr) (c : Nat) :
    HN (newEnts i o nw es later) (L ++ [⟨markAt i ⟨o, nw, false⟩, b, A, c⟩]) (numF i i) := by
  have hlen : (es.take i).length = i := by rw [List.length_take]; omega
  constructor
  · unfold newEnts
    rw [marksG_append, hlen, List.map_append, Nat.zero_add]
    simp only [marksG, List.map_cons, List.map_nil]
    have e1 : marksG (es.take i) (numF i i) 0 = marksG (es.take i) (fun j => j) 0 := marksG_congr _ _ _ _ fun j hj => by rw [hlen] at hj; simp only [Nat.zero_add, numF, if_pos hj]
    have e2 : marksG (zipE later (es.drop i)) (numF i i) (i + 1) = marksG (es.drop i) (fun j => j) i := marksG_zipE _ _ _ _ _ _ hs fun j hj => by
      simp only [numF]; rw [if_neg (by omega), if_neg (by omega)]; omega
    have e3 : marksFrom es 0 = marksG (es.take i) (fun j => j) 0 ++ marksG (es.drop i) (fun j => j) i := by
      rw [← marksG_id]
      conv => lhs; rw [← List.take_append_drop i es]
      rw [marksG_append, hlen, Nat.zero_add]
    have e4 : numF i i i = i := by simp [numF]
    rw [e1, e2, e4]
    have p1 := h.perm
    simp only at p1
    rw [e3] at p1
    refine (p1.append_right _).trans ?_
    rw [List.append_assoc]
    refine List.Perm.append_left _ ?_
    exact List.perm_append_comm
  · have h1 := h.ids
    simp only at h1
    unfold newEnts
    rw [List.map_append, List.map_cons, ids_zipE _ _ hs]
    have e : (es.map fun e => (e.op.c, e.op.n)) = ((es.take i).map fun e => (e.op.c, e.op.n)) ++ ((es.drop i).map fun e => (e.op.c, e.op.n)) := by rw [← List.map_append, List.take_append_drop]
    have hnot : (o.c, o.n) ∉ es.map fun e => (e.op.c, e.op.n) := fun hm => by
      obtain ⟨x, hx, hh⟩ := List.mem_map.1 hm
      simp only [Prod.mk.injEq] at hh
      exact whereId_none hn x hx hh
    have p : (((es.take i).map fun e => (e.op.c, e.op.n)) ++ (o.c, o.n) :: ((es.drop i).map fun e => (e.op.c, e.op.n))).Perm ((o.c, o.n) :: es.map fun e => (e.op.c, e.op.n)) := by
      rw [e]; exact List.perm_middle
    exact p.nodup_iff.2 (List.nodup_cons.2 ⟨hnot, h1⟩)
theorem HN.done {F : List Ent} {L : List MR} {i k : Nat} (h : HN F L (numF i k)) (hk : ¬ k < F.length) : (L.map (·.mark)).Perm (marksFrom F 0) := by
  have := h.perm
  rw [marksG_congr F (numF i k) (fun j => j) 0 fun j hj => by simp only [Nat.zero_add, numF]; rw [if_pos (by omega)], marksG_id] at this
  exact this
/-! ### Words for Put's walk -/
def rsl : De (List Rg) := De.sl rgD
theorem rsl_open (u : List Rg) : ∀ Z w cs, rsl.rep Z w u cs → ∃ y : Option Addr × Nat, cs = [.slice y.1 u.length y.2] ∧ ∀ B ∈ [RdF rgD y.1 y.2 u], B.holds Z w := fun _ _ _ h => by
  obtain ⟨A, c, h1, h2⟩ := h
  exact ⟨(A, c), h1, fun B hB => by simp only [List.mem_singleton] at hB; subst hB; exact h2⟩
theorem crossOne {o : GOp} {ys : List GOp} (h : (crossF [o] ys).2.2 = 0) : ∃ t, (crossF [o] ys).1 = [t] ∧ Same o t := by
  have h1 := (crossF_same h).1
  generalize (crossF [o] ys).1 = q at h1
  cases h1 with
  | cons h hr => cases hr; exact ⟨_, rfl, h⟩
theorem fits_0 {H : Hist} {i : Int} {o : GOp} (h : fitsF H i o = 0) : 0 ≤ i ∧ i ≤ H.ents.length ∧ whereId H.ents o.c o.n = none ∧ H.total + widthF o ≤ 1048576 ∧ o.kind ≠ 3 ∧ 1 ≤ o.kind ∧ o.kind ≤ 4 ∧ checkF o (beforeF H i.toNat) = 0 ∧ (o.kind = 4 → ∃ k, whereId H.ents o.tc o.tn = some k) := by
  unfold fitsF at h
  split at h
  · cases h
  · rename_i h1
    split at h
    · rename_i h2; exact absurd h h2
    · rename_i h2
      split at h
      · cases h
      · rename_i h3
        split at h
        · cases h
        · split at h
          · cases h
          · rename_i h5
            have hck : checkF o (beforeF H i.toNat) = 0 := by simpa using h2
            have hkind : 1 ≤ o.kind ∧ o.kind ≤ 4 := by
              have hc := hck
              unfold checkF at hc
              split at hc
              · cases hc
              · split at hc
                · cases hc
                · omega
            have hw : whereId H.ents o.c o.n = none := by
              cases hq : whereId H.ents o.c o.n with
              | none => rfl
              | some k => rw [hq] at h5; simp at h5
            have hrest : ∀ {x : Int}, fitsRest H o = 0 → H.total + widthF o ≤ 1048576 := fun h => by
              unfold fitsRest at h
              split at h
              · cases h
              · omega
            split at h
            · rename_i h6
              unfold fitsT at h
              cases hq : whereId H.ents o.tc o.tn with
              | none => rw [hq] at h; cases h
              | some k =>
                rw [hq] at h
                simp only at h
                split at h
                · cases h
                · cases hq2 : H.ents[k]? with
                  | none => rw [hq2] at h; cases h
                  | some e =>
                    rw [hq2] at h
                    simp only at h
                    split at h
                    · cases h
                    · exact ⟨by omega, by omega, hw, hrest (x := 0) h, h3, hkind.1, hkind.2, hck, fun _ => ⟨k, rfl⟩⟩
            · rename_i h6
              exact ⟨by omega, by omega, hw, hrest (x := 0) h, h3, hkind.1, hkind.2, hck, fun hh => absurd hh h6⟩
theorem check_wid {o : GOp} {t : Int} (h : checkF o t = 0) : widthF o ≤ 256 := by
  unfold checkF at h
  split at h
  · cases h
  · split at h
    · cases h
    · split at h
      · cases h
      · split at h
        · cases h
        · split at h
          · rename_i hk
            unfold insF at h
            split at h
            · rename_i h1; exact absurd h h1
            · split at h
              · cases h
              · split at h
                · cases h
                · unfold widthF; rw [if_pos hk]; omega
          · rename_i hk
            unfold widthF; rw [if_neg hk]; omega
theorem newEnts_ops {i : Nat} {o : GOp} {nw : List Rg} {es : List Ent} {later : List GOp} (h : Sames ((es.drop i).map (·.op)) later) : (newEnts i o nw es later).map (·.op) = (es.map (·.op)).take i ++ ([o] ++ later) := by
  unfold newEnts
  have hl : later.length = (es.drop i).length := by rw [h.length]; simp
  rw [List.map_append, List.map_cons, zipE_ops _ _ hl, List.map_take]; rfl
theorem newEnts_mem {i : Nat} {o : GOp} {nw : List Rg} {es : List Ent} {later : List GOp} {e : Ent} (h : Sames ((es.drop i).map (·.op)) later) (he : e ∈ newEnts i o nw es later) : e ∈ es ∨ e = ⟨o, nw, false⟩ ∨ ∃ x ∈ es, ∃ y ∈ later, Same x.op y ∧ e = ⟨y, x.now, x.off⟩ := by
  unfold newEnts at he
  rcases List.mem_append.1 he with he | he
  · exact .inl (List.mem_of_mem_take he)
  · rcases List.mem_cons.1 he with rfl | he
    · exact .inr (.inl rfl)
    · right; right
      have key : ∀ (xs : List GOp) (l : List Ent), Sames (l.map (·.op)) xs → e ∈ zipE xs l → ∃ x ∈ l, ∃ y ∈ xs, Same x.op y ∧ e = ⟨y, x.now, x.off⟩ := by
        intro xs
        induction xs with
        | nil => intro l _ he; cases l <;> simp [zipE] at he
        | cons y xs ih =>
          intro l hs he
          cases l with
          | nil => simp [zipE] at he
          | cons x l =>
            cases hs with
            | cons h1 h2 =>
              unfold zipE at he
              rcases List.mem_cons.1 he with rfl | he
              · exact ⟨x, List.mem_cons_self, y, List.mem_cons_self, h1, rfl⟩
              · obtain ⟨x', hx, y', hy, hh⟩ := ih l h2 he
                exact ⟨x', List.mem_cons_of_mem _ hx, y', List.mem_cons_of_mem _ hy, hh⟩
      obtain ⟨x, hx, y, hy, hh⟩ := key later _ h he
      exact ⟨x, List.mem_of_mem_drop hx, y, hy, hh⟩
theorem newEnts_length {i : Nat} {o : GOp} {nw : List Rg} {es : List Ent} {later : List GOp} (h : Sames ((es.drop i).map (·.op)) later) (hi : i ≤ es.length) : (newEnts i o nw es later).length = es.length + 1 := by
  unfold newEnts
  have hl : later.length = (es.drop i).length := by rw [h.length]; simp
  rw [List.length_append, List.length_cons, zipE_length _ _ hl, List.length_take, List.length_drop]; omega
/-- What holds where Put's ways meet. -/
structure MidI (H : Hist) (i : Nat) (o t : GOp) (L : List MR) (es : List Ent) (L1 : List MR) (nw : List Rg) (eff : GOp) : Prop where
  hr : HR ⟨es, H.total⟩ L1
  keys : keys L1 = keys L
  mid : midF H i o t = .ok ⟨es, nw, eff⟩
  ops : es.map (·.op) = H.ops
  now : nw.length ≤ 4398046511104
def PuP (H : Hist) (i : Int) (o : GOp) (h m : Nat) (cap : Nat) (A : Option Addr) (L : List MR) : Value → List Part → List Fact → Prop := fun v Lo fs =>
  ∃ (L' : List MR) (A' : Option Addr) (cap' : Nat) (Ae : Option Addr) (ce : Nat), HR (putF H i o).1 L' ∧ v = .tuple #[opV (putF H i o).2.1 Ae ce, .int .i64 (putF H i o).2.2] ∧
    Lo = [hdP h A' (putF H i o).1.ops.length cap' m (putF H i o).1.total, mpP m L', mkP L'] ∧ fs = [RdF rgD Ae ce (putF H i o).2.1.rs, RdF opD A' cap' (putF H i o).1.ops, AllF L' nowF]
theorem put_1 {H : Hist} {i : Int} {o : GOp} (h : fitsF H i o ≠ 0) : putF H i o = (H, zeroOp, fitsF H i o) := by unfold putF; rw [if_pos h]
theorem put_2 {H : Hist} {i : Int} {o : GOp} (h : fitsF H i o = 0) (h2 : (crossF [o] (H.ops.drop i.toNat)).2.2 ≠ 0) : putF H i o = (H, zeroOp, (crossF [o] (H.ops.drop i.toNat)).2.2) := by unfold putF; rw [if_neg (by simpa using h), if_pos h2]
theorem put_3 {H : Hist} {i : Int} {o t : GOp} {e : Int} (h : fitsF H i o = 0) (h2 : (crossF [o] (H.ops.drop i.toNat)).2.2 = 0) (ht : (crossF [o] (H.ops.drop i.toNat)).1 = [t]) (h3 : midF H i.toNat o t = .error e) : putF H i o = (H, zeroOp, e) := by
  unfold putF; rw [if_neg (by simpa using h), if_neg (by simpa using h2), ht]; simp only [List.headD_cons, h3]
theorem put_4 {H : Hist} {i : Int} {o t : GOp} {es : List Ent} {nw : List Rg} {eff : GOp} (h : fitsF H i o = 0) (h2 : (crossF [o] (H.ops.drop i.toNat)).2.2 = 0) (ht : (crossF [o] (H.ops.drop i.toNat)).1 = [t]) (h3 : midF H i.toNat o t = .ok ⟨es, nw, eff⟩) : putF H i o = (⟨newEnts i.toNat o nw es (crossF [o] (H.ops.drop i.toNat)).2.1, H.total + widthF o⟩, eff, 0) := by
  unfold putF; rw [if_neg (by simpa using h), if_neg (by simpa using h2), ht]; simp only [List.headD_cons, h3]
theorem movedAll_ne : ∀ {es : List Ent} {at_ n : Int} {e : Int}, movedAll es at_ n = .error e → e ≠ 0
  | [], _, _, e, h => by cases h
  | x :: es, at_, n, e, h => by
    unfold movedAll at h
    split at h
    · rename_i h1; cases h; exact h1
    · cases hq : movedAll es at_ n with
      | error y => rw [hq] at h; cases h; exact movedAll_ne hq
      | ok l => rw [hq] at h; cases h
theorem MidI.len {H : Hist} {i : Nat} {o t : GOp} {L L1 : List MR} {es : List Ent} {nw : List Rg} {eff : GOp} (M : MidI H i o t L es L1 nw eff) : es.length = H.ents.length := by
  have := congrArg List.length M.ops
  simpa [Hist.ops] using this
theorem HR.put {H : Hist} {i k : Nat} {o t : GOp} {L L1 Lk : List MR} {es : List Ent} {nw : List Rg} {eff : GOp} {later : List GOp} (M : MidI H i o t L es L1 nw eff) (hsl : Sames ((es.drop i).map (·.op)) later) (hfl : ∀ y ∈ later, Fit y) (ho : Fit o) (hw : widthF o ≤ 256) (hlt : H.ents.length < 1000000)
    (ht : H.total + widthF o ≤ 1048576) (hi : i ≤ H.ents.length) (hn : HN (newEnts i o nw es later) Lk (numF i k)) (hk : ¬ k < (newEnts i o nw es later).length) : HR ⟨newEnts i o nw es later, H.total + widthF o⟩ Lk := by
  have hl := M.len
  refine ⟨hn.done hk, hn.ids, ?_, ?_, ?_, ?_, ?_⟩
  · intro e he
    rcases newEnts_mem hsl he with he | rfl | ⟨x, hx, y, hy, hs, rfl⟩
    · exact M.hr.fit e he
    · exact ho
    · exact hfl y hy
  · intro e he
    rcases newEnts_mem hsl he with he | rfl | ⟨x, hx, y, hy, hs, rfl⟩
    · exact M.hr.wid e he
    · exact hw
    · show widthF y ≤ 256
      rw [hs.width]; exact M.hr.wid x hx
  · intro e he
    rcases newEnts_mem hsl he with he | rfl | ⟨x, hx, y, hy, hs, rfl⟩
    · exact M.hr.now e he
    · exact M.now
    · exact M.hr.now x hx
  · show (newEnts i o nw es later).length ≤ 1000000
    rw [newEnts_length hsl (by omega)]; omega
  · have := M.hr.tot
    have := widthF_le o
    show 0 ≤ H.total + widthF o ∧ H.total + widthF o ≤ 1048576
    simp only at *
    omega
end Go.Proofs.YtggdddkbhigjoaaDoor
