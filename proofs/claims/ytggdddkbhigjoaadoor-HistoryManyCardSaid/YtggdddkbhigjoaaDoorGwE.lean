/- The rules by which this claim's walks go: regions whose order is drawn: what only reads is taken as soon as it may come up. -/
import Derived.Test.YtggdddkbhigjoaaDoorGwD
import Derived.Test.YtggdddkbhigjoaaDoorWLast
set_option linter.unusedVariables false
set_option linter.unusedSimpArgs false
namespace Go.GW
open Go
open Go.Proofs.YtggdddkbhigjoaaDoorW.PrintLast

/-- The order in which the operations are taken: 0 reads, 1 looks at no memory, 2 turns memory, 3 the last ones. -/
def eagerOk (md : Region.Mode) (ops : Array Oper) (ds : List Nat) : List (Nat × Nat) → Array Bool → Bool
  | [], l => Region.ready md ops l == []
  | (i, 0) :: r, l => takeB md ops ds l (l.setIfInBounds i true) i && eagerOk md ops ds r (l.setIfInBounds i true)
  | (i, 1) :: r, l => anyB md ops l (l.setIfInBounds i true) i && eagerOk md ops ds r (l.setIfInBounds i true)
  | (i, 2) :: r, l => readyB md ops l (l.setIfInBounds i true) i && !ds.contains i && eagerOk md ops ds r (l.setIfInBounds i true)
  | (i, 3) :: r, l => readyB md ops l (l.setIfInBounds i true) i && ds.contains i && eagerOk md ops ds r (l.setIfInBounds i true)
  | (i, 4) :: (j, _) :: r, l => Region.ready md ops l == [i, j] && readyB md ops (l.setIfInBounds i true) ((l.setIfInBounds i true).setIfInBounds j true) j && readyB md ops (l.setIfInBounds j true) ((l.setIfInBounds i true).setIfInBounds j true) i && !ds.contains i && !ds.contains j && eagerOk md ops ds r ((l.setIfInBounds i true).setIfInBounds j true)
  | _ :: _, _ => false
def wpE (P : Program) (ops : Array Oper) (Q : Exit → Act → World → Prop) (S : World → Prop) : List (Nat × Nat) → Act → World → Prop
  | [], a, w => Q .normal a w
  | (i, 0) :: r, a, w => ∃ o v, ops[i]? = some o ∧ YieldsIf P ops S o v a ∧ S w ∧ wpE P ops Q S r (a.put o.dst v) w
  | (i, 1) :: r, a, w => ∃ o v, ops[i]? = some o ∧ Yields P ops o v a ∧ wpE P ops Q S r (a.put o.dst v) w
  | (i, 2) :: r, a, w => (∃ o, ops[i]? = some o) ∧ wpOp P ops Q i (fun a' w' => S w' ∧ wpE P ops Q S r a' w') a w
  | (i, 3) :: r, a, w => (∃ o, ops[i]? = some o) ∧ wpOp P ops Q i (wpE P ops Q S r) a w
  | (i, 4) :: (j, _) :: r, a, w => wpOp P ops Q i (fun a' w' => S w' ∧ wpOp P ops Q j (fun a' w' => S w' ∧ wpE P ops Q S r a' w') a' w') a w ∧ wpOp P ops Q j (fun a' w' => S w' ∧ wpOp P ops Q i (fun a' w' => S w' ∧ wpE P ops Q S r a' w') a' w') a w
  | _ :: _, _, _ => False
section
variable {P : Program} {ops : Array Oper} {Q : Exit → Act → World → Prop} {md : Region.Mode} {S : World → Prop} {ds : List Nat}
theorem readyB_eq {l l' : Array Bool} {i : Nat} (h : readyB md ops l l' i = true) : Region.ready md ops l = [i] ∧ l.setIfInBounds i true = l' := by
  simpa [readyB] using h
theorem wpAnyLast_of_E (hQ : ∀ c a w, ¬ Q (.panic c) a w) : ∀ (order : List (Nat × Nat)) (l : Array Bool) (fuel : Nat) (a : Act) (w : World), eagerOk md ops ds order l = true → order.length ≤ fuel → wpE P ops Q S order a w → wpAnyLast P md ops Q S ds fuel l a w
  | [], l, fuel, a, w, hok, _, h => wpAnyLast_done (by simpa [eagerOk] using hok) h fuel
  | (i, k) :: r, l, fuel, a, w, hok, hf, h => by
    obtain ⟨fuel, rfl⟩ : ∃ m, fuel = m + 1 := ⟨fuel - 1, by simp at hf; omega⟩
    simp only [List.length_cons] at hf
    have hf' : r.length ≤ fuel := by omega
    match k, hok, h with
    | 0, hok, h =>
      simp only [eagerOk, Bool.and_eq_true] at hok
      obtain ⟨o, v, h1, h2, h3, h4⟩ := h
      exact take_ _ h1 rfl hok.1 (fun c a w h => absurd h (hQ _ _ _)) h2 h3 rfl (wpAnyLast_of_E hQ r _ fuel _ w hok.2 hf' h4)
    | 1, hok, h =>
      simp only [eagerOk, Bool.and_eq_true] at hok
      obtain ⟨o, v, h1, h2, h4⟩ := h
      exact pure_ _ h1 rfl hok.1 (fun c a w h => absurd h (hQ _ _ _)) h2 rfl (wpAnyLast_of_E hQ r _ fuel _ w hok.2 hf' h4)
    | 2, hok, h =>
      simp only [eagerOk, Bool.and_eq_true] at hok
      obtain ⟨⟨o, h1⟩, h2⟩ := h
      obtain ⟨⟨hr, hd⟩, hrest⟩ := hok
      have hr' := (readyB_eq hr).1
      refine wpAnyLast_ready hr' (by simp) fun j hj => ?_
      simp only [List.mem_singleton] at hj
      subst hj
      exact wpOp_mono (fun a' w' h => ⟨fun _ _ => h.1, wpAnyLast_of_E hQ r _ fuel a' w' hrest hf' h.2⟩) h2
    | 3, hok, h =>
      simp only [eagerOk, Bool.and_eq_true] at hok
      obtain ⟨⟨o, h1⟩, h2⟩ := h
      obtain ⟨⟨hr, hd⟩, hrest⟩ := hok
      have hr' := (readyB_eq hr).1
      refine wpAnyLast_ready hr' (by simp) fun j hj => ?_
      simp only [List.mem_singleton] at hj
      subst hj
      exact wpOp_mono (fun a' w' h => ⟨fun hn => absurd (by simpa using hd) hn, wpAnyLast_of_E hQ r _ fuel a' w' hrest hf' h⟩) h2
    | 4, hok, h =>
      match r, hok, hf', h with
      | [], hok, _, h => exact absurd hok (by simp [eagerOk])
      | (j, m) :: r, hok, hf', h =>
        obtain ⟨fuel, rfl⟩ : ∃ m, fuel = m + 1 := ⟨fuel - 1, by simp at hf'; omega⟩
        simp only [List.length_cons] at hf'
        have hf2 : r.length ≤ fuel := by omega
        simp only [eagerOk, Bool.and_eq_true] at hok
        obtain ⟨⟨⟨⟨⟨hr, hrj⟩, hri⟩, hdi⟩, hdj⟩, hrest⟩ := hok
        have hr' : Region.ready md ops l = [i, j] := by simpa using hr
        have hj' := readyB_eq hrj
        have hi' := readyB_eq hri
        obtain ⟨g1, g2⟩ := h
        refine wpAnyLast_ready hr' (by simp) fun x hx => ?_
        have hx' : x = i ∨ x = j := by simpa using hx
        rcases hx' with rfl | rfl
        · refine wpOp_mono (fun a' w' h => ⟨fun _ _ => h.1, wpAnyLast_ready hj'.1 (by simp) fun y hy => ?_⟩) g1
          simp only [List.mem_singleton] at hy
          subst hy
          exact wpOp_mono (fun a' w' h => ⟨fun _ _ => h.1, wpAnyLast_of_E hQ r _ fuel a' w' hrest hf2 h.2⟩) h.2
        · refine wpOp_mono (fun a' w' h => ⟨fun _ _ => h.1, wpAnyLast_ready hi'.1 (by simp) fun y hy => ?_⟩) g2
          simp only [List.mem_singleton] at hy
          subst hy
          refine wpOp_mono (fun a' w' h => ⟨fun _ _ => h.1, ?_⟩) h.2
          rw [hi'.2]
          exact wpAnyLast_of_E hQ r _ fuel a' w' hrest hf2 h.2
    | k + 5, hok, h => exact absurd hok (by simp [eagerOk])
end
section
variable {P : Program} {n : Nat} {R : Post} {l : Fr} {Ps Ps0 : List Part} {As As0 : List Fact} {ops : Array Oper} {r : List (Nat × Nat)} {o : Oper} {i : Nat}
/-- What holds all through a region whose order is drawn. -/
def Near (ws : World) (Z0 : Nat → Prop) (Ps0 : List Part) (w : World) : Prop :=
  (∀ b, Z0 b → w.heap[b]? = ws.heap[b]?) ∧ (∀ q ∈ Ps0.flatten, w.heap[q.1]? = some q.2) ∧ w.os = ws.os ∧ w.tape = ws.tape ∧ w.output = ws.output
def NearF (ws : World) (Z0 : Nat → Prop) : Fact where
  holds Z w := (∀ b, Z0 b → Z b ∧ w.heap[b]? = ws.heap[b]?) ∧ w.os = ws.os ∧ w.tape = ws.tape ∧ w.output = ws.output
  stable hz hh h1 h2 h3 h := ⟨fun b hb => ⟨hz b (h.1 b hb).1, (hh b (h.1 b hb).1).trans (h.1 b hb).2⟩, h1.trans h.2.1, h2.trans h.2.2.1, h3.trans h.2.2.2⟩
theorem Near.st {ws w : World} {Z0 : Nat → Prop} (h0 : St Z0 ws Ps0 As0) (h : Near ws Z0 Ps0 w) : St Z0 w Ps0 As0 :=
  ⟨fun b hb => by
    have h1 := h0.zlt b hb
    have h2 := h.1 b hb
    rw [Array.getElem?_eq_getElem h1] at h2
    exact (Array.getElem?_eq_some_iff.1 h2).1, fun q hq => ⟨h.2.1 q hq, (h0.own q hq).2⟩, h0.nodup, fun A hA => A.stable (fun _ hb => hb) h.1 h.2.2.1 h.2.2.2.1 h.2.2.2.2 (h0.facts A hA)⟩
theorem Near.of {ws w : World} {Z Z0 : Nat → Prop} (h : St Z w Ps As) (hP : Ps0.Sublist Ps) (hN : NearF ws Z0 ∈ As) : Near ws Z0 Ps0 w := by
  have h1 := h.facts _ hN
  exact ⟨fun b hb => (h1.1 b hb).2, fun q hq => (h.own q ((flatten_sublist hP).subset hq)).1, h1.2.1, h1.2.2.1, h1.2.2.2⟩
variable {ws : World} {Z0 : Nat → Prop}
def WE (P : Program) (n : Nat) (ops : Array Oper) (R : Post) (ws : World) (Z0 : Nat → Prop) (Ps0 : List Part) (As0 : List Fact) (r : List (Nat × Nat)) (l : Fr) (Ps : List Part) (As : List Fact) : Prop :=
  St Z0 ws Ps0 As0 → ∀ Z w a, St Z w Ps As → Ag n l a → Near ws Z0 Ps0 w → wpE P ops (liftP n R) (Near ws Z0 Ps0) r a w
theorem WC_draw {id : Nat} (Ps0 : List Part) (As0 : List Fact) (ds : List Nat) (order : List (Nat × Nat)) (hm : P.follows .mixedOrders = true) (hR : ∀ c l Ps As, ¬ R (.panic c) l Ps As) (hP : Ps0.Sublist Ps) (hA : ∀ A ∈ As0, A ∈ As)
    (hok : eagerOk .any ops ds order (Array.replicate ops.size false) = true) (hl : order.length ≤ ops.size) (h : ∀ ws Z0, WE P n ops R ws Z0 Ps0 As0 order l Ps (NearF ws Z0 :: As)) : WC P n (.region id ops true) R l Ps As := by
  intro Z w a hs ha
  have hs' := hs.drew (w.drawn + 1)
  have h0 := (hs'.subParts hP).subFacts hA
  refine wp_region_last (S := Near { w with drawn := w.drawn + 1 } Z Ps0) (ds := ds) hm ?_
  refine wpAnyLast_of_E ?_ order _ _ a _ hok hl (h { w with drawn := w.drawn + 1 } Z h0 Z _ a (hs'.addFact (A := NearF { w with drawn := w.drawn + 1 } Z) ⟨fun b hb => ⟨hb, rfl⟩, rfl, rfl, rfl⟩) ha ⟨fun _ _ => rfl, fun q hq => (h0.own q hq).1, rfl, rfl, rfl⟩)
  rintro c a w ⟨l, Z, Ps, As, _, _, h⟩
  exact hR _ _ _ _ h
theorem WE_q {d : Nat} {v : Value} {op : Op} {ty : TypeId} {pos : String} {aft : Array Edge} (hi : ops[i]? = some ⟨some d, op, ty, pos, aft, none⟩) (hq : QR P l Ps0 As0 ⟨some d, op, ty, pos, aft, none⟩ v) (hd : d < n) (h : WE P n ops R ws Z0 Ps0 As0 r ((d, v) :: l) Ps As) :
    WE P n ops R ws Z0 Ps0 As0 ((i, 0) :: r) l Ps As := fun h0 Z w a hs ha hS =>
  ⟨_, v, hi, .inl ⟨rfl, fun w' h' => hq Z0 w' a.eval (h'.st h0) fun x v hx => ha.eval hx⟩, hS, h h0 Z w _ hs (ha.put hd v) hS⟩
/-- An operation that looks at no memory. -/
theorem WE_p {d : Nat} {v : Value} {op : Op} {ty : TypeId} {pos : String} {aft : Array Edge} (hi : ops[i]? = some ⟨some d, op, ty, pos, aft, none⟩) (hq : QR P l [] [] ⟨some d, op, ty, pos, aft, none⟩ v) (hd : d < n) (h : WE P n ops R ws Z0 Ps0 As0 r ((d, v) :: l) Ps As) :
    WE P n ops R ws Z0 Ps0 As0 ((i, 1) :: r) l Ps As := fun h0 Z w a hs ha hS =>
  ⟨_, v, hi, .inl ⟨rfl, fun w' => hq (fun _ => False) w' a.eval ⟨fun _ h => h.elim, by simp, by simp, by simp⟩ fun x v hx => ha.eval hx⟩, h h0 Z w _ hs (ha.put hd v) hS⟩
/-- Behind one of the last operations. -/
def WF (P : Program) (n : Nat) (ops : Array Oper) (R : Post) (ws : World) (Z0 : Nat → Prop) (Ps0 : List Part) (r : List (Nat × Nat)) (l : Fr) (Ps : List Part) (As : List Fact) : Prop :=
  ∀ Z w a, St Z w Ps As → Ag n l a → wpE P ops (liftP n R) (Near ws Z0 Ps0) r a w
theorem WF_nil (h : R .normal l Ps As) : WF P n ops R ws Z0 Ps0 [] l Ps As := fun Z w a hs ha => ⟨l, Z, Ps, As, ha, hs, h⟩
theorem WF_p {d : Nat} {v : Value} {op : Op} {ty : TypeId} {pos : String} {aft : Array Edge} (hi : ops[i]? = some ⟨some d, op, ty, pos, aft, none⟩) (hq : QR P l [] [] ⟨some d, op, ty, pos, aft, none⟩ v) (hd : d < n) (h : WF P n ops R ws Z0 Ps0 r ((d, v) :: l) Ps As) :
    WF P n ops R ws Z0 Ps0 ((i, 1) :: r) l Ps As := fun Z w a hs ha =>
  ⟨_, v, hi, .inl ⟨rfl, fun w' => hq (fun _ => False) w' a.eval ⟨fun _ h => h.elim, by simp, by simp, by simp⟩ fun x v hx => ha.eval hx⟩, h Z w _ hs (ha.put hd v)⟩
theorem WF_last (hi : ops[i]? = some o) (hg : o.guard = none) (h : OW P n R l Ps As o (WF P n ops R ws Z0 Ps0 r)) : WF P n ops R ws Z0 Ps0 ((i, 3) :: r) l Ps As := fun Z w a hs ha => by
  refine ⟨⟨o, hi⟩, ?_⟩
  unfold wpOp
  simp only [hi]
  rw [if_pos (by simp [Region.wanted, hg])]
  exact .inl (Oper.wp_mono (fun a w ⟨l, Z, Ps, As, h1, h2, h3⟩ => h3 Z w a h2 h1) (h Z w a hs ha))
theorem WE_end (h : WF P n ops R ws Z0 Ps0 r l Ps As) : WE P n ops R ws Z0 Ps0 As0 r l Ps As := fun _ Z w a hs ha _ => h Z w a hs ha
theorem WE_gq {d j t : Nat} {v : Value} {op : Op} {ty : TypeId} {pos : String} {aft : Array Edge} {b b' : Bool} {ot : Oper} (hi : ops[i]? = some ⟨some d, op, ty, pos, aft, some (j, b')⟩) (hj : ops[j]? = some ot) (hdt : ot.dst = some t) (hv : lk l t = some (.bool b)) (hb : b = b')
    (hq : QR P l Ps0 As0 ⟨some d, op, ty, pos, aft, some (j, b')⟩ v) (hd : d < n) (h : WE P n ops R ws Z0 Ps0 As0 r ((d, v) :: l) Ps As) :
    WE P n ops R ws Z0 Ps0 As0 ((i, 0) :: r) l Ps As := fun h0 Z w a hs ha hS =>
  ⟨_, v, hi, .inl ⟨by simp [Region.wanted, yielded_of ha hj hdt hv, hb], fun w' h' => hq Z0 w' a.eval (h'.st h0) fun x v hx => ha.eval hx⟩, hS, h h0 Z w _ hs (ha.put hd v) hS⟩
theorem WE_gno {d j t : Nat} {op : Op} {ty : TypeId} {pos : String} {aft : Array Edge} {b b' : Bool} {ot : Oper} (hi : ops[i]? = some ⟨some d, op, ty, pos, aft, some (j, b')⟩) (hj : ops[j]? = some ot) (hdt : ot.dst = some t) (hv : lk l t = some (.bool b)) (hb : b = !b')
    (hd : d < n) (h : WE P n ops R ws Z0 Ps0 As0 r ((d, undef) :: l) Ps As) : WE P n ops R ws Z0 Ps0 As0 ((i, 0) :: r) l Ps As := fun h0 Z w a hs ha hS =>
  ⟨_, undef, hi, .inr ⟨by simp [Region.wanted, yielded_of ha hj hdt hv, hb], rfl⟩, hS, h h0 Z w _ hs (ha.put hd undef) hS⟩
theorem WE_gun {d j t : Nat} {op : Op} {ty : TypeId} {pos : String} {aft : Array Edge} {b' : Bool} {ot : Oper} (hi : ops[i]? = some ⟨some d, op, ty, pos, aft, some (j, b')⟩) (hj : ops[j]? = some ot) (hdt : ot.dst = some t) (hv : lk l t = some undef)
    (hd : d < n) (h : WE P n ops R ws Z0 Ps0 As0 r ((d, undef) :: l) Ps As) : WE P n ops R ws Z0 Ps0 As0 ((i, 0) :: r) l Ps As := fun h0 Z w a hs ha hS =>
  ⟨_, undef, hi, .inr ⟨by simp [Region.wanted, yielded_undef ha hj hdt hv], rfl⟩, hS, h h0 Z w _ hs (ha.put hd undef) hS⟩
/-- A guarded call that is not carried out. -/
theorem WE_gnom {d j t : Nat} {op : Op} {ty : TypeId} {pos : String} {aft : Array Edge} {b b' : Bool} {ot : Oper} (hi : ops[i]? = some ⟨some d, op, ty, pos, aft, some (j, b')⟩) (hj : ops[j]? = some ot) (hdt : ot.dst = some t) (hv : lk l t = some (.bool b)) (hb : b = !b')
    (hd : d < n) (h : WE P n ops R ws Z0 Ps0 As0 r ((d, undef) :: l) Ps As) : WE P n ops R ws Z0 Ps0 As0 ((i, 2) :: r) l Ps As := fun h0 Z w a hs ha hS => by
  refine ⟨⟨_, hi⟩, ?_⟩
  unfold wpOp
  simp only [hi]
  rw [if_neg (by simp [Region.wanted, yielded_of ha hj hdt hv, hb])]
  exact ⟨hS, h h0 Z w _ hs (ha.put hd undef) hS⟩
theorem WE_gunm {d j t : Nat} {op : Op} {ty : TypeId} {pos : String} {aft : Array Edge} {b' : Bool} {ot : Oper} (hi : ops[i]? = some ⟨some d, op, ty, pos, aft, some (j, b')⟩) (hj : ops[j]? = some ot) (hdt : ot.dst = some t) (hv : lk l t = some undef)
    (hd : d < n) (h : WE P n ops R ws Z0 Ps0 As0 r ((d, undef) :: l) Ps As) : WE P n ops R ws Z0 Ps0 As0 ((i, 2) :: r) l Ps As := fun h0 Z w a hs ha hS => by
  refine ⟨⟨_, hi⟩, ?_⟩
  unfold wpOp
  simp only [hi]
  rw [if_neg (by simp [Region.wanted, yielded_undef ha hj hdt hv])]
  exact ⟨hS, h h0 Z w _ hs (ha.put hd undef) hS⟩
theorem WE_main (hi : ops[i]? = some o) (hg : o.guard = none) (h : OW P n R l Ps As o (fun l' Ps' As' => (Ps0.Sublist Ps' ∧ NearF ws Z0 ∈ As') ∧ WE P n ops R ws Z0 Ps0 As0 r l' Ps' As')) : WE P n ops R ws Z0 Ps0 As0 ((i, 2) :: r) l Ps As := fun h0 Z w a hs ha hS => by
  refine ⟨⟨o, hi⟩, ?_⟩
  unfold wpOp
  simp only [hi]
  rw [if_pos (by simp [Region.wanted, hg])]
  exact .inl (Oper.wp_mono (fun a w ⟨l, Z, Ps, As, h1, h2, h3, h4⟩ => ⟨Near.of h2 h3.1 h3.2, h4 h0 Z w a h2 h1 (Near.of h2 h3.1 h3.2)⟩) (h Z w a hs ha))
/-- The call of a guard that is on. -/
theorem WE_gmain {j t : Nat} {b b' : Bool} {ot : Oper} (hi : ops[i]? = some o) (hg : o.guard = some (j, b')) (hj : ops[j]? = some ot) (hdt : ot.dst = some t) (hv : lk l t = some (.bool b)) (hb : b = b')
    (h : OW P n R l Ps As o (fun l' Ps' As' => (Ps0.Sublist Ps' ∧ NearF ws Z0 ∈ As') ∧ WE P n ops R ws Z0 Ps0 As0 r l' Ps' As')) : WE P n ops R ws Z0 Ps0 As0 ((i, 2) :: r) l Ps As := fun h0 Z w a hs ha hS => by
  refine ⟨⟨o, hi⟩, ?_⟩
  unfold wpOp
  simp only [hi]
  rw [if_pos (by simp [Region.wanted, hg, yielded_of ha hj hdt hv, hb])]
  exact .inl (Oper.wp_mono (fun a w ⟨l, Z, Ps, As, h1, h2, h3, h4⟩ => ⟨Near.of h2 h3.1 h3.2, h4 h0 Z w a h2 h1 (Near.of h2 h3.1 h3.2)⟩) (h Z w a hs ha))
theorem wpOp_OW {Kx : Nx} {Kw : Act → World → Prop} {Z : Nat → Prop} {w : World} {a : Act} (hi : ops[i]? = some o) (hg : o.guard = none) (h : OW P n R l Ps As o Kx) (hs : St Z w Ps As) (ha : Ag n l a)
    (hK : ∀ l' Z' Ps' As' a' w', Kx l' Ps' As' → St Z' w' Ps' As' → Ag n l' a' → Kw a' w') : wpOp P ops (liftP n R) i Kw a w := by
  unfold wpOp
  simp only [hi]
  rw [if_pos (by simp [Region.wanted, hg])]
  exact .inl (Oper.wp_mono (fun a w ⟨l, Z, Ps, As, h1, h2, h3⟩ => hK l Z Ps As a w h3 h2 h1) (h Z w a hs ha))
/-- Two cells that are made in either order. -/
theorem WE_alloc2 {j d1 d2 m : Nat} {T1 T2 ty1 ty2 : TypeId} {pos1 pos2 : String} {aft1 aft2 : Array Edge} {z1 z2 : Value} {sz1 sz2 by1 by2 : Nat} {cs1 cs2 : List Value} (hi : ops[i]? = some ⟨some d1, .alloc T1, ty1, pos1, aft1, none⟩) (hj : ops[j]? = some ⟨some d2, .alloc T2, ty2, pos2, aft2, none⟩)
    (ht1 : ti P T1 = some (some z1, sz1, by1)) (hc1 : z1.cells = cs1.toArray) (ht2 : ti P T2 = some (some z2, sz2, by2)) (hc2 : z2.cells = cs2.toArray) (hd1 : d1 < n) (hd2 : d2 < n) (hne : d1 ≠ d2) (hP : Ps0.Sublist Ps) (hN : NearF ws Z0 ∈ As)
    (h : ∀ b1 b2, WE P n ops R ws Z0 Ps0 As0 r ((d2, .pointer (some ⟨b2, 0, none⟩)) :: (d1, .pointer (some ⟨b1, 0, none⟩)) :: l) ([(b2, cellsO cs2 T2)] :: [(b1, cellsO cs1 T1)] :: Ps) As) : WE P n ops R ws Z0 Ps0 As0 ((i, 4) :: (j, m) :: r) l Ps As := fun h0 Z w a hs ha hS => by
  have hc : ∀ p : Part, Ps0.Sublist (p :: Ps) := fun p => .cons p hP
  have hcc : ∀ p q : Part, Ps0.Sublist (p :: q :: Ps) := fun p q => .cons p (.cons q hP)
  constructor
  · refine wpOp_OW (Kx := fun l' Ps' As' => ∃ b1, l' = (d1, .pointer (some ⟨b1, 0, none⟩)) :: l ∧ Ps' = [(b1, cellsO cs1 T1)] :: Ps ∧ As' = As) hi rfl (OW_alloc ht1 hc1 hd1 fun b => ⟨b, rfl, rfl, rfl⟩) hs ha ?_
    rintro l' Z' Ps' As' a' w' ⟨b1, rfl, rfl, rfl⟩ hs' ha'
    refine ⟨Near.of hs' (hc _) hN, ?_⟩
    refine wpOp_OW (Kx := fun l' Ps' As'' => ∃ b2, l' = (d2, .pointer (some ⟨b2, 0, none⟩)) :: (d1, .pointer (some ⟨b1, 0, none⟩)) :: l ∧ Ps' = [(b2, cellsO cs2 T2)] :: [(b1, cellsO cs1 T1)] :: Ps ∧ As'' = As') hj rfl (OW_alloc ht2 hc2 hd2 fun b => ⟨b, rfl, rfl, rfl⟩) hs' ha' ?_
    rintro l2 Z2 Ps2 As2 a2 w2 ⟨b2, rfl, rfl, rfl⟩ hs2 ha2
    exact ⟨Near.of hs2 (hcc _ _) hN, h b1 b2 h0 Z2 w2 a2 hs2 ha2 (Near.of hs2 (hcc _ _) hN)⟩
  · refine wpOp_OW (Kx := fun l' Ps' As' => ∃ b2, l' = (d2, .pointer (some ⟨b2, 0, none⟩)) :: l ∧ Ps' = [(b2, cellsO cs2 T2)] :: Ps ∧ As' = As) hj rfl (OW_alloc ht2 hc2 hd2 fun b => ⟨b, rfl, rfl, rfl⟩) hs ha ?_
    rintro l' Z' Ps' As' a' w' ⟨b2, rfl, rfl, rfl⟩ hs' ha'
    refine ⟨Near.of hs' (hc _) hN, ?_⟩
    refine wpOp_OW (Kx := fun l' Ps' As'' => ∃ b1, l' = (d1, .pointer (some ⟨b1, 0, none⟩)) :: (d2, .pointer (some ⟨b2, 0, none⟩)) :: l ∧ Ps' = [(b1, cellsO cs1 T1)] :: [(b2, cellsO cs2 T2)] :: Ps ∧ As'' = As') hi rfl (OW_alloc ht1 hc1 hd1 fun b => ⟨b, rfl, rfl, rfl⟩) hs' ha' ?_
    rintro l2 Z2 Ps2 As2 a2 w2 ⟨b1, rfl, rfl, rfl⟩ hs2 ha2
    have hs3 : St Z2 w2 ([(b2, cellsO cs2 T2)] :: [(b1, cellsO cs1 T1)] :: Ps) As2 := hs2.permParts (by simp only [List.flatten_cons, List.cons_append, List.nil_append]; exact List.Perm.swap _ _ _)
    have ha3 : Ag n ((d2, .pointer (some ⟨b2, 0, none⟩)) :: (d1, .pointer (some ⟨b1, 0, none⟩)) :: l) a2 := by
      refine ⟨ha2.size, ha2.defers, fun t v ht => ha2.get t v ?_⟩
      rw [lk_cons, lk_cons] at ht ⊢
      by_cases e1 : t = d1
      · subst e1; rw [if_neg hne, if_pos rfl] at ht; rw [if_pos rfl]; exact ht
      · by_cases e2 : t = d2
        · subst e2; rw [if_pos rfl] at ht; rw [if_neg e1, if_pos rfl]; exact ht
        · rw [if_neg e2, if_neg e1] at ht; rw [if_neg e1, if_neg e2]; exact ht
    exact ⟨Near.of hs2 (hcc _ _) hN, h b1 b2 h0 Z2 w2 a2 hs3 ha3 (Near.of hs2 (hcc _ _) hN)⟩
/-- What facts that were there at the region's beginning say. -/
theorem WE_pull {β : Type} {Fs : β → List Fact} {p : β → Prop} {A : Fact} (hA : A ∈ As0) (hN : NearF ws Z0 ∈ As) (hx : ∀ Z w, A.holds Z w → ∃ x, p x ∧ ∀ B ∈ Fs x, B.holds Z w) (h : ∀ x, p x → WE P n ops R ws Z0 Ps0 (Fs x ++ As0) r l Ps (Fs x ++ As)) : WE P n ops R ws Z0 Ps0 As0 r l Ps As := fun h0 Z w a hs ha hS => by
  obtain ⟨x, h1, h2⟩ := hx Z0 ws (h0.facts A hA)
  have hn := hs.facts _ hN
  refine h x h1 ⟨h0.zlt, h0.own, h0.nodup, fun B hB => ?_⟩ Z w a ⟨hs.zlt, hs.own, hs.nodup, fun B hB => ?_⟩ ha hS
  · rcases List.mem_append.1 hB with hB | hB
    · exact h2 B hB
    · exact h0.facts B hB
  · rcases List.mem_append.1 hB with hB | hB
    · exact B.stable (fun b hb => (hn.1 b hb).1) (fun b hb => (hn.1 b hb).2) hn.2.1 hn.2.2.1 hn.2.2.2 (h2 B hB)
    · exact hs.facts B hB
/-- An element of a slice that is read. -/
theorem RdS.elem {α : Type} {e : De α} {Z : Nat → Prop} {w : World} {A : Option Addr} {cap : Nat} {xs : List α} (h : RdS e Z w A cap xs) {k : Nat} {u : α} (hu : xs[k]? = some u) {β : Type} {mk : β → List Value} {Fs : β → List Fact} (ho : ∀ Z w cs, e.rep Z w u cs → ∃ y, cs = mk y ∧ ∀ B ∈ Fs y, B.holds Z w) :
    ∃ x : Nat × Nat × β, A = some ⟨x.1, x.2.1, none⟩ ∧ ∀ B ∈ FzA x.1 (x.2.1 + k * e.sz) (mk x.2.2) :: Fs x.2.2, B.holds Z w := by
  have hlt : k < xs.length := by
    rcases Nat.lt_or_ge k xs.length with h | h
    · exact h
    · simp [List.getElem?_eq_none h] at hu
  obtain ⟨g1, g2, g3 | ⟨b, q, css, rfl, g4, g5, g6⟩⟩ := h
  · rw [g3.1] at hlt; simp at hlt
  · obtain ⟨cs, k1, k2⟩ := g5.at _ _ hu
    obtain ⟨y, k3, k4⟩ := ho Z w cs k2
    subst k3
    refine ⟨(b, q, y), rfl, fun B hB => ?_⟩
    rcases List.mem_cons.1 hB with rfl | hB
    · exact ⟨g4, g6.part (k * e.sz) (flat_at g5.lens _ _ k1)⟩
    · exact k4 B hB
theorem q_idxRd {T E : TypeId} {x ix : Operand} {b q len cap : Nat} {k : Int} {z : Option Value} {sz by_ : Nat} {dd : Option Tmp} {ty : TypeId} {pos : String} {aft : Array Edge} {g : Option (Nat × Bool)} (hu : P.underlying T = some (.slice E)) (ht : ti P E = some (z, sz, by_)) (hx : evs l x = some (.slice (some ⟨b, q, none⟩) len cap)) (hi : evs l ix = some (.int .i64 k)) (h0 : 0 ≤ k) (h1 : k < len) :
    QR P l Ps As ⟨dd, .indexAddr T x ix, ty, pos, aft, g⟩ (.pointer (some ⟨b, q + k.toNat * sz, none⟩)) := fun Z w ρ hs hρ => by
  simp only [execOp, hρ _ _ hx, hρ _ _ hi]; rw [Sem.run_bind, run_indexAt hu ht h0 h1]; rfl
/-- .. in a region whose order is drawn: A is known from then on. -/
theorem WE_elem {α : Type} {e : De α} {A : Option Addr} {cap : Nat} {xs : List α} {k : Nat} {u : α} {β : Type} {mk : β → List Value} {Fs : β → List Fact} (hA : RdF e A cap xs ∈ As0) (hN : NearF ws Z0 ∈ As) (hu : xs[k]? = some u) (ho : ∀ Z w cs, e.rep Z w u cs → ∃ y, cs = mk y ∧ ∀ B ∈ Fs y, B.holds Z w)
    (h : ∀ b q y, A = some ⟨b, q, none⟩ → WE P n ops R ws Z0 Ps0 (FzA b (q + k * e.sz) (mk y) :: (Fs y ++ As0)) r l Ps (FzA b (q + k * e.sz) (mk y) :: (Fs y ++ As))) : WE P n ops R ws Z0 Ps0 As0 r l Ps As :=
  WE_pull (Fs := fun x : Nat × Nat × β => FzA x.1 (x.2.1 + k * e.sz) (mk x.2.2) :: Fs x.2.2) hA hN (fun Z w hR => RdS.elem hR hu ho) fun x hx => h x.1 x.2.1 x.2.2 hx
theorem WL_elem {α : Type} {e : De α} {A : Option Addr} {cap : Nat} {xs : List α} {k : Nat} {u : α} {β : Type} {mk : β → List Value} {Fs : β → List Fact} {rest : List Oper} (hA : RdF e A cap xs ∈ As) (hu : xs[k]? = some u) (ho : ∀ Z w cs, e.rep Z w u cs → ∃ y, cs = mk y ∧ ∀ B ∈ Fs y, B.holds Z w)
    (h : ∀ b q y, A = some ⟨b, q, none⟩ → WL P n ops R rest l Ps (FzA b (q + k * e.sz) (mk y) :: (Fs y ++ As))) : WL P n ops R rest l Ps As :=
  WL_pull (Fs := fun x : Nat × Nat × β => FzA x.1 (x.2.1 + k * e.sz) (mk x.2.2) :: Fs x.2.2) hA (fun Z w hR => RdS.elem hR hu ho) fun x hx => h x.1 x.2.1 x.2.2 hx
theorem WC_elem {α : Type} {e : De α} {A : Option Addr} {cap : Nat} {xs : List α} {k : Nat} {u : α} {β : Type} {mk : β → List Value} {Fs : β → List Fact} {c : Code} (hA : RdF e A cap xs ∈ As) (hu : xs[k]? = some u) (ho : ∀ Z w cs, e.rep Z w u cs → ∃ y, cs = mk y ∧ ∀ B ∈ Fs y, B.holds Z w)
    (h : ∀ b q y, A = some ⟨b, q, none⟩ → WC P n c R l Ps (FzA b (q + k * e.sz) (mk y) :: (Fs y ++ As))) : WC P n c R l Ps As :=
  WC_pull (Fs := fun x : Nat × Nat × β => FzA x.1 (x.2.1 + k * e.sz) (mk x.2.2) :: Fs x.2.2) hA (fun Z w hR => RdS.elem hR hu ho) fun x hx => h x.1 x.2.1 x.2.2 hx
end
end Go.GW

/-! ### Words that the printed walks use -/
namespace Go.GW
section
variable {P : Program} {n : Nat} {R : Post} {l : Fr} {Ps Ps' : List Part} {As : List Fact} {ops : Array Oper} {rest : List Oper} {K : Nx} {ty : TypeId} {pos : String} {aft : Array Edge} {g : Option (Nat × Bool)}
theorem thenN {c : Code} (h : WC P n c R l Ps As) : thenR (WC P n c R) R .normal l Ps As := h
theorem thenK {R' : Post} (h : K l Ps As) : thenR K R' .normal l Ps As := h
theorem thenRet (h : R .ret l Ps As) : thenR K R .ret l Ps As := h
theorem thenExit {id : Nat} (h : R (.exit id) l Ps As) : thenR K R (.exit id) l Ps As := h
theorem blockHit {id : Nat} (h : R .normal l Ps As) : blockR id R (.exit id) l Ps As := by unfold blockR; simpa using h
theorem blockMiss {id id' : Nat} (hne : (id' == id) = false) (h : R (.exit id') l Ps As) : blockR id R (.exit id') l Ps As := by
  have : id' ≠ id := by simpa using hne
  unfold blockR; simpa [this] using h
theorem blockN {id : Nat} (h : R .normal l Ps As) : blockR id R .normal l Ps As := h
theorem blockRet {id : Nat} (h : R .ret l Ps As) : blockR id R .ret l Ps As := h
theorem WL_guard {t : Nat} {b : Bool} (hv : lk l t = some (.bool b)) (h1 : b = true → WL P n ops R rest l Ps As) (h2 : b = false → WL P n ops R rest l Ps As) : WL P n ops R rest l Ps As := by
  cases b with
  | true => exact h1 rfl
  | false => exact h2 rfl
theorem WE_guard {t : Nat} {b : Bool} {Ps0 : List Part} {As0 : List Fact} {ws : World} {Z0 : Nat → Prop} {r : List (Nat × Nat)} (hv : lk l t = some (.bool b)) (h1 : b = true → WE P n ops R ws Z0 Ps0 As0 r l Ps As) (h2 : b = false → WE P n ops R ws Z0 Ps0 As0 r l Ps As) : WE P n ops R ws Z0 Ps0 As0 r l Ps As := by
  cases b with
  | true => exact h1 rfl
  | false => exact h2 rfl
theorem mem0 {α : Type} {L : List α} : ∀ A ∈ ([] : List α), A ∈ L := fun _ h => by cases h
theorem memc {α : Type} {a : α} {l L : List α} (h : a ∈ L) (r : ∀ A ∈ l, A ∈ L) : ∀ A ∈ a :: l, A ∈ L := fun A hA => by
  rcases List.mem_cons.1 hA with rfl | hA
  · exact h
  · exact r A hA
/-- A call that only reads and makes memory. -/
theorem OW_call0 {k : FuncId} {d : Nat} {xs : List Operand} {ts : Array TypeId} {args : List Value} {pre : List Fact} {res : Value → List Part → List Fact → Prop}
    (hsp : Sp P k args [] pre res) (hxs : Evs l xs args) (hd : d < n) (hpre : ∀ A ∈ pre, A ∈ As)
    (h : ∀ v Lo fs, res v Lo fs → K ((d, v) :: l) (Lo ++ Ps) (fs ++ As)) :
    OW P n R l Ps As ⟨some d, .call ⟨.value (.func k), xs.toArray, ts⟩, ty, pos, aft, g⟩ K :=
  OW_call hsp hxs hd (fun hs => hs.subFacts fun A hA => by
    rcases List.mem_append.1 hA with hA | hA
    · exact hpre A hA
    · exact hA) h
/-- A call that a part is handed to. -/
theorem OW_call1 {k : FuncId} {d : Nat} {xs : List Operand} {ts : Array TypeId} {args : List Value} {p : Part} {pre : List Fact} {res : Value → List Part → List Fact → Prop}
    (hsp : Sp P k args [p] pre res) (hxs : Evs l xs args) (hd : d < n) (hp : DelAt Ps p Ps') (hpre : ∀ A ∈ pre, A ∈ As)
    (h : ∀ v Lo fs, res v Lo fs → K ((d, v) :: l) (Lo ++ Ps') (fs ++ As)) :
    OW P n R l Ps As ⟨some d, .call ⟨.value (.func k), xs.toArray, ts⟩, ty, pos, aft, g⟩ K :=
  OW_call hsp hxs hd (fun hs => (hs.permParts hp.perm).subFacts fun A hA => by
    rcases List.mem_append.1 hA with hA | hA
    · exact hpre A hA
    · exact hA) h
theorem Sub.self {l' l : Fr} (h : Sub l' l) : Sub l' l' := by
  intro q hq
  have key : ∀ {l' : Fr}, (∀ p ∈ l', lk l p.1 = some p.2) → ∀ q ∈ l', lk l' q.1 = some q.2 := by
    intro l'
    induction l' with
    | nil => intro _ q hq; cases hq
    | cons a r ih =>
      intro h q hq
      obtain ⟨k, v⟩ := a
      rw [lk_cons]
      by_cases e : q.1 = k
      · rw [if_pos e]
        have h1 := h q hq
        have h2 := h (k, v) List.mem_cons_self
        rw [e, h2] at h1
        exact h1
      · rw [if_neg e]
        rcases List.mem_cons.1 hq with rfl | hq
        · exact absurd rfl e
        · exact ih (fun p hp => h p (List.mem_cons_of_mem _ hp)) q hq
  exact key h q hq
theorem WC_loopE {α : Type} (μ : α → Nat) (fr : α → Fr) (ps : α → List Part) (as : α → List Fact) (p : α → Prop) {c : Code} (x : α) (h0 : p x) (hl : Sub (fr x) l) (hP : (ps x).Sublist Ps) (hA : ∀ A ∈ as x, A ∈ As)
    (round : ∀ x, p x → WC P n c (thenR (fun l' Ps' As' => ∃ x', (μ x' < μ x ∧ p x') ∧ Sub (fr x') l' ∧ (ps x').Sublist Ps' ∧ ∀ A ∈ as x', A ∈ As') R) (fr x) (ps x) (as x)) : WC P n (.loop c) R l Ps As := by
  refine WC_sub hl hP hA (WC_loop μ (fun x l Ps As => p x ∧ Sub (fr x) l ∧ (ps x).Sublist Ps ∧ ∀ A ∈ as x, A ∈ As) x ⟨h0, fun q hq => ?_, List.Sublist.refl _, fun _ h => h⟩ ?_)
  · exact hl.self q hq
  · rintro x l Ps As ⟨h1, h2, h3, h4⟩
    exact WC_sub h2 h3 h4 ((round x h1).mono fun e l Ps As h => by
      cases e <;> first
        | (obtain ⟨x', h5, h6⟩ := h; exact ⟨x', h5.1, h5.2, h6⟩)
        | exact h)
section
variable {Ps0 : List Part} {As0 : List Fact} {r : List (Nat × Nat)} {ws : World} {Z0 : Nat → Prop}
theorem WE_nilPart (h : WE P n ops R ws Z0 Ps0 As0 r l ([] :: Ps) As) : WE P n ops R ws Z0 Ps0 As0 r l Ps As := fun h0 Z w a hs ha => h h0 Z w a hs.nilPart ha
theorem WF_nilPart (h : WF P n ops R ws Z0 Ps0 r l ([] :: Ps) As) : WF P n ops R ws Z0 Ps0 r l Ps As := fun Z w a hs ha => h Z w a hs.nilPart ha
theorem WE_freeze {α : Type} {e : De α} {T : TypeId} {v : Value} {m : Nat} {p : Part} {css : List (List Value)} {xs : List α} (h : Row T e.sz v m css.flatten p) (hp : DelAt Ps p Ps') (hn : m = xs.length) (hr : RepsF e xs css ∈ As)
    (hk : ∀ A cap, v = .slice A xs.length cap → WE P n ops R ws Z0 Ps0 As0 r l Ps' (RdF e A cap xs :: As)) : WE P n ops R ws Z0 Ps0 As0 r l Ps As := fun h0 Z w a hs ha => by
  obtain ⟨A, cap, Z', h1, h2⟩ := hs.freezeRow hp h hn hr
  exact hk A cap h1 h0 Z' w a h2 ha
theorem WF_freeze {α : Type} {e : De α} {T : TypeId} {v : Value} {m : Nat} {p : Part} {css : List (List Value)} {xs : List α} (h : Row T e.sz v m css.flatten p) (hp : DelAt Ps p Ps') (hn : m = xs.length) (hr : RepsF e xs css ∈ As)
    (hk : ∀ A cap, v = .slice A xs.length cap → WF P n ops R ws Z0 Ps0 r l Ps' (RdF e A cap xs :: As)) : WF P n ops R ws Z0 Ps0 r l Ps As := fun Z w a hs ha => by
  obtain ⟨A, cap, Z', h1, h2⟩ := hs.freezeRow hp h hn hr
  exact hk A cap h1 Z' w a h2 ha
theorem WE_fact {A : Fact} (hA : ∀ Z w, St Z w Ps As → A.holds Z w) (h : WE P n ops R ws Z0 Ps0 As0 r l Ps (A :: As)) : WE P n ops R ws Z0 Ps0 As0 r l Ps As := fun h0 Z w a hs ha => h h0 Z w a (hs.addFact (hA Z w hs)) ha
end
/-- The results. -/
theorem RV_own1 {w : World} {Z : Nat → Prop} {T : TypeId} {dd : TypeDesc} {t b o : Nat} {cs : List Value} {T' : TypeId} {v : Value} {rs : List ResultVar} {vs : List Value} (hs : St Z w Ps As) (hu : P.underlying T = some dd) (hd : agg? dd = false) (h : lk l t = some (.pointer (some ⟨b, o, none⟩))) (hb : OwnAt Ps b (cellsO cs T')) (hv : cs[o]? = some v) (hr : RV P l w rs vs) : RV P l w (.cell t T :: rs) (v :: vs) := by
  have h1 := (hs.cells hb).cell hv
  rw [Nat.zero_add] at h1
  exact .cell h (run_loadVar1 hu hd h1) hr
theorem RV_ownN {w : World} {Z : Nat → Prop} {T : TypeId} {dd : TypeDesc} {t b : Nat} {cs : List Value} {T' : TypeId} {z : Option Value} {sz by_ : Nat} {rs : List ResultVar} {vs : List Value} (hs : St Z w Ps As) (hu : P.underlying T = some dd) (hd : agg? dd = true) (ht : ti P T = some (z, sz, by_)) (h : lk l t = some (.pointer (some ⟨b, 0, none⟩))) (hb : OwnAt Ps b (cellsO cs T')) (hl : cs.length = sz) (hr : RV P l w rs vs) : RV P l w (.cell t T :: rs) (.agg cs.toArray :: vs) :=
  .cell h (run_loadVarN hu hd ht hl (hs.cells hb)) hr
theorem St.out {Z : Nat → Prop} {w : World} {Qs : List Part} {As' : List Fact} (hs : St Z w Ps As) (hp : Qs.Sublist Ps) (ha : ∀ A ∈ As', A ∈ As) : ∃ Z', St Z' w Qs As' := ⟨Z, (hs.subParts hp).subFacts ha⟩
end
end Go.GW
