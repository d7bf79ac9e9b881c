/- The walks and laws that this claim's card rests on, part 2. -/
import Derived.Test.YtcjbjkbghgjmdaaGreatDoorWLast
import Derived.Laws.StructEq
import Derived.WideLaws
import Derived.Test.YtcjbjkbghgjmdaaGreatDoorProg
import Derived.Laws.MakeOwn
import Derived.Maps.RangeRun
import Derived.WalkKit
import Derived.ProofKit
import Derived.OpenShut
import Derived.Deep.DeepHandedRow
import Derived.Lib.LaidTab
import Derived.Test.YtcjbjkbghgjmdaaGreatDoorCards
import Derived.WideKeyArgs
import Derived.Test.YtcjbjkbghgjmdaaGreatDoorQA
set_option linter.unusedVariables false
set_option linter.unusedSimpArgs false
open Go.Proofs.Tryz renaming underlying3 → Un3, underlying4 → Un4, underlying9 → Un9, underlying21 → Un21, underlying22 → Un22, underlying26 → Un26, underlying28 → Un28, underlying29 → Un29, underlying30 → Un30, underlying31 → Un31, underlying32 → Un32, underlying34 → Un34, underlying37 → Un37, underlying42 → Un42, underlying44 → Un44, underlying45 → Un45, underlying47 → Un47, underlying51 → Un51, underlying57 → Un57, underlying63 → Un63, underlying65 → Un65, underlying67 → Un67, underlying69 → Un69, underlying70 → Un70, underlying72 → Un72, underlying74 → Un74, underlying76 → Un76, underlying100 → Un100, underlying102 → Un102, underlying104 → Un104, underlying114 → Un114, underlying119 → Un119, underlying130 → Un130, underlying135 → Un135, underlying136 → Un136, underlying138 → Un138, underlying144 → Un144, underlying166 → Un166, underlying169 → Un169, underlying170 → Un170, underlying177 → Un177
/- The rules by which this claim's walks go: regions whose order is drawn: what only reads is taken as_ soon as_ it may come up. -/
namespace Go.GW
open Go
open Go.Proofs.YtcjbjkbghgjmdaaGreatDoorW.PrintLast
/-- The order in which the operations are taken, a tree: one after the other, or either of two first. -/
inductive OT where
  | nil : OT
  | c (i k : Nat) (r : OT) : OT
  | b (x y : OT) : OT
def OT.len : OT → Nat
  | .nil => 0
  | .c _ _ r => r.len + 1
  | .b x y => max x.len y.len
/-- The order in which the operations are taken: 0 reads, 1 looks at no memory, 2 turns memory, 3 the last ones. -/
def eagerOk (md : Region.Mode) (ops : Array Oper) (ds : List Nat) : OT → Array Bool → Bool
  | .nil, l => Region.ready md ops l == []
  | .c i 0 r, l => takeB md ops ds l (l.setIfInBounds i true) i && eagerOk md ops ds r (l.setIfInBounds i true)
  | .c i 1 r, l => anyB md ops l (l.setIfInBounds i true) i && eagerOk md ops ds r (l.setIfInBounds i true)
  | .c i 2 r, l => readyB md ops l (l.setIfInBounds i true) i && !ds.contains i && eagerOk md ops ds r (l.setIfInBounds i true)
  | .c i 3 r, l => readyB md ops l (l.setIfInBounds i true) i && ds.contains i && eagerOk md ops ds r (l.setIfInBounds i true)
  | .c i 4 (.c j _ r), l => Region.ready md ops l == [i, j] && readyB md ops (l.setIfInBounds i true) ((l.setIfInBounds i true).setIfInBounds j true) j && readyB md ops (l.setIfInBounds j true) ((l.setIfInBounds i true).setIfInBounds j true) i && !ds.contains i && !ds.contains j && eagerOk md ops ds r ((l.setIfInBounds i true).setIfInBounds j true)
  | .b (.c i _ x) (.c j _ y), l => Region.ready md ops l == [i, j] && !ds.contains i && !ds.contains j && eagerOk md ops ds x (l.setIfInBounds i true) && eagerOk md ops ds y (l.setIfInBounds j true)
  | _, _ => false
def wpE (P : Program) (ops : Array Oper) (Q : Exit → Act → World → Prop) (S : World → Prop) : OT → Act → World → Prop
  | .nil, a, w => Q .normal a w
  | .c i 0 r, a, w => ∃ o v, ops[i]? = some o ∧ YieldsIf P ops S o v a ∧ S w ∧ wpE P ops Q S r (a.put o.dst v) w
  | .c i 1 r, a, w => ∃ o v, ops[i]? = some o ∧ Yields P ops o v a ∧ wpE P ops Q S r (a.put o.dst v) w
  | .c i 2 r, a, w => (∃ o, ops[i]? = some o) ∧ wpOp P ops Q i (fun a' w' => S w' ∧ wpE P ops Q S r a' w') a w
  | .c i 3 r, a, w => (∃ o, ops[i]? = some o) ∧ wpOp P ops Q i (wpE P ops Q S r) a w
  | .c i 4 (.c j _ r), a, w => wpOp P ops Q i (fun a' w' => S w' ∧ wpOp P ops Q j (fun a' w' => S w' ∧ wpE P ops Q S r a' w') a' w') a w ∧ wpOp P ops Q j (fun a' w' => S w' ∧ wpOp P ops Q i (fun a' w' => S w' ∧ wpE P ops Q S r a' w') a' w') a w
  | .b (.c i _ x) (.c j _ y), a, w => wpOp P ops Q i (fun a' w' => S w' ∧ wpE P ops Q S x a' w') a w ∧ wpOp P ops Q j (fun a' w' => S w' ∧ wpE P ops Q S y a' w') a w
  | _, _, _ => False
section
variable {P : Program} {ops : Array Oper} {Q : Exit → Act → World → Prop} {md : Region.Mode} {S : World → Prop} {ds : List Nat}
theorem readyB_eq {l l' : Array Bool} {i : Nat} (h : readyB md ops l l' i = true) : Region.ready md ops l = [i] ∧ l.setIfInBounds i true = l' := by
  simpa [readyB] using h
theorem wpAnyLast_of_E (hQ : ∀ c a w, ¬ Q (.panic c) a w) : ∀ (order : OT) (l : Array Bool) (fuel : Nat) (a : Act) (w : World), eagerOk md ops ds order l = true → order.len ≤ fuel → wpE P ops Q S order a w → wpAnyLast P md ops Q S ds fuel l a w
  | .nil, l, fuel, a, w, hok, _, h => wpAnyLast_done (by simpa [eagerOk] using hok) h fuel
  | .c i k r, l, fuel, a, w, hok, hf, h => by
    obtain ⟨fuel, rfl⟩ : ∃ m, fuel = m + 1 := ⟨fuel - 1, by simp only [OT.len] at hf; omega⟩
    simp only [OT.len] at hf
    have hf' : r.len ≤ fuel := by omega
    match k, hok, h with
    | 0, hok, h =>
      simp only [eagerOk, Bool.and_eq_true] at hok
      obtain ⟨o, v, h1, h2, h3, h4⟩ := h
      exact take_ _ h1 rfl hok.1 (fun c a w h => absurd h (hQ _ _ _)) h2 h3 rfl (wpAnyLast_of_E hQ r _ fuel _ w hok.2 hf' h4)
    | 1, hok, h =>
      simp only [eagerOk, Bool.and_eq_true] at hok
      obtain ⟨o, v, h1, h2, h4⟩ := h
      exact pure_ _ h1 rfl hok.1 (fun c a w h => absurd h (hQ _ _ _)) h2 rfl (wpAnyLast_of_E hQ r _ fuel _ w hok.2 hf' h4)
    | 2, hok, h =>
      simp only [eagerOk, Bool.and_eq_true] at hok
      obtain ⟨⟨o, h1⟩, h2⟩ := h
      obtain ⟨⟨hr, hd⟩, hrest⟩ := hok
      have hr' := (readyB_eq hr).1
      refine wpAnyLast_ready hr' (by simp) fun j hj => ?_
      simp only [List.mem_singleton] at hj
      subst hj
      exact wpOp_mono (fun a' w' h => ⟨fun _ _ => h.1, wpAnyLast_of_E hQ r _ fuel a' w' hrest hf' h.2⟩) h2
    | 3, hok, h =>
      simp only [eagerOk, Bool.and_eq_true] at hok
      obtain ⟨⟨o, h1⟩, h2⟩ := h
      obtain ⟨⟨hr, hd⟩, hrest⟩ := hok
      have hr' := (readyB_eq hr).1
      refine wpAnyLast_ready hr' (by simp) fun j hj => ?_
      simp only [List.mem_singleton] at hj
      subst hj
      exact wpOp_mono (fun a' w' h => ⟨fun hn => absurd (by simpa using hd) hn, wpAnyLast_of_E hQ r _ fuel a' w' hrest hf' h⟩) h2
    | 4, hok, h =>
      match r, hok, hf', h with
      | .nil, hok, _, h => exact absurd hok (by simp [eagerOk])
      | .b x y, hok, _, h => exact absurd hok (by simp [eagerOk])
      | .c j m r, hok, hf', h =>
        obtain ⟨fuel, rfl⟩ : ∃ m, fuel = m + 1 := ⟨fuel - 1, by simp only [OT.len] at hf'; omega⟩
        simp only [OT.len] at hf'
        have hf2 : r.len ≤ fuel := by omega
        simp only [eagerOk, Bool.and_eq_true] at hok
        obtain ⟨⟨⟨⟨⟨hr, hrj⟩, hri⟩, hdi⟩, hdj⟩, hrest⟩ := hok
        have hr' : Region.ready md ops l = [i, j] := by simpa using hr
        have hj' := readyB_eq hrj
        have hi' := readyB_eq hri
        obtain ⟨g1, g2⟩ := h
        refine wpAnyLast_ready hr' (by simp) fun x hx => ?_
        have hx' : x = i ∨ x = j := by simpa using hx
        rcases hx' with rfl | rfl
        · refine wpOp_mono (fun a' w' h => ⟨fun _ _ => h.1, wpAnyLast_ready hj'.1 (by simp) fun y hy => ?_⟩) g1
          simp only [List.mem_singleton] at hy
          subst hy
          exact wpOp_mono (fun a' w' h => ⟨fun _ _ => h.1, wpAnyLast_of_E hQ r _ fuel a' w' hrest hf2 h.2⟩) h.2
        · refine wpOp_mono (fun a' w' h => ⟨fun _ _ => h.1, wpAnyLast_ready hi'.1 (by simp) fun y hy => ?_⟩) g2
          simp only [List.mem_singleton] at hy
          subst hy
          refine wpOp_mono (fun a' w' h => ⟨fun _ _ => h.1, ?_⟩) h.2
          rw [hi'.2]
          exact wpAnyLast_of_E hQ r _ fuel a' w' hrest hf2 h.2
    | k + 5, hok, h => exact absurd hok (by simp [eagerOk])
  | .b (.c i k x) (.c j m y), l, fuel, a, w, hok, hf, h => by
    obtain ⟨fuel, rfl⟩ : ∃ m, fuel = m + 1 := ⟨fuel - 1, by simp only [OT.len] at hf; omega⟩
    simp only [OT.len] at hf
    simp only [eagerOk, Bool.and_eq_true] at hok
    obtain ⟨⟨⟨⟨hr, hdi⟩, hdj⟩, hx⟩, hy⟩ := hok
    have hr' : Region.ready md ops l = [i, j] := by simpa using hr
    obtain ⟨g1, g2⟩ := h
    refine wpAnyLast_ready hr' (by simp) fun z hz => ?_
    have hz' : z = i ∨ z = j := by simpa using hz
    rcases hz' with rfl | rfl
    · exact wpOp_mono (fun a' w' h => ⟨fun _ _ => h.1, wpAnyLast_of_E hQ x _ fuel a' w' hx (by omega) h.2⟩) g1
    · exact wpOp_mono (fun a' w' h => ⟨fun _ _ => h.1, wpAnyLast_of_E hQ y _ fuel a' w' hy (by omega) h.2⟩) g2
  | .b .nil y, l, fuel, a, w, hok, hf, h => by simp [eagerOk] at hok
  | .b (.b _ _) y, l, fuel, a, w, hok, hf, h => by simp [eagerOk] at hok
  | .b (.c _ _ _) .nil, l, fuel, a, w, hok, hf, h => by simp [eagerOk] at hok
  | .b (.c _ _ _) (.b _ _), l, fuel, a, w, hok, hf, h => by simp [eagerOk] at hok
end
section
variable {P : Program} {n : Nat} {R : Post} {l : Fr} {Ps Ps0 : List Part} {As As0 : List Fact} {ops : Array Oper} {r : OT} {o : Oper} {i : Nat}
/-- What holds all through a region whose order is drawn. -/
def Near (ws : World) (Z0 : Nat → Prop) (Ps0 : List Part) (w : World) : Prop :=
  (∀ b, Z0 b → w.heap[b]? = ws.heap[b]?) ∧ (∀ q ∈ Ps0.flatten, w.heap[q.1]? = some q.2) ∧ w.os = ws.os ∧ w.tape = ws.tape ∧ w.output = ws.output
def NearF (ws : World) (Z0 : Nat → Prop) : Fact where
  holds Z w := (∀ b, Z0 b → Z b ∧ w.heap[b]? = ws.heap[b]?) ∧ w.os = ws.os ∧ w.tape = ws.tape ∧ w.output = ws.output
  stable hz hh h1 h2 h3 h := ⟨fun b hb => ⟨hz b (h.1 b hb).1, (hh b (h.1 b hb).1).trans (h.1 b hb).2⟩, h1.trans h.2.1, h2.trans h.2.2.1, h3.trans h.2.2.2⟩
theorem Near.st {ws w : World} {Z0 : Nat → Prop} (h0 : St Z0 ws Ps0 As0) (h : Near ws Z0 Ps0 w) : St Z0 w Ps0 As0 :=
  ⟨fun b hb => by
    have h1 := h0.zlt b hb
    have h2 := h.1 b hb
    rw [Array.getElem?_eq_getElem h1] at h2
    exact (Array.getElem?_eq_some_iff.1 h2).1, fun q hq => ⟨h.2.1 q hq, (h0.own q hq).2⟩, h0.nodup, fun A hA => A.stable (fun _ hb => hb) h.1 h.2.2.1 h.2.2.2.1 h.2.2.2.2 (h0.facts A hA)⟩
theorem Near.of {ws w : World} {Z Z0 : Nat → Prop} (h : St Z w Ps As) (hP : Ps0.Sublist Ps) (hN : NearF ws Z0 ∈ As) : Near ws Z0 Ps0 w := by
  have h1 := h.facts _ hN
  exact ⟨fun b hb => (h1.1 b hb).2, fun q hq => (h.own q ((flatten_sublist hP).subset hq)).1, h1.2.1, h1.2.2.1, h1.2.2.2⟩
variable {ws : World} {Z0 : Nat → Prop}
def WE (P : Program) (n : Nat) (ops : Array Oper) (R : Post) (ws : World) (Z0 : Nat → Prop) (Ps0 : List Part) (As0 : List Fact) (r : OT) (l : Fr) (Ps : List Part) (As : List Fact) : Prop :=
  St Z0 ws Ps0 As0 → ∀ Z w a, St Z w Ps As → Ag n l a → Near ws Z0 Ps0 w → wpE P ops (liftP n R) (Near ws Z0 Ps0) r a w
theorem WC_draw {id : Nat} (Ps0 : List Part) (As0 : List Fact) (ds : List Nat) (order : OT) (hm : P.follows .mixedOrders = true) (hR : ∀ c l Ps As, ¬ R (.panic c) l Ps As) (hP : Ps0.Sublist Ps) (hA : ∀ A ∈ As0, A ∈ As)
    (hok : eagerOk .any ops ds order (Array.replicate ops.size false) = true) (hl : order.len ≤ ops.size) (h : ∀ ws Z0, WE P n ops R ws Z0 Ps0 As0 order l Ps (NearF ws Z0 :: As)) : WC P n (.region id ops true) R l Ps As := by
  intro Z w a hs ha
  have hs' := hs.drew (w.drawn + 1)
  have h0 := (hs'.subParts hP).subFacts hA
  refine wp_region_last (S := Near { w with drawn := w.drawn + 1 } Z Ps0) (ds := ds) hm ?_
  refine wpAnyLast_of_E ?_ order _ _ a _ hok hl (h { w with drawn := w.drawn + 1 } Z h0 Z _ a (hs'.addFact (A := NearF { w with drawn := w.drawn + 1 } Z) ⟨fun b hb => ⟨hb, rfl⟩, rfl, rfl, rfl⟩) ha ⟨fun _ _ => rfl, fun q hq => (h0.own q hq).1, rfl, rfl, rfl⟩)
  rintro c a w ⟨l, Z, Ps, As, _, _, h⟩
  exact hR _ _ _ _ h
theorem WE_q {d : Nat} {v : Value} {op : Op} {ty : TypeId} {pos : String} {aft : Array Edge} (hi : ops[i]? = some ⟨some d, op, ty, pos, aft, none⟩) (hq : QR P l Ps0 As0 ⟨some d, op, ty, pos, aft, none⟩ v) (hd : d < n) (h : WE P n ops R ws Z0 Ps0 As0 r ((d, v) :: l) Ps As) :
    WE P n ops R ws Z0 Ps0 As0 (.c i 0 r) l Ps As := fun h0 Z w a hs ha hS =>
  ⟨_, v, hi, .inl ⟨rfl, fun w' h' => hq Z0 w' a.eval (h'.st h0) fun x v hx => ha.eval hx⟩, hS, h h0 Z w _ hs (ha.put hd v) hS⟩
/-- An operation that looks at no memory. -/
theorem WE_p {d : Nat} {v : Value} {op : Op} {ty : TypeId} {pos : String} {aft : Array Edge} (hi : ops[i]? = some ⟨some d, op, ty, pos, aft, none⟩) (hq : QR P l [] [] ⟨some d, op, ty, pos, aft, none⟩ v) (hd : d < n) (h : WE P n ops R ws Z0 Ps0 As0 r ((d, v) :: l) Ps As) :
    WE P n ops R ws Z0 Ps0 As0 (.c i 1 r) l Ps As := fun h0 Z w a hs ha hS =>
  ⟨_, v, hi, .inl ⟨rfl, fun w' => hq (fun _ => False) w' a.eval ⟨fun _ h => h.elim, by simp, by simp, by simp⟩ fun x v hx => ha.eval hx⟩, h h0 Z w _ hs (ha.put hd v) hS⟩
/-- Behind one of the last operations. -/
def WF (P : Program) (n : Nat) (ops : Array Oper) (R : Post) (ws : World) (Z0 : Nat → Prop) (Ps0 : List Part) (r : OT) (l : Fr) (Ps : List Part) (As : List Fact) : Prop :=
  ∀ Z w a, St Z w Ps As → Ag n l a → wpE P ops (liftP n R) (Near ws Z0 Ps0) r a w
theorem WF_nil (h : R .normal l Ps As) : WF P n ops R ws Z0 Ps0 .nil l Ps As := fun Z w a hs ha => ⟨l, Z, Ps, As, ha, hs, h⟩
theorem WF_p {d : Nat} {v : Value} {op : Op} {ty : TypeId} {pos : String} {aft : Array Edge} (hi : ops[i]? = some ⟨some d, op, ty, pos, aft, none⟩) (hq : QR P l [] [] ⟨some d, op, ty, pos, aft, none⟩ v) (hd : d < n) (h : WF P n ops R ws Z0 Ps0 r ((d, v) :: l) Ps As) :
    WF P n ops R ws Z0 Ps0 (.c i 1 r) l Ps As := fun Z w a hs ha =>
  ⟨_, v, hi, .inl ⟨rfl, fun w' => hq (fun _ => False) w' a.eval ⟨fun _ h => h.elim, by simp, by simp, by simp⟩ fun x v hx => ha.eval hx⟩, h Z w _ hs (ha.put hd v)⟩
theorem WF_last (hi : ops[i]? = some o) (hg : o.guard = none) (h : OW P n R l Ps As o (WF P n ops R ws Z0 Ps0 r)) : WF P n ops R ws Z0 Ps0 (.c i 3 r) l Ps As := fun Z w a hs ha => by
  refine ⟨⟨o, hi⟩, ?_⟩
  unfold wpOp
  simp only [hi]
  rw [if_pos (by simp [Region.wanted, hg])]
  exact .inl (Oper.wp_mono (fun a w ⟨l, Z, Ps, As, h1, h2, h3⟩ => h3 Z w a h2 h1) (h Z w a hs ha))
theorem WE_end (h : WF P n ops R ws Z0 Ps0 r l Ps As) : WE P n ops R ws Z0 Ps0 As0 r l Ps As := fun _ Z w a hs ha _ => h Z w a hs ha
theorem WE_gq {d j t : Nat} {v : Value} {op : Op} {ty : TypeId} {pos : String} {aft : Array Edge} {b b' : Bool} {ot : Oper} (hi : ops[i]? = some ⟨some d, op, ty, pos, aft, some (j, b')⟩) (hj : ops[j]? = some ot) (hdt : ot.dst = some t) (hv : lk l t = some (.bool b)) (hb : b = b')
    (hq : QR P l Ps0 As0 ⟨some d, op, ty, pos, aft, some (j, b')⟩ v) (hd : d < n) (h : WE P n ops R ws Z0 Ps0 As0 r ((d, v) :: l) Ps As) :
    WE P n ops R ws Z0 Ps0 As0 (.c i 0 r) l Ps As := fun h0 Z w a hs ha hS =>
  ⟨_, v, hi, .inl ⟨by simp [Region.wanted, yielded_of ha hj hdt hv, hb], fun w' h' => hq Z0 w' a.eval (h'.st h0) fun x v hx => ha.eval hx⟩, hS, h h0 Z w _ hs (ha.put hd v) hS⟩
theorem WE_gno {d j t : Nat} {op : Op} {ty : TypeId} {pos : String} {aft : Array Edge} {b b' : Bool} {ot : Oper} (hi : ops[i]? = some ⟨some d, op, ty, pos, aft, some (j, b')⟩) (hj : ops[j]? = some ot) (hdt : ot.dst = some t) (hv : lk l t = some (.bool b)) (hb : b = !b')
    (hd : d < n) (h : WE P n ops R ws Z0 Ps0 As0 r ((d, undef) :: l) Ps As) : WE P n ops R ws Z0 Ps0 As0 (.c i 0 r) l Ps As := fun h0 Z w a hs ha hS =>
  ⟨_, undef, hi, .inr ⟨by simp [Region.wanted, yielded_of ha hj hdt hv, hb], rfl⟩, hS, h h0 Z w _ hs (ha.put hd undef) hS⟩
/-- A guarded call that is not carried out. -/
theorem WE_gnom {d j t : Nat} {op : Op} {ty : TypeId} {pos : String} {aft : Array Edge} {b b' : Bool} {ot : Oper} (hi : ops[i]? = some ⟨some d, op, ty, pos, aft, some (j, b')⟩) (hj : ops[j]? = some ot) (hdt : ot.dst = some t) (hv : lk l t = some (.bool b)) (hb : b = !b')
    (hd : d < n) (h : WE P n ops R ws Z0 Ps0 As0 r ((d, undef) :: l) Ps As) : WE P n ops R ws Z0 Ps0 As0 (.c i 2 r) l Ps As := fun h0 Z w a hs ha hS => by
  refine ⟨⟨_, hi⟩, ?_⟩
  unfold wpOp
  simp only [hi]
  rw [if_neg (by simp [Region.wanted, yielded_of ha hj hdt hv, hb])]
  exact ⟨hS, h h0 Z w _ hs (ha.put hd undef) hS⟩
theorem WE_main (hi : ops[i]? = some o) (hg : o.guard = none) (h : OW P n R l Ps As o (fun l' Ps' As' => (Ps0.Sublist Ps' ∧ NearF ws Z0 ∈ As') ∧ WE P n ops R ws Z0 Ps0 As0 r l' Ps' As')) : WE P n ops R ws Z0 Ps0 As0 (.c i 2 r) l Ps As := fun h0 Z w a hs ha hS => by
  refine ⟨⟨o, hi⟩, ?_⟩
  unfold wpOp
  simp only [hi]
  rw [if_pos (by simp [Region.wanted, hg])]
  exact .inl (Oper.wp_mono (fun a w ⟨l, Z, Ps, As, h1, h2, h3, h4⟩ => ⟨Near.of h2 h3.1 h3.2, h4 h0 Z w a h2 h1 (Near.of h2 h3.1 h3.2)⟩) (h Z w a hs ha))
/-- The call of a guard that is on. -/
theorem WE_gmain {j t : Nat} {b b' : Bool} {ot : Oper} (hi : ops[i]? = some o) (hg : o.guard = some (j, b')) (hj : ops[j]? = some ot) (hdt : ot.dst = some t) (hv : lk l t = some (.bool b)) (hb : b = b')
    (h : OW P n R l Ps As o (fun l' Ps' As' => (Ps0.Sublist Ps' ∧ NearF ws Z0 ∈ As') ∧ WE P n ops R ws Z0 Ps0 As0 r l' Ps' As')) : WE P n ops R ws Z0 Ps0 As0 (.c i 2 r) l Ps As := fun h0 Z w a hs ha hS => by
  refine ⟨⟨o, hi⟩, ?_⟩
  unfold wpOp
  simp only [hi]
  rw [if_pos (by simp [Region.wanted, hg, yielded_of ha hj hdt hv, hb])]
  exact .inl (Oper.wp_mono (fun a w ⟨l, Z, Ps, As, h1, h2, h3, h4⟩ => ⟨Near.of h2 h3.1 h3.2, h4 h0 Z w a h2 h1 (Near.of h2 h3.1 h3.2)⟩) (h Z w a hs ha))
theorem wpOp_OW {Kx : Nx} {Kw : Act → World → Prop} {Z : Nat → Prop} {w : World} {a : Act} (hi : ops[i]? = some o) (hg : o.guard = none) (h : OW P n R l Ps As o Kx) (hs : St Z w Ps As) (ha : Ag n l a)
    (hK : ∀ l' Z' Ps' As' a' w', Kx l' Ps' As' → St Z' w' Ps' As' → Ag n l' a' → Kw a' w') : wpOp P ops (liftP n R) i Kw a w := by
  unfold wpOp
  simp only [hi]
  rw [if_pos (by simp [Region.wanted, hg])]
  exact .inl (Oper.wp_mono (fun a w ⟨l, Z, Ps, As, h1, h2, h3⟩ => hK l Z Ps As a w h3 h2 h1) (h Z w a hs ha))
/-- Either of two first. -/
theorem WE_both {j k m : Nat} {x y : OT} (h1 : WE P n ops R ws Z0 Ps0 As0 (.c i 2 x) l Ps As) (h2 : WE P n ops R ws Z0 Ps0 As0 (.c j 2 y) l Ps As) : WE P n ops R ws Z0 Ps0 As0 (.b (.c i k x) (.c j m y)) l Ps As := fun h0 Z w a hs ha hS =>
  ⟨(h1 h0 Z w a hs ha hS).2, (h2 h0 Z w a hs ha hS).2⟩
/-- Two cells that are made in either order. -/
theorem WE_alloc2 {j d1 d2 m : Nat} {T1 T2 ty1 ty2 : TypeId} {pos1 pos2 : String} {aft1 aft2 : Array Edge} {z1 z2 : Value} {sz1 sz2 by1 by2 : Nat} {cs1 cs2 : List Value} (hi : ops[i]? = some ⟨some d1, .alloc T1, ty1, pos1, aft1, none⟩) (hj : ops[j]? = some ⟨some d2, .alloc T2, ty2, pos2, aft2, none⟩)
    (ht1 : ti P T1 = some (some z1, sz1, by1)) (hc1 : z1.cells = cs1.toArray) (ht2 : ti P T2 = some (some z2, sz2, by2)) (hc2 : z2.cells = cs2.toArray) (hd1 : d1 < n) (hd2 : d2 < n) (hne : d1 ≠ d2) (hP : Ps0.Sublist Ps) (hN : NearF ws Z0 ∈ As)
    (h : ∀ b1 b2, WE P n ops R ws Z0 Ps0 As0 r ((d2, .pointer (some ⟨b2, 0, none⟩)) :: (d1, .pointer (some ⟨b1, 0, none⟩)) :: l) ([(b2, cellsO cs2 T2)] :: [(b1, cellsO cs1 T1)] :: Ps) As) : WE P n ops R ws Z0 Ps0 As0 (.c i 4 (.c j m r)) l Ps As := fun h0 Z w a hs ha hS => by
  have hc : ∀ p : Part, Ps0.Sublist (p :: Ps) := fun p => .cons p hP
  have hcc : ∀ p q : Part, Ps0.Sublist (p :: q :: Ps) := fun p q => .cons p (.cons q hP)
  constructor
  · refine wpOp_OW (Kx := fun l' Ps' As' => ∃ b1, l' = (d1, .pointer (some ⟨b1, 0, none⟩)) :: l ∧ Ps' = [(b1, cellsO cs1 T1)] :: Ps ∧ As' = As) hi rfl (OW_alloc ht1 hc1 hd1 fun b => ⟨b, rfl, rfl, rfl⟩) hs ha ?_
    rintro l' Z' Ps' As' a' w' ⟨b1, rfl, rfl, rfl⟩ hs' ha'
    refine ⟨Near.of hs' (hc _) hN, ?_⟩
    refine wpOp_OW (Kx := fun l' Ps' As'' => ∃ b2, l' = (d2, .pointer (some ⟨b2, 0, none⟩)) :: (d1, .pointer (some ⟨b1, 0, none⟩)) :: l ∧ Ps' = [(b2, cellsO cs2 T2)] :: [(b1, cellsO cs1 T1)] :: Ps ∧ As'' = As') hj rfl (OW_alloc ht2 hc2 hd2 fun b => ⟨b, rfl, rfl, rfl⟩) hs' ha' ?_
    rintro l2 Z2 Ps2 As2 a2 w2 ⟨b2, rfl, rfl, rfl⟩ hs2 ha2
    exact ⟨Near.of hs2 (hcc _ _) hN, h b1 b2 h0 Z2 w2 a2 hs2 ha2 (Near.of hs2 (hcc _ _) hN)⟩
  · refine wpOp_OW (Kx := fun l' Ps' As' => ∃ b2, l' = (d2, .pointer (some ⟨b2, 0, none⟩)) :: l ∧ Ps' = [(b2, cellsO cs2 T2)] :: Ps ∧ As' = As) hj rfl (OW_alloc ht2 hc2 hd2 fun b => ⟨b, rfl, rfl, rfl⟩) hs ha ?_
    rintro l' Z' Ps' As' a' w' ⟨b2, rfl, rfl, rfl⟩ hs' ha'
    refine ⟨Near.of hs' (hc _) hN, ?_⟩
    refine wpOp_OW (Kx := fun l' Ps' As'' => ∃ b1, l' = (d1, .pointer (some ⟨b1, 0, none⟩)) :: (d2, .pointer (some ⟨b2, 0, none⟩)) :: l ∧ Ps' = [(b1, cellsO cs1 T1)] :: [(b2, cellsO cs2 T2)] :: Ps ∧ As'' = As') hi rfl (OW_alloc ht1 hc1 hd1 fun b => ⟨b, rfl, rfl, rfl⟩) hs' ha' ?_
    rintro l2 Z2 Ps2 As2 a2 w2 ⟨b1, rfl, rfl, rfl⟩ hs2 ha2
    have hs3 : St Z2 w2 ([(b2, cellsO cs2 T2)] :: [(b1, cellsO cs1 T1)] :: Ps) As2 := hs2.permParts (by simp only [List.flatten_cons, List.cons_append, List.nil_append]; exact List.Perm.swap _ _ _)
    have ha3 : Ag n ((d2, .pointer (some ⟨b2, 0, none⟩)) :: (d1, .pointer (some ⟨b1, 0, none⟩)) :: l) a2 := by
      refine ⟨ha2.size, ha2.defers, fun t v ht => ha2.get t v ?_⟩
      rw [lk_cons, lk_cons] at ht ⊢
      by_cases e1 : t = d1
      · subst e1; rw [if_neg hne, if_pos rfl] at ht; rw [if_pos rfl]; exact ht
      · by_cases e2 : t = d2
        · subst e2; rw [if_pos rfl] at ht; rw [if_neg e1, if_pos rfl]; exact ht
        · rw [if_neg e2, if_neg e1] at ht; rw [if_neg e1, if_neg e2]; exact ht
    exact ⟨Near.of hs2 (hcc _ _) hN, h b1 b2 h0 Z2 w2 a2 hs3 ha3 (Near.of hs2 (hcc _ _) hN)⟩
/-- An element of a slice that is read. -/
theorem RdS.elem {α : Type} {e : De α} {Z : Nat → Prop} {w : World} {A : Option Addr} {cap : Nat} {xs : List α} (h : RdS e Z w A cap xs) {k : Nat} {u : α} (hu : xs[k]? = some u) {β : Type} {mk : β → List Value} {Fs : β → List Fact} (ho : ∀ Z w cs, e.rep Z w u cs → ∃ y, cs = mk y ∧ ∀ B ∈ Fs y, B.holds Z w) :
    ∃ x : Nat × Nat × β, A = some ⟨x.1, x.2.1, none⟩ ∧ ∀ B ∈ FzA x.1 (x.2.1 + k * e.sz) (mk x.2.2) :: Fs x.2.2, B.holds Z w := by
  have hlt : k < xs.length := by
    rcases Nat.lt_or_ge k xs.length with h | h
    · exact h
    · simp [List.getElem?_eq_none h] at hu
  obtain ⟨g1, g2, g3 | ⟨b, q, css, rfl, g4, g5, g6⟩⟩ := h
  · rw [g3.1] at hlt; simp at hlt
  · obtain ⟨cs, k1, k2⟩ := g5.at _ _ hu
    obtain ⟨y, k3, k4⟩ := ho Z w cs k2
    subst k3
    refine ⟨(b, q, y), rfl, fun B hB => ?_⟩
    rcases List.mem_cons.1 hB with rfl | hB
    · exact ⟨g4, g6.part (k * e.sz) (flat_at g5.lens _ _ k1)⟩
    · exact k4 B hB
theorem q_idxRd {T E : TypeId} {x ix : Operand} {b q len cap : Nat} {k : Int} {z : Option Value} {sz by_ : Nat} {dd : Option Tmp} {ty : TypeId} {pos : String} {aft : Array Edge} {g : Option (Nat × Bool)} (hu : P.underlying T = some (.slice E)) (ht : ti P E = some (z, sz, by_)) (hx : evs l x = some (.slice (some ⟨b, q, none⟩) len cap)) (hi : evs l ix = some (.int .i64 k)) (h0 : 0 ≤ k) (h1 : k < len) :
    QR P l Ps As ⟨dd, .indexAddr T x ix, ty, pos, aft, g⟩ (.pointer (some ⟨b, q + k.toNat * sz, none⟩)) := fun Z w ρ hs hρ => by
  simp only [execOp, hρ _ _ hx, hρ _ _ hi]; rw [Sem.run_bind, run_indexAt hu ht h0 h1]; rfl
theorem WL_elem {α : Type} {e : De α} {A : Option Addr} {cap : Nat} {xs : List α} {k : Nat} {u : α} {β : Type} {mk : β → List Value} {Fs : β → List Fact} {rest : List Oper} (hA : RdF e A cap xs ∈ As) (hu : xs[k]? = some u) (ho : ∀ Z w cs, e.rep Z w u cs → ∃ y, cs = mk y ∧ ∀ B ∈ Fs y, B.holds Z w)
    (h : ∀ b q y, A = some ⟨b, q, none⟩ → WL P n ops R rest l Ps (FzA b (q + k * e.sz) (mk y) :: (Fs y ++ As))) : WL P n ops R rest l Ps As :=
  WL_pull (Fs := fun x : Nat × Nat × β => FzA x.1 (x.2.1 + k * e.sz) (mk x.2.2) :: Fs x.2.2) hA (fun Z w hR => RdS.elem hR hu ho) fun x hx => h x.1 x.2.1 x.2.2 hx
theorem WC_elem {α : Type} {e : De α} {A : Option Addr} {cap : Nat} {xs : List α} {k : Nat} {u : α} {β : Type} {mk : β → List Value} {Fs : β → List Fact} {c : Code} (hA : RdF e A cap xs ∈ As) (hu : xs[k]? = some u) (ho : ∀ Z w cs, e.rep Z w u cs → ∃ y, cs = mk y ∧ ∀ B ∈ Fs y, B.holds Z w)
    (h : ∀ b q y, A = some ⟨b, q, none⟩ → WC P n c R l Ps (FzA b (q + k * e.sz) (mk y) :: (Fs y ++ As))) : WC P n c R l Ps As :=
  WC_pull (Fs := fun x : Nat × Nat × β => FzA x.1 (x.2.1 + k * e.sz) (mk x.2.2) :: Fs x.2.2) hA (fun Z w hR => RdS.elem hR hu ho) fun x hx => h x.1 x.2.1 x.2.2 hx
end
end Go.GW
/-! ### Words that the printed walks use -/
namespace Go.GW
section
variable {P : Program} {n : Nat} {R : Post} {l : Fr} {Ps Ps' : List Part} {As : List Fact} {ops : Array Oper} {rest : List Oper} {K : Nx} {ty : TypeId} {pos : String} {aft : Array Edge} {g : Option (Nat × Bool)}
theorem thenN {c : Code} (h : WC P n c R l Ps As) : thenR (WC P n c R) R .normal l Ps As := h
theorem thenK {R' : Post} (h : K l Ps As) : thenR K R' .normal l Ps As := h
theorem thenRet (h : R .ret l Ps As) : thenR K R .ret l Ps As := h
theorem thenExit {id : Nat} (h : R (.exit id) l Ps As) : thenR K R (.exit id) l Ps As := h
theorem blockHit {id : Nat} (h : R .normal l Ps As) : blockR id R (.exit id) l Ps As := by unfold blockR; simpa using h
theorem blockMiss {id id' : Nat} (hne : (id' == id) = false) (h : R (.exit id') l Ps As) : blockR id R (.exit id') l Ps As := by
  have : id' ≠ id := by simpa using hne
  unfold blockR; simpa [this] using h
theorem blockN {id : Nat} (h : R .normal l Ps As) : blockR id R .normal l Ps As := h
theorem blockRet {id : Nat} (h : R .ret l Ps As) : blockR id R .ret l Ps As := h
theorem WL_guard {t : Nat} {b : Bool} (hv : lk l t = some (.bool b)) (h1 : b = true → WL P n ops R rest l Ps As) (h2 : b = false → WL P n ops R rest l Ps As) : WL P n ops R rest l Ps As := by
  cases b with
  | true => exact h1 rfl
  | false => exact h2 rfl
theorem mem0 {α : Type} {L : List α} : ∀ A ∈ ([] : List α), A ∈ L := fun _ h => by cases h
theorem memc {α : Type} {a : α} {l L : List α} (h : a ∈ L) (r : ∀ A ∈ l, A ∈ L) : ∀ A ∈ a :: l, A ∈ L := fun A hA => by
  rcases List.mem_cons.1 hA with rfl | hA
  · exact h
  · exact r A hA
/-- A call that only reads and makes memory. -/
theorem OW_call0 {k : FuncId} {d : Nat} {xs : List Operand} {ts : Array TypeId} {args : List Value} {pre : List Fact} {res : Value → List Part → List Fact → Prop}
    (hsp : Sp P k args [] pre res) (hxs : Evs l xs args) (hd : d < n) (hpre : ∀ A ∈ pre, A ∈ As)
    (h : ∀ v Lo fs, res v Lo fs → K ((d, v) :: l) (Lo ++ Ps) (fs ++ As)) :
    OW P n R l Ps As ⟨some d, .call ⟨.value (.func k), xs.toArray, ts⟩, ty, pos, aft, g⟩ K :=
  OW_call hsp hxs hd (fun hs => hs.subFacts fun A hA => by
    rcases List.mem_append.1 hA with hA | hA
    · exact hpre A hA
    · exact hA) h
/-- A call that a part is handed to. -/
theorem OW_call1 {k : FuncId} {d : Nat} {xs : List Operand} {ts : Array TypeId} {args : List Value} {p : Part} {pre : List Fact} {res : Value → List Part → List Fact → Prop}
    (hsp : Sp P k args [p] pre res) (hxs : Evs l xs args) (hd : d < n) (hp : DelAt Ps p Ps') (hpre : ∀ A ∈ pre, A ∈ As)
    (h : ∀ v Lo fs, res v Lo fs → K ((d, v) :: l) (Lo ++ Ps') (fs ++ As)) :
    OW P n R l Ps As ⟨some d, .call ⟨.value (.func k), xs.toArray, ts⟩, ty, pos, aft, g⟩ K :=
  OW_call hsp hxs hd (fun hs => (hs.permParts hp.perm).subFacts fun A hA => by
    rcases List.mem_append.1 hA with hA | hA
    · exact hpre A hA
    · exact hA) h
theorem Sub.self {l' l : Fr} (h : Sub l' l) : Sub l' l' := by
  intro q hq
  have key : ∀ {l' : Fr}, (∀ p ∈ l', lk l p.1 = some p.2) → ∀ q ∈ l', lk l' q.1 = some q.2 := by
    intro l'
    induction l' with
    | nil => intro _ q hq; cases hq
    | cons a r ih =>
      intro h q hq
      obtain ⟨k, v⟩ := a
      rw [lk_cons]
      by_cases e : q.1 = k
      · rw [if_pos e]
        have h1 := h q hq
        have h2 := h (k, v) List.mem_cons_self
        rw [e, h2] at h1
        exact h1
      · rw [if_neg e]
        rcases List.mem_cons.1 hq with rfl | hq
        · exact absurd rfl e
        · exact ih (fun p hp => h p (List.mem_cons_of_mem _ hp)) q hq
  exact key h q hq
theorem WC_loopE {α : Type} (μ : α → Nat) (fr : α → Fr) (ps : α → List Part) (as_ : α → List Fact) (p : α → Prop) {c : Code} (x : α) (h0 : p x) (hl : Sub (fr x) l) (hP : (ps x).Sublist Ps) (hA : ∀ A ∈ as_ x, A ∈ As)
    (round : ∀ x, p x → WC P n c (thenR (fun l' Ps' As' => ∃ x', (μ x' < μ x ∧ p x') ∧ Sub (fr x') l' ∧ (ps x').Sublist Ps' ∧ ∀ A ∈ as_ x', A ∈ As') R) (fr x) (ps x) (as_ x)) : WC P n (.loop c) R l Ps As := by
  refine WC_sub hl hP hA (WC_loop μ (fun x l Ps As => p x ∧ Sub (fr x) l ∧ (ps x).Sublist Ps ∧ ∀ A ∈ as_ x, A ∈ As) x ⟨h0, fun q hq => ?_, List.Sublist.refl _, fun _ h => h⟩ ?_)
  · exact hl.self q hq
  · rintro x l Ps As ⟨h1, h2, h3, h4⟩
    exact WC_sub h2 h3 h4 ((round x h1).mono fun e l Ps As h => by
      cases e <;> first
        | (obtain ⟨x', h5, h6⟩ := h; exact ⟨x', h5.1, h5.2, h6⟩)
        | exact h)
section
variable {Ps0 : List Part} {As0 : List Fact} {r : OT} {ws : World} {Z0 : Nat → Prop}
theorem WE_freeze {α : Type} {e : De α} {T : TypeId} {v : Value} {m : Nat} {p : Part} {css : List (List Value)} {xs : List α} (h : Row T e.sz v m css.flatten p) (hp : DelAt Ps p Ps') (hn : m = xs.length) (hr : RepsF e xs css ∈ As)
    (hk : ∀ A cap, v = .slice A xs.length cap → WE P n ops R ws Z0 Ps0 As0 r l Ps' (RdF e A cap xs :: As)) : WE P n ops R ws Z0 Ps0 As0 r l Ps As := fun h0 Z w a hs ha => by
  obtain ⟨A, cap, Z', h1, h2⟩ := hs.freezeRow hp h hn hr
  exact hk A cap h1 h0 Z' w a h2 ha
theorem WE_fact {A : Fact} (hA : ∀ Z w, St Z w Ps As → A.holds Z w) (h : WE P n ops R ws Z0 Ps0 As0 r l Ps (A :: As)) : WE P n ops R ws Z0 Ps0 As0 r l Ps As := fun h0 Z w a hs ha => h h0 Z w a (hs.addFact (hA Z w hs)) ha
end
theorem RV_ownN {w : World} {Z : Nat → Prop} {T : TypeId} {dd : TypeDesc} {t b : Nat} {cs : List Value} {T' : TypeId} {z : Option Value} {sz by_ : Nat} {rs : List ResultVar} {vs : List Value} (hs : St Z w Ps As) (hu : P.underlying T = some dd) (hd : agg? dd = true) (ht : ti P T = some (z, sz, by_)) (h : lk l t = some (.pointer (some ⟨b, 0, none⟩))) (hb : OwnAt Ps b (cellsO cs T')) (hl : cs.length = sz) (hr : RV P l w rs vs) : RV P l w (.cell t T :: rs) (.agg cs.toArray :: vs) :=
  .cell h (run_loadVarN hu hd ht hl (hs.cells hb)) hr
theorem St.out {Z : Nat → Prop} {w : World} {Qs : List Part} {As' : List Fact} (hs : St Z w Ps As) (hp : Qs.Sublist Ps) (ha : ∀ A ∈ As', A ∈ As) : ∃ Z', St Z' w Qs As' := ⟨Z, (hs.subParts hp).subFacts ha⟩
end
end Go.GW

namespace Go.GW
open Go
universe u
section
variable {P : Program} {n : Nat} {R : Post} {l : Fr} {Ps Ps0 : List Part} {As As0 : List Fact} {ops : Array Oper} {rest : List Oper} {ws : World} {Z0 : Nat → Prop} {r : OT} {i : Nat}
theorem Lq {d : Nat} {v : Value} {op : Op} {ty : TypeId} {pos : String} {aft : Array Edge} (hq : QR P l Ps As ⟨some d, op, ty, pos, aft, none⟩ v) (h : WL P n ops R rest ((d, v) :: l) Ps As) (hd : d < n := by decide) : WL P n ops R (⟨some d, op, ty, pos, aft, none⟩ :: rest) l Ps As := WL_q hq hd h
theorem Qe {d : Nat} {v : Value} {op : Op} {ty : TypeId} {pos : String} {aft : Array Edge} (hi : ops[i]? = some ⟨some d, op, ty, pos, aft, none⟩) (hq : QR P l Ps0 As0 ⟨some d, op, ty, pos, aft, none⟩ v) (h : WE P n ops R ws Z0 Ps0 As0 r ((d, v) :: l) Ps As) (hd : d < n := by decide) : WE P n ops R ws Z0 Ps0 As0 (.c i 0 r) l Ps As := WE_q hi hq hd h
theorem Lg {d j t : Nat} {v : Value} {op : Op} {ty : TypeId} {pos : String} {aft : Array Edge} {b : Bool} {ot : Oper} (hj : ops[j]? = some ot) (hdt : ot.dst = some t) (hv : lk l t = some (.bool b)) {b' : Bool} (hb : b = b') (hq : QR P l Ps As ⟨some d, op, ty, pos, aft, some (j, b')⟩ v) (h : WL P n ops R rest ((d, v) :: l) Ps As) (hd : d < n := by decide) : WL P n ops R (⟨some d, op, ty, pos, aft, some (j, b')⟩ :: rest) l Ps As := WL_gq hj hdt hv hb hq hd h
theorem Ln {d j t : Nat} {op : Op} {ty : TypeId} {pos : String} {aft : Array Edge} {b b' : Bool} {ot : Oper} (hj : ops[j]? = some ot) (hdt : ot.dst = some t) (hv : lk l t = some (.bool b)) (hb : b = !b') (h : WL P n ops R rest ((d, undef) :: l) Ps As) (hd : d < n := by decide) : WL P n ops R (⟨some d, op, ty, pos, aft, some (j, b')⟩ :: rest) l Ps As := WL_gno hj hdt hv hb hd h
end
theorem Bp : (∀ {p : Prop} [Decidable p], (decide p = true) = p) ∧ (∀ {p : Prop} {_ : Decidable p}, decide p = false ↔ ¬p) ∧ (∀ (a b : Bool), ((a && b) = true) = (a = true ∧ b = true)) ∧ (∀ (b : Bool), ((!b) = true) = (b = false)) ∧ (∀ (b : Bool), ((!b) = false) = (b = true)) ∧ (∀ (b : Bool), (¬b = true) = (b = false)) ∧ (∀ (b : Bool), (¬b = false) = (b = true)) ∧ (∀ {x y : Bool}, (x && y) = false ↔ x = false ∨ y = false) :=
  ⟨decide_eq_true_eq, decide_eq_false_iff_not, Bool.and_eq_true, Bool.not_eq_true', Bool.not_eq_false', Bool.not_eq_true, Bool.not_eq_false, Bool.and_eq_false_iff⟩
theorem Bq : (∀ {α : Type u} [BEq α] [LawfulBEq α] {a b : α}, (a == b) = true ↔ a = b) ∧ (∀ {α : Type u} [BEq α] [LawfulBEq α] {a b : α}, (a != b) = true ↔ a ≠ b) ∧ (∀ {α : Type u} [BEq α] [LawfulBEq α] {a b : α}, (a == b) = false ↔ a ≠ b) ∧ (∀ {α : Type u} (a b : α), (a ≠ b) = ¬a = b) ∧ (∀ {α : Type u} [BEq α] [LawfulBEq α] {a b : α}, (a != b) = false ↔ a = b) :=
  ⟨beq_iff_eq, bne_iff_ne, beq_eq_false_iff_ne, fun _ _ => rfl, bne_eq_false_iff_eq⟩
end Go.GW
namespace Go.GW
section
variable {α : Type} {x a : α} {l m : List α}
theorem Sk (h : l.Sublist m) : (x :: l).Sublist (x :: m) := h.cons_cons x
theorem Sd (h : l.Sublist m) : l.Sublist (x :: m) := h.cons x
theorem Sr : l.Sublist l := List.Sublist.refl l
theorem M0 : a ∈ a :: l := .head _
theorem M1 {x0 : α} : a ∈ x0 :: a :: l := .tail _ M0
theorem M2 {x0 x1 : α} : a ∈ x0 :: x1 :: a :: l := .tail _ M1
theorem M3 {x0 x1 x2 : α} : a ∈ x0 :: x1 :: x2 :: a :: l := .tail _ M2
theorem M4 {x0 x1 x2 x3 : α} : a ∈ x0 :: x1 :: x2 :: x3 :: a :: l := .tail _ M3
theorem M5 {x0 x1 x2 x3 x4 : α} : a ∈ x0 :: x1 :: x2 :: x3 :: x4 :: a :: l := .tail _ M4
theorem M6 {x0 x1 x2 x3 x4 x5 : α} : a ∈ x0 :: x1 :: x2 :: x3 :: x4 :: x5 :: a :: l := .tail _ M5
theorem M7 {x0 x1 x2 x3 x4 x5 x6 : α} : a ∈ x0 :: x1 :: x2 :: x3 :: x4 :: x5 :: x6 :: a :: l := .tail _ M6
theorem M8 {x0 x1 x2 x3 x4 x5 x6 x7 : α} : a ∈ x0 :: x1 :: x2 :: x3 :: x4 :: x5 :: x6 :: x7 :: a :: l := .tail _ M7
theorem M9 {x0 x1 x2 x3 x4 x5 x6 x7 x8 : α} : a ∈ x0 :: x1 :: x2 :: x3 :: x4 :: x5 :: x6 :: x7 :: x8 :: a :: l := .tail _ M8
theorem M10 {x0 x1 x2 x3 x4 x5 x6 x7 x8 x9 : α} : a ∈ x0 :: x1 :: x2 :: x3 :: x4 :: x5 :: x6 :: x7 :: x8 :: x9 :: a :: l := .tail _ M9
theorem M11 {x0 x1 x2 x3 x4 x5 x6 x7 x8 x9 x10 : α} : a ∈ x0 :: x1 :: x2 :: x3 :: x4 :: x5 :: x6 :: x7 :: x8 :: x9 :: x10 :: a :: l := .tail _ M10
theorem M12 {x0 x1 x2 x3 x4 x5 x6 x7 x8 x9 x10 x11 : α} : a ∈ x0 :: x1 :: x2 :: x3 :: x4 :: x5 :: x6 :: x7 :: x8 :: x9 :: x10 :: x11 :: a :: l := .tail _ M11
theorem M13 {x0 x1 x2 x3 x4 x5 x6 x7 x8 x9 x10 x11 x12 : α} : a ∈ x0 :: x1 :: x2 :: x3 :: x4 :: x5 :: x6 :: x7 :: x8 :: x9 :: x10 :: x11 :: x12 :: a :: l := .tail _ M12
theorem M14 {x0 x1 x2 x3 x4 x5 x6 x7 x8 x9 x10 x11 x12 x13 : α} : a ∈ x0 :: x1 :: x2 :: x3 :: x4 :: x5 :: x6 :: x7 :: x8 :: x9 :: x10 :: x11 :: x12 :: x13 :: a :: l := .tail _ M13
theorem M15 {x0 x1 x2 x3 x4 x5 x6 x7 x8 x9 x10 x11 x12 x13 x14 : α} : a ∈ x0 :: x1 :: x2 :: x3 :: x4 :: x5 :: x6 :: x7 :: x8 :: x9 :: x10 :: x11 :: x12 :: x13 :: x14 :: a :: l := .tail _ M14
theorem M16 {x0 x1 x2 x3 x4 x5 x6 x7 x8 x9 x10 x11 x12 x13 x14 x15 : α} : a ∈ x0 :: x1 :: x2 :: x3 :: x4 :: x5 :: x6 :: x7 :: x8 :: x9 :: x10 :: x11 :: x12 :: x13 :: x14 :: x15 :: a :: l := .tail _ M15
theorem T1 {x0 : α} : ∀ y, y ∈ l → y ∈ x0 :: l := fun _ h => .tail _ h
theorem T2 {x0 x1 : α} : ∀ y, y ∈ l → y ∈ x0 :: x1 :: l := fun _ h => .tail _ (T1 _ h)
theorem T3 {x0 x1 x2 : α} : ∀ y, y ∈ l → y ∈ x0 :: x1 :: x2 :: l := fun _ h => .tail _ (T2 _ h)
theorem T4 {x0 x1 x2 x3 : α} : ∀ y, y ∈ l → y ∈ x0 :: x1 :: x2 :: x3 :: l := fun _ h => .tail _ (T3 _ h)
theorem T5 {x0 x1 x2 x3 x4 : α} : ∀ y, y ∈ l → y ∈ x0 :: x1 :: x2 :: x3 :: x4 :: l := fun _ h => .tail _ (T4 _ h)
theorem T6 {x0 x1 x2 x3 x4 x5 : α} : ∀ y, y ∈ l → y ∈ x0 :: x1 :: x2 :: x3 :: x4 :: x5 :: l := fun _ h => .tail _ (T5 _ h)
theorem T7 {x0 x1 x2 x3 x4 x5 x6 : α} : ∀ y, y ∈ l → y ∈ x0 :: x1 :: x2 :: x3 :: x4 :: x5 :: x6 :: l := fun _ h => .tail _ (T6 _ h)
theorem T8 {x0 x1 x2 x3 x4 x5 x6 x7 : α} : ∀ y, y ∈ l → y ∈ x0 :: x1 :: x2 :: x3 :: x4 :: x5 :: x6 :: x7 :: l := fun _ h => .tail _ (T7 _ h)
theorem T9 {x0 x1 x2 x3 x4 x5 x6 x7 x8 : α} : ∀ y, y ∈ l → y ∈ x0 :: x1 :: x2 :: x3 :: x4 :: x5 :: x6 :: x7 :: x8 :: l := fun _ h => .tail _ (T8 _ h)
theorem T10 {x0 x1 x2 x3 x4 x5 x6 x7 x8 x9 : α} : ∀ y, y ∈ l → y ∈ x0 :: x1 :: x2 :: x3 :: x4 :: x5 :: x6 :: x7 :: x8 :: x9 :: l := fun _ h => .tail _ (T9 _ h)
theorem T11 {x0 x1 x2 x3 x4 x5 x6 x7 x8 x9 x10 : α} : ∀ y, y ∈ l → y ∈ x0 :: x1 :: x2 :: x3 :: x4 :: x5 :: x6 :: x7 :: x8 :: x9 :: x10 :: l := fun _ h => .tail _ (T10 _ h)
theorem T12 {x0 x1 x2 x3 x4 x5 x6 x7 x8 x9 x10 x11 : α} : ∀ y, y ∈ l → y ∈ x0 :: x1 :: x2 :: x3 :: x4 :: x5 :: x6 :: x7 :: x8 :: x9 :: x10 :: x11 :: l := fun _ h => .tail _ (T11 _ h)
theorem T13 {x0 x1 x2 x3 x4 x5 x6 x7 x8 x9 x10 x11 x12 : α} : ∀ y, y ∈ l → y ∈ x0 :: x1 :: x2 :: x3 :: x4 :: x5 :: x6 :: x7 :: x8 :: x9 :: x10 :: x11 :: x12 :: l := fun _ h => .tail _ (T12 _ h)
theorem T14 {x0 x1 x2 x3 x4 x5 x6 x7 x8 x9 x10 x11 x12 x13 : α} : ∀ y, y ∈ l → y ∈ x0 :: x1 :: x2 :: x3 :: x4 :: x5 :: x6 :: x7 :: x8 :: x9 :: x10 :: x11 :: x12 :: x13 :: l := fun _ h => .tail _ (T13 _ h)
theorem T15 {x0 x1 x2 x3 x4 x5 x6 x7 x8 x9 x10 x11 x12 x13 x14 : α} : ∀ y, y ∈ l → y ∈ x0 :: x1 :: x2 :: x3 :: x4 :: x5 :: x6 :: x7 :: x8 :: x9 :: x10 :: x11 :: x12 :: x13 :: x14 :: l := fun _ h => .tail _ (T14 _ h)
theorem T16 {x0 x1 x2 x3 x4 x5 x6 x7 x8 x9 x10 x11 x12 x13 x14 x15 : α} : ∀ y, y ∈ l → y ∈ x0 :: x1 :: x2 :: x3 :: x4 :: x5 :: x6 :: x7 :: x8 :: x9 :: x10 :: x11 :: x12 :: x13 :: x14 :: x15 :: l := fun _ h => .tail _ (T15 _ h)
end
end Go.GW
/- The rules by which this claim's walks go: comparisons, literals, fields, strings, conversions. -/
namespace Go.GW
open Go
theorem run_part1 {P : Program} {T : TypeId} {dd : TypeDesc} {cs : List Value} {o : Nat} {v : Value} {w : World} (hu : P.underlying T = some dd) (hd : agg? dd = false) (hv : cs[o]? = some v) : (part T cs.toArray o).run P w = .ok v w := by
  unfold part
  rw [Sem.run_bind, run_isAgg hu, hd]
  simp [hv]
theorem run_partN {P : Program} {T : TypeId} {dd : TypeDesc} {cs vs : List Value} {o : Nat} {z : Option Value} {sz by_ : Nat} {w : World} (hu : P.underlying T = some dd) (hd : agg? dd = true) (ht : ti P T = some (z, sz, by_)) (hv : (cs.drop o).take sz = vs) : (part T cs.toArray o).run P w = .ok (.agg vs.toArray) w := by
  unfold part
  rw [Sem.run_bind, run_isAgg hu, hd]
  simp only [Result.andThen_ok, if_true, Sem.run_bind, run_sizeOf ht, Sem.run_pure]
  subst hv
  have : cs.toArray.extract o (o + sz) = ((cs.drop o).take sz).toArray := by
    apply Array.ext'
    simp [List.extract_eq_take_drop]
  rw [this]
/-- Two structs or arrays are held against each other. -/
structure EqT (P : Program) (T : TypeId) (xs ys : Array Value) (r : Bool) : Prop where
  guard : P.eqGuardType P.depth T = false
  run : ∀ d w, (Op.equalIn (d + 9) T (.agg xs) (.agg ys)).run P w = .ok r w
theorem eqT_id {P : Program} {T E : TypeId} {z : Option Value} {by_ : Nat} (hu : P.underlying T = some (.array 2 E)) (he : P.underlying E = some (.int .i64)) (ht : ti P E = some (z, 1, by_)) (hg : P.eqGuardType P.depth T = false) (a b c d : Int) :
    EqT P T [.int .i64 a, .int .i64 b].toArray [.int .i64 c, .int .i64 d].toArray (a == c && b == d) := ⟨hg, fun k w => by
  have h1 : ∀ (cs : List Value) (o : Nat) (v : Value) w, cs[o]? = some v → (part E cs.toArray o).run P w = .ok v w := fun cs o v w h => run_part1 he rfl h
  have h2 : ∀ (x y : Int) w, (Op.equalIn (k + 8) E (.int .i64 x) (.int .i64 y)).run P w = .ok (x == y) w := fun x y w => run_equalIn_int w (k + 7) E .i64 .i64 x y he
  rw [Op.equalIn]
  simp only [Sem.run_bind, run_underlying hu, Result.andThen_ok, run_sizeOf ht, Nat.mul_one]
  simp only [Std.Legacy.Range.forIn_eq_forIn_range', Std.Legacy.Range.size, Nat.sub_zero, Nat.add_sub_cancel, Nat.div_one, List.range'_succ, List.range'_zero, List.forIn_cons, List.forIn_nil, Sem.run_bind, h1 [.int .i64 a, .int .i64 b] 0 _ _ rfl, h1 [.int .i64 c, .int .i64 d] 0 _ _ rfl, Result.andThen_ok, h2, Nat.zero_add, h1 [.int .i64 a, .int .i64 b] 1 _ _ rfl, h1 [.int .i64 c, .int .i64 d] 1 _ _ rfl]
  cases h3 : (a == c) <;> cases h4 : (b == d) <;> simp [h1 [.int .i64 a, .int .i64 b] 1 _ _ rfl, h1 [.int .i64 c, .int .i64 d] 1 _ _ rfl, h2, h4]⟩
section
variable {P : Program} {l : Fr} {Ps : List Part} {As : List Fact} {d : Option Tmp} {ty : TypeId} {pos : String} {aft : Array Edge} {g : Option (Nat × Bool)} {t t2 : TypeId} {x y : Operand}
theorem q_aggeql {xs ys : Array Value} {r : Bool} (hx : evs l x = some (.agg xs)) (hy : evs l y = some (.agg ys)) (he : EqT P t xs ys r) : QR P l Ps As ⟨d, .binOp .eql t x y t2, ty, pos, aft, g⟩ (.bool r) := fun Z w ρ hs hρ => by
  simp only [execOp, hρ _ _ hx, hρ _ _ hy, Sem.run_bind, run_eqGuard_agg w .eql t x y xs ys he.guard, Result.andThen_ok, run_eql_struct, he.run 9991 w]; rfl
theorem q_aggneq {xs ys : Array Value} {r : Bool} (hx : evs l x = some (.agg xs)) (hy : evs l y = some (.agg ys)) (he : EqT P t xs ys r) : QR P l Ps As ⟨d, .binOp .neq t x y t2, ty, pos, aft, g⟩ (.bool (!r)) := fun Z w ρ hs hρ => by
  simp only [execOp, hρ _ _ hx, hρ _ _ hy, Sem.run_bind, run_eqGuard_agg w .neq t x y xs ys he.guard, Result.andThen_ok, run_neq_struct, he.run 9991 w]; rfl
theorem q_seql {a b : ByteArray} (hx : evs l x = some (.string a)) (hy : evs l y = some (.string b)) : QR P l Ps As ⟨d, .binOp .eql t x y t2, ty, pos, aft, g⟩ (.bool (a == b)) := fun Z w ρ hs hρ => by
  rw [beq_toListBytes]
  simp [execOp, hρ _ _ hx, hρ _ _ hy, go_sem, binOp, Op.stringOp]
theorem q_sneq {a b : ByteArray} (hx : evs l x = some (.string a)) (hy : evs l y = some (.string b)) : QR P l Ps As ⟨d, .binOp .neq t x y t2, ty, pos, aft, g⟩ (.bool (!(a == b))) := fun Z w ρ hs hρ => by
  rw [beq_toListBytes]
  simp [execOp, hρ _ _ hx, hρ _ _ hy, go_sem, binOp, Op.stringOp]
theorem q_beql' {a b : Bool} (hu : P.underlying t = some .bool) (hx : evs l x = some (.bool a)) (hy : evs l y = some (.bool b)) : QR P l Ps As ⟨d, .binOp .eql t x y t2, ty, pos, aft, g⟩ (.bool (a == b)) := fun Z w ρ hs hρ => by
  have h := run_equalIn_bool' (P := P) w 9999 t a b hu
  simp [execOp, hρ _ _ hx, hρ _ _ hy, go_sem, binOp, Op.equal, Op.maxDepth, h]
theorem q_bneq' {a b : Bool} (hu : P.underlying t = some .bool) (hx : evs l x = some (.bool a)) (hy : evs l y = some (.bool b)) : QR P l Ps As ⟨d, .binOp .neq t x y t2, ty, pos, aft, g⟩ (.bool (!(a == b))) := fun Z w ρ hs hρ => by
  have h := run_equalIn_bool' (P := P) w 9999 t a b hu
  simp [execOp, hρ _ _ hx, hρ _ _ hy, go_sem, binOp, Op.equal, Op.maxDepth, h]
/-- A pointer held against nil. -/
theorem run_eqp {e : TypeId} {a b : Option Addr} (hu : P.underlying t = some (.pointer e)) (hn : a.isNone = true ∨ b.isNone = true) (k : Nat) (w : World) : (Op.equalIn (k + 1) t (.pointer a) (.pointer b)).run P w = .ok (a.isNone && b.isNone) w := by
  rw [Op.equalIn, Sem.run_bind, run_underlying hu, Result.andThen_ok]
  rcases a with _ | a <;> rcases b with _ | b <;> first | rfl | simp at hn
theorem q_peql {e : TypeId} {a b : Option Addr} (hu : P.underlying t = some (.pointer e)) (hx : evs l x = some (.pointer a)) (hy : evs l y = some (.pointer b)) (hn : a.isNone = true ∨ b.isNone = true) : QR P l Ps As ⟨d, .binOp .eql t x y t2, ty, pos, aft, g⟩ (.bool (a.isNone && b.isNone)) := fun Z w ρ hs hρ => by
  have h0 : binOp .eql t (.pointer a) (.pointer b) = (do pure (.bool (← Op.equalIn (9999 + 1) t (.pointer a) (.pointer b)))) := rfl
  simp only [execOp, hρ _ _ hx, hρ _ _ hy, eqGuard_at_pointer, h0, Sem.run_bind, run_eqp hu hn, Result.andThen_ok, Sem.run_pure]
theorem q_pneq {e : TypeId} {a b : Option Addr} (hu : P.underlying t = some (.pointer e)) (hx : evs l x = some (.pointer a)) (hy : evs l y = some (.pointer b)) (hn : a.isNone = true ∨ b.isNone = true) : QR P l Ps As ⟨d, .binOp .neq t x y t2, ty, pos, aft, g⟩ (.bool (!(a.isNone && b.isNone))) := fun Z w ρ hs hρ => by
  have h0 : binOp .neq t (.pointer a) (.pointer b) = (do pure (.bool (!(← Op.equalIn (9999 + 1) t (.pointer a) (.pointer b))))) := rfl
  simp only [execOp, hρ _ _ hx, hρ _ _ hy, eqGuard_at_pointer, h0, Sem.run_bind, run_eqp hu hn, Result.andThen_ok, Sem.run_pure]
/-- A literal: its run is a closed fact of the program's types. -/
inductive EvP (l : Fr) : List (Nat × Operand) → List (Nat × Value) → Prop
  | nil : EvP l [] []
  | cons {i : Nat} {x : Operand} {v : Value} {xs : List (Nat × Operand)} {vs : List (Nat × Value)} (h : evs l x = some v) (hr : EvP l xs vs) : EvP l ((i, x) :: xs) ((i, v) :: vs)
theorem EvP.map {l : Fr} {xs : List (Nat × Operand)} {vs : List (Nat × Value)} (h : EvP l xs vs) {ρ : Operand → Value} (hρ : ∀ x v, evs l x = some v → ρ x = v) : xs.map (fun (i, x) => (i, ρ x)) = vs := by
  induction h with
  | nil => rfl
  | cons h hr ih => simp [hρ _ _ h, ih]
theorem q_build {T : TypeId} {xs : List (Nat × Operand)} {vs : List (Nat × Value)} {v : Value} (hx : EvP l xs vs) (hb : ∀ w, (Instr.build T vs.toArray).run P w = .ok v w) : QR P l Ps As ⟨d, .build T xs.toArray, ty, pos, aft, g⟩ v := fun Z w ρ hs hρ => by
  have h := hx.map hρ
  simp only [execOp, List.map_toArray, h, Sem.run_bind, hb, Result.andThen_ok, Sem.run_pure]
theorem q_part {T : TypeId} {x : Operand} {f : Nat} {u v : Value} (hx : evs l x = some u) (hb : ∀ w, (Instr.field T u f).run P w = .ok v w) : QR P l Ps As ⟨d, .field T x f, ty, pos, aft, g⟩ v := fun Z w ρ hs hρ => by
  simp only [execOp, hρ _ _ hx, Sem.run_bind, hb, Result.andThen_ok, Sem.run_pure]
theorem q_conv {src dst : TypeId} {x : Operand} {u v : Value} (hx : evs l x = some u) (hb : ∀ w, (convert src dst u).run P w = .ok v w) : QR P l Ps As ⟨d, .convert src dst x, ty, pos, aft, g⟩ v := fun Z w ρ hs hρ => by
  simp only [execOp, hρ _ _ hx, Sem.run_bind, hb, Result.andThen_ok, Sem.run_pure]
/-- Division. -/
theorem q_rem {k : IntKind} {a b c : Int} (hx : evs l x = some (.int k a)) (hy : evs l y = some (.int k b)) (hb : b ≠ 0) (hc : a.tmod b = c) : QR P l Ps As ⟨d, .binOp .rem t x y t2, ty, pos, aft, g⟩ (.int k c) := fun Z w ρ hs hρ => by
  subst hc
  simp [execOp, hρ _ _ hx, hρ _ _ hy, go_sem, Op.intDiv, hb]
theorem q_quo {k : IntKind} {a b c : Int} (hx : evs l x = some (.int k a)) (hy : evs l y = some (.int k b)) (hb : b ≠ 0) (hc : k.wrap (a.tdiv b) = c) : QR P l Ps As ⟨d, .binOp .quo t x y t2, ty, pos, aft, g⟩ (.int k c) := fun Z w ρ hs hρ => by
  subst hc
  simp [execOp, hρ _ _ hx, hρ _ _ hy, go_sem, Op.intDiv, hb]
/-- Texts laid together. -/
theorem q_cat {a b : ByteArray} (hx : evs l x = some (.string a)) (hy : evs l y = some (.string b)) (hl : a.size + b.size ≤ 9223372036854775807) : QR P l Ps As ⟨d, .binOp .add t x y t2, ty, pos, aft, g⟩ (.string (a ++ b)) := fun Z w ρ hs hρ => by
  have h0 : eqGuard .add t x y (.string a) (.string b) = pure () := rfl
  have h1 : binOp .add t (.string a) (.string b) = Op.stringOp .add a b := rfl
  simp only [execOp, hρ _ _ hx, hρ _ _ hy, h0, h1, Sem.run_bind, Sem.run_pure, Result.andThen_ok, Op.stringOp]
  rw [if_neg (by simp; omega)]
  rfl
end
end Go.GW
/- The types of the program that the walks name. -/
namespace Go.Proofs.YtcjbjkbghgjmdaaGreatDoor
open Go Go.GW
theorem ti3 : ti Tryz.prog 3 = some (some (.int .i64 0), 1, 8) := by kernel_rfl
theorem ti4 : ti Tryz.prog 4 = some (some (.bool false), 1, 1) := by kernel_rfl
theorem ti5 : ti Tryz.prog 5 = some (some (.int .u8 0), 1, 1) := by kernel_rfl
theorem ti9 : ti Tryz.prog 9 = some (some (.string ⟨#[]⟩), 1, 16) := by kernel_rfl
theorem ti21 : ti Tryz.prog 21 = some (some (.int .i32 0), 1, 4) := by kernel_rfl
theorem ti26 : ti Tryz.prog 26 = some (some (.slice none 0 0), 1, 24) := by kernel_rfl
theorem ti28 : ti Tryz.prog 28 = some (some (.pointer none), 1, 8) := by kernel_rfl
theorem ti29 : ti Tryz.prog 29 = some (some (.pointer none), 1, 8) := by kernel_rfl
theorem ti30 : ti Tryz.prog 30 = some (some (.slice none 0 0), 1, 24) := by kernel_rfl
theorem ti31 : ti Tryz.prog 31 = some (some (.slice none 0 0), 1, 24) := by kernel_rfl
theorem ti32 : ti Tryz.prog 32 = some (some (.agg #[.int .i64 0, .int .i64 0, .int .i64 0, .int .i64 0, .int .i64 0, .int .i64 0, .int .i64 0, .int .i64 0, .int .i64 0]), 9, 72) := by kernel_rfl
theorem ti37 : ti Tryz.prog 37 = some (some (.agg #[.int .i64 0, .int .i64 0]), 2, 16) := by kernel_rfl
theorem ti42 : ti Tryz.prog 42 = some (some (.int .i64 0), 1, 8) := by kernel_rfl
theorem ti44 : ti Tryz.prog 44 = some (some (.agg #[.int .i64 0, .int .i64 0, .int .i64 0]), 3, 24) := by kernel_rfl
theorem ti45 : ti Tryz.prog 45 = some (some (.slice none 0 0), 1, 24) := by kernel_rfl
theorem ti47 : ti Tryz.prog 47 = some (some (.agg #[.int .i64 0, .int .i64 0, .int .i64 0, .int .i64 0, .string ⟨#[]⟩, .slice none 0 0, .int .i64 0, .int .i64 0, .bool false]), 9, 96) := by kernel_rfl
theorem ti51 : ti Tryz.prog 51 = some (some (.slice none 0 0), 1, 24) := by kernel_rfl
theorem ti57 : ti Tryz.prog 57 = some (some (.agg #[.int .i64 0, .int .i64 0, .int .i64 0, .bool false, .slice none 0 0, .int .i64 0, .int .i64 0]), 7, 72) := by kernel_rfl
theorem ti63 : ti Tryz.prog 63 = some (some (.agg #[.int .i64 0, .int .i64 0, .int .i64 0, .int .i64 0, .int .i64 0, .int .i64 0]), 6, 48) := by kernel_rfl
theorem ti65 : ti Tryz.prog 65 = some (some (.map none), 1, 8) := by kernel_rfl
theorem ti69 : ti Tryz.prog 69 = some (some (.agg #[.int .i64 0, .int .i64 0, .int .i64 0, .int .i64 0, .int .i64 0, .int .i64 0]), 6, 48) := by kernel_rfl
theorem ti70 : ti Tryz.prog 70 = some (some (.pointer none), 1, 8) := by kernel_rfl
theorem ti74 : ti Tryz.prog 74 = some (some (.pointer none), 1, 8) := by kernel_rfl
theorem ti100 : ti Tryz.prog 100 = some (some (.slice none 0 0), 1, 24) := by kernel_rfl
theorem ti102 : ti Tryz.prog 102 = some (some (.agg #[.slice none 0 0, .int .i64 0]), 2, 32) := by kernel_rfl
theorem ti104 : ti Tryz.prog 104 = some (some (.agg #[.int .i64 0, .int .i64 0, .int .i64 0, .int .i64 0, .int .i64 0, .int .i64 0, .pointer none, .pointer none, .slice none 0 0, .int .i64 0, .int .i64 0]), 11, 104) := by kernel_rfl
theorem ti119 : ti Tryz.prog 119 = some (some (.agg #[.int .i64 0, .int .i64 0]), 2, 16) := by kernel_rfl
theorem ti135 : ti Tryz.prog 135 = some (some (.pointer none), 1, 8) := by kernel_rfl
theorem ti136 : ti Tryz.prog 136 = some (some (.slice none 0 0), 1, 24) := by kernel_rfl
theorem ti138 : ti Tryz.prog 138 = some (some (.agg #[.pointer none, .slice none 0 0]), 2, 32) := by kernel_rfl
theorem ti169 : ti Tryz.prog 169 = some (some (.agg #[.int .i32 0, .int .i32 0]), 2, 8) := by kernel_rfl
theorem ti170 : ti Tryz.prog 170 = some (some (.agg #[.int .i32 0, .int .i32 0, .int .i32 0, .int .i32 0, .int .i32 0, .int .i32 0, .int .i32 0, .int .i32 0, .int .i32 0, .int .i32 0]), 10, 40) := by kernel_rfl
end Go.Proofs.YtcjbjkbghgjmdaaGreatDoor
/- The program's data as_ Lean's: ranges, operations; how they lie in memory. -/
namespace Go.Proofs.YtcjbjkbghgjmdaaGreatDoor
open Go Go.GW
theorem mixed : Tryz.prog.follows .mixedOrders = true := by kernel_rfl
@[ext] structure Rg where
  lo : Int
  hi : Int
deriving DecidableEq, Repr
@[ext] structure GOp where
  c : Int
  n : Int
  kind : Int
  at_ : Int
  text : ByteArray
  rs : List Rg
  tc : Int
  tn : Int
  on : Bool
def rgC (x : Rg) : List Value := [.int .i64 x.lo, .int .i64 x.hi]
def rgD : De Rg where
  sz := 2
  rep _ _ x cs := cs = rgC x
  len h := by subst h; rfl
  one h := by subst h; rfl
  stable _ _ _ _ _ h := h
def opC (o : GOp) (A : Option Addr) (c : Nat) : List Value :=
  [.int .i64 o.c, .int .i64 o.n, .int .i64 o.kind, .int .i64 o.at_, .string o.text, .slice A o.rs.length c, .int .i64 o.tc, .int .i64 o.tn, .bool o.on]
def opV (o : GOp) (A : Option Addr) (c : Nat) : Value := .agg (opC o A c).toArray
def opD : De GOp where
  sz := 9
  rep Z w o cs := ∃ A c, cs = opC o A c ∧ RdS rgD Z w A c o.rs
  len h := by obtain ⟨A, c, rfl, _⟩ := h; rfl
  one h := by obtain ⟨A, c, rfl, _⟩ := h; rfl
  stable hz hh h1 h2 h3 h := by
    obtain ⟨A, c, g1, g2⟩ := h
    exact ⟨A, c, g1, (RdF rgD A c _).stable hz hh h1 h2 h3 g2⟩
theorem rg_open (u : Rg) : ∀ Z w cs, rgD.rep Z w u cs → ∃ y : Unit, cs = rgC u ∧ ∀ B ∈ ([] : List Fact), B.holds Z w := fun _ _ _ h => ⟨(), h, fun _ h => by cases h⟩
theorem op_open (u : GOp) : ∀ Z w cs, opD.rep Z w u cs → ∃ y : Option Addr × Nat, cs = opC u y.1 y.2 ∧ ∀ B ∈ [RdF rgD y.1 y.2 u.rs], B.holds Z w := fun _ _ _ h => by
  obtain ⟨A, c, h1, h2⟩ := h
  exact ⟨(A, c), h1, fun B hB => by simp only [List.mem_singleton] at hB; subst hB; exact h2⟩
theorem eq37 (a b c d : Int) : EqT Tryz.prog 37 #[.int .i64 a, .int .i64 b] #[.int .i64 c, .int .i64 d] (a == c && b == d) := eqT_id Tryz.underlying37 Tryz.underlying3 ti3 (by kernel_rfl) a b c d
/-- What a function that makes nothing answers. -/
def Is (u : Value) : Value → List Part → List Fact → Prop := fun v Lo fs => v = u ∧ Lo = [] ∧ fs = []
end Go.Proofs.YtcjbjkbghgjmdaaGreatDoor
/- Plain lists of ranges: what span's functions compute; their cells. -/
namespace Go.Proofs.YtcjbjkbghgjmdaaGreatDoor
open Go Go.GW
/-- The cells of a list of ranges. -/
def rgs (xs : List Rg) : List Value := (xs.map rgC).flatten
theorem rgs_append (xs ys : List Rg) : rgs (xs ++ ys) = rgs xs ++ rgs ys := by simp [rgs]
theorem rgs_length (xs : List Rg) : (rgs xs).length = xs.length * 2 := by
 induction xs with
 | nil => rfl
 | cons x xs ih => simp only [rgs, List.map_cons, List.flatten_cons, List.length_append, List.length_cons] at ih ⊢; rw [ih]; simp [rgC]; omega
theorem rgs_one (x : Rg) : rgs [x] = rgC x := by simp [rgs]
theorem rgs_reps (xs : List Rg) (Z : Nat → Prop) (w : World) : Reps (rgD.rep Z w) xs (xs.map rgC) := by
 induction xs with
 | nil => exact .nil
 | cons x xs ih => exact .cons rfl ih
theorem rgs_last (ys : List Rg) (r : Rg) (jk : List Value) : (rgs (ys ++ [r]) ++ jk)[ys.length * 2 + 1]? = some (.int .i64 r.hi) := by
 rw [rgs_append, rgs_one, List.append_assoc, List.getElem?_append_right (by rw [rgs_length]; omega), rgs_length, show ys.length * 2 + 1 - ys.length * 2 = 1 from by omega]
 rfl
theorem rgs_set (ys : List Rg) (r : Rg) (m : Int) (jk : List Value) : (rgs (ys ++ [r]) ++ jk).set (ys.length * 2 + 1) (.int .i64 m) = rgs (ys ++ [⟨r.lo, m⟩]) ++ jk := by
 rw [rgs_append, rgs_one, List.append_assoc, rgs_append, rgs_one, List.append_assoc, List.set_append_right _ _ (by rw [rgs_length]; omega), rgs_length, show ys.length * 2 + 1 - ys.length * 2 = 1 from by omega]
 rfl
/-- add: a range behind a list. -/
def addF (xs : List Rg) (lo hi : Int) : List Rg :=
 if hi ≤ lo then xs else match xs.getLast? with
  | some r => if lo ≤ r.hi then xs.dropLast ++ [⟨r.lo, max r.hi hi⟩] else xs ++ [⟨lo, hi⟩]
  | none => [⟨lo, hi⟩]
theorem addF_len (xs : List Rg) (lo hi : Int) : (addF xs lo hi).length ≤ xs.length + 1 := by
 unfold addF
 split
 ·omega
 ·split
  ·rename_i r hr
   split
   ·simp
   ·simp
  ·simp
theorem addF_skip {xs : List Rg} {lo hi : Int} (h : hi ≤ lo) : addF xs lo hi = xs := by simp [addF, h]
theorem addF_nil {lo hi : Int} (h : ¬ hi ≤ lo) : addF [] lo hi = [⟨lo, hi⟩] := by simp [addF, h]
theorem addF_join {ys : List Rg} {r : Rg} {lo hi : Int} (h : ¬ hi ≤ lo) (h2 : lo ≤ r.hi) : addF (ys ++ [r]) lo hi = ys ++ [⟨r.lo, max r.hi hi⟩] := by simp [addF, h, h2]
theorem addF_more {ys : List Rg} {r : Rg} {lo hi : Int} (h : ¬ hi ≤ lo) (h2 : ¬ lo ≤ r.hi) : addF (ys ++ [r]) lo hi = ys ++ [r] ++ [⟨lo, hi⟩] := by simp [addF, h, h2]
/-- Check: the first range that can't stand there. -/
def ckAt (i : Int) : Option Rg → List Rg → Int × Int
 | _, [] => (0, 0)
 | p, r :: rs =>
  if r.lo < 0 ∨ r.hi > 1048576 ∨ r.lo ≥ r.hi then (i, 20)
  else if (match p with | some q => decide (r.lo ≤ q.hi) | none => false) = true then (i, 22)
  else ckAt (i + 1) (some r) rs
def ckF (xs : List Rg) : Int × Int := if xs.length > 32768 then (32768, 21) else ckAt 0 none xs
/-- Through. -/
def thrL (at_ n : Int) (acc : List Rg) : List Rg → List Rg
 | [] => acc
 | r :: rs => thrL at_ n (addF (addF acc r.lo (min r.hi at_)) (max r.lo at_ + n) (r.hi + n)) rs
def boundF (xs : List Rg) : List Rg × Int := if xs.length > 32768 then ([], 21) else (xs, 0)
def thrF (xs : List Rg) (at_ n : Int) : List Rg × Int :=
 if (ckF xs).2 ≠ 0 then ([], (ckF xs).2)
 else if at_ < 0 ∨ at_ > 1048576 ∨ n < 0 ∨ n > 1048576 then ([], 12)
 else match xs.getLast? with
  | some r => if r.hi > at_ ∧ r.hi + n > 1048576 then ([], 24) else boundF (thrL at_ n [] xs)
  | none => boundF (thrL at_ n [] xs)
end Go.Proofs.YtcjbjkbghgjmdaaGreatDoor
namespace Go.Proofs.YtcjbjkbghgjmdaaGreatDoor
open Go Go.GW
theorem ckAt_bad {i : Int} {p : Option Rg} {r : Rg} {rs : List Rg} (h : r.lo < 0 ∨ r.hi > 1048576 ∨ r.lo ≥ r.hi) : ckAt i p (r :: rs) = (i, 20) := by
 cases p <;> rw [ckAt, if_pos h]
theorem ckAt_ord {i : Int} {q r : Rg} {rs : List Rg} (h : ¬ (r.lo < 0 ∨ r.hi > 1048576 ∨ r.lo ≥ r.hi)) (h2 : r.lo ≤ q.hi) : ckAt i (some q) (r :: rs) = (i, 22) := by
 rw [ckAt, if_neg h, if_pos (by simpa using h2)]
theorem ckAt_next {i : Int} {q r : Rg} {rs : List Rg} (h : ¬ (r.lo < 0 ∨ r.hi > 1048576 ∨ r.lo ≥ r.hi)) (h2 : ¬ r.lo ≤ q.hi) : ckAt i (some q) (r :: rs) = ckAt (i + 1) (some r) rs := by
 rw [ckAt, if_neg h, if_neg (by simpa using h2)]
theorem ckAt_first {i : Int} {r : Rg} {rs : List Rg} (h : ¬ (r.lo < 0 ∨ r.hi > 1048576 ∨ r.lo ≥ r.hi)) : ckAt i none (r :: rs) = ckAt (i + 1) (some r) rs := by
 rw [ckAt, if_neg h, if_neg (by simp)]
def pv (xs : List Rg) (k : Nat) : Option Rg := if k = 0 then none else xs[k - 1]?
/-- What holds of Check's loop. -/
def CkI (xs : List Rg) (k : Nat) : Prop := k ≤ xs.length ∧ ckF xs = ckAt k (pv xs k) (xs.drop k)
theorem CkI.zero {xs : List Rg} (h : ¬ xs.length > 32768) : CkI xs 0 := ⟨Nat.zero_le _, by simp [ckF, h, pv]⟩
theorem CkI.done {xs : List Rg} {k : Nat} (h : CkI xs k) (hk : ¬ k < xs.length) : ckF xs = (0, 0) := by
 have : k = xs.length := by have := h.1; omega
 rw [h.2, List.drop_eq_nil_of_le (by omega)]
 cases pv xs k <;> rfl
theorem CkI.drop {xs : List Rg} {k : Nat} (hk : k < xs.length) : xs.drop k = xs[k] :: xs.drop (k + 1) := List.drop_eq_getElem_cons hk
theorem CkI.bad {xs : List Rg} {k : Nat} (h : CkI xs k) (hk : k < xs.length) (hb : xs[k].lo < 0 ∨ xs[k].hi > 1048576 ∨ xs[k].lo ≥ xs[k].hi) : ckF xs = (↑k, 20) := by
 rw [h.2, CkI.drop hk, ckAt_bad hb]
theorem CkI.ord {xs : List Rg} {k : Nat} (h : CkI xs (k + 1)) (hk : k + 1 < xs.length) (hb : ¬ (xs[k + 1].lo < 0 ∨ xs[k + 1].hi > 1048576 ∨ xs[k + 1].lo ≥ xs[k + 1].hi)) (h2 : xs[k + 1].lo ≤ (xs[k]'(by omega)).hi) : ckF xs = (↑(k + 1), 22) := by
 rw [h.2, CkI.drop hk, pv, if_neg (by omega), Nat.add_sub_cancel, List.getElem?_eq_getElem (by omega), ckAt_ord hb h2]
theorem CkI.next {xs : List Rg} {k : Nat} (h : CkI xs (k + 1)) (hk : k + 1 < xs.length) (hb : ¬ (xs[k + 1].lo < 0 ∨ xs[k + 1].hi > 1048576 ∨ xs[k + 1].lo ≥ xs[k + 1].hi)) (h2 : ¬ xs[k + 1].lo ≤ (xs[k]'(by omega)).hi) : CkI xs (k + 1 + 1) := by
 refine ⟨hk, ?_⟩
 rw [h.2, CkI.drop hk, pv, if_neg (by omega), Nat.add_sub_cancel, List.getElem?_eq_getElem (by omega), ckAt_next hb h2, pv, if_neg (by omega), Nat.add_sub_cancel, List.getElem?_eq_getElem hk]
 rfl
theorem CkI.first {xs : List Rg} (h : CkI xs 0) (hk : 0 < xs.length) (hb : ¬ (xs[0].lo < 0 ∨ xs[0].hi > 1048576 ∨ xs[0].lo ≥ xs[0].hi)) : CkI xs (0 + 1) := by
 refine ⟨hk, ?_⟩
 rw [h.2, CkI.drop hk, pv, if_pos rfl, ckAt_first hb, pv, if_neg (by omega), Nat.add_sub_cancel, List.getElem?_eq_getElem hk]
 rfl
end Go.Proofs.YtcjbjkbghgjmdaaGreatDoor
namespace Go.Proofs.YtcjbjkbghgjmdaaGreatDoor
open Go Go.GW
theorem ckAt_good : ∀ (rs : List Rg) (i : Int) (p : Option Rg), (ckAt i p rs).2 = 0 → ∀ r ∈ rs, 0 ≤ r.lo ∧ r.lo < r.hi ∧ r.hi ≤ 1048576
 | [], _, _, _, r, hr => by cases hr
 | x :: rs, i, p, h, r, hr => by
  by_cases hb : x.lo < 0 ∨ x.hi > 1048576 ∨ x.lo ≥ x.hi
  ·rw [ckAt_bad hb] at h; cases h
  ·rcases List.mem_cons.1 hr with rfl | hr
   ·omega
   ·rcases p with _ | q
    ·rw [ckAt_first hb] at h; exact ckAt_good rs _ _ h r hr
    ·by_cases h2 : x.lo ≤ q.hi
     ·rw [ckAt_ord hb h2] at h; cases h
     ·rw [ckAt_next hb h2] at h; exact ckAt_good rs _ _ h r hr
theorem ckF_good {xs : List Rg} (h : (ckF xs).2 = 0) : xs.length ≤ 32768 ∧ ∀ r ∈ xs, 0 ≤ r.lo ∧ r.lo < r.hi ∧ r.hi ≤ 1048576 := by
 unfold ckF at h
 split at h
 ·cases h
 ·exact ⟨by omega, ckAt_good xs _ _ h⟩
theorem ckF_at {xs : List Rg} (h : (ckF xs).2 = 0) {k : Nat} (hk : k < xs.length) : 0 ≤ xs[k].lo ∧ xs[k].lo < xs[k].hi ∧ xs[k].hi ≤ 1048576 := (ckF_good h).2 _ (List.getElem_mem hk)
theorem thrF_ck {xs : List Rg} {at_ n : Int} (h : (ckF xs).2 ≠ 0) : thrF xs at_ n = ([], (ckF xs).2) := by unfold thrF; rw [if_pos h]
theorem thrF_out {xs : List Rg} {at_ n : Int} (h : (ckF xs).2 = 0) (h2 : at_ < 0 ∨ at_ > 1048576 ∨ n < 0 ∨ n > 1048576) : thrF xs at_ n = ([], 12) := by
 unfold thrF; rw [if_neg (by simpa using h), if_pos h2]
theorem thrF_grow {xs : List Rg} {at_ n : Int} (h : (ckF xs).2 = 0) (h2 : ¬ (at_ < 0 ∨ at_ > 1048576 ∨ n < 0 ∨ n > 1048576)) (hk : xs.length - 1 < xs.length) (h3 : xs[xs.length - 1].hi > at_ ∧ xs[xs.length - 1].hi + n > 1048576) : thrF xs at_ n = ([], 24) := by
 unfold thrF; rw [if_neg (by simpa using h), if_neg h2]
 rw [List.getLast?_eq_getElem?, List.getElem?_eq_getElem hk]
 simp [h3]
theorem thrF_nil {at_ n : Int} (h2 : ¬ (at_ < 0 ∨ at_ > 1048576 ∨ n < 0 ∨ n > 1048576)) : thrF [] at_ n = boundF (thrL at_ n [] []) := by
 unfold thrF; rw [if_neg (by simp [ckF, ckAt]), if_neg h2]; rfl
theorem thrF_ok {xs : List Rg} {at_ n : Int} (h : (ckF xs).2 = 0) (h2 : ¬ (at_ < 0 ∨ at_ > 1048576 ∨ n < 0 ∨ n > 1048576)) (hk : xs.length - 1 < xs.length) (h3 : ¬ (xs[xs.length - 1].hi > at_ ∧ xs[xs.length - 1].hi + n > 1048576)) : thrF xs at_ n = boundF (thrL at_ n [] xs) := by
 unfold thrF; rw [if_neg (by simpa using h), if_neg h2]
 rw [List.getLast?_eq_getElem?, List.getElem?_eq_getElem hk]
 simp only [if_neg h3]
/-- What holds of Through's loop. -/
structure ThI (xs : List Rg) (at_ n : Int) (k : Nat) (acc : List Rg) (v : Value) (p : Part) : Prop where
 le : k ≤ xs.length
 row : Row 119 2 v acc.length (rgs acc) p
 len : acc.length ≤ 2 * k
 eq : thrL at_ n [] xs = thrL at_ n acc (xs.drop k)
theorem ThI.next {xs : List Rg} {at_ n : Int} {k : Nat} {acc : List Rg} {v v' : Value} {p p' : Part} (h : ThI xs at_ n k acc v p) (hk : k < xs.length)
  (hr : Row 119 2 v' (addF (addF acc xs[k].lo (min xs[k].hi at_)) (max xs[k].lo at_ + n) (xs[k].hi + n)).length (rgs (addF (addF acc xs[k].lo (min xs[k].hi at_)) (max xs[k].lo at_ + n) (xs[k].hi + n))) p') :
  ThI xs at_ n (k + 1) (addF (addF acc xs[k].lo (min xs[k].hi at_)) (max xs[k].lo at_ + n) (xs[k].hi + n)) v' p' := by
 refine ⟨hk, hr, ?_, ?_⟩
 ·have h1 := addF_len (addF acc xs[k].lo (min xs[k].hi at_)) (max xs[k].lo at_ + n) (xs[k].hi + n)
  have h2 := addF_len acc xs[k].lo (min xs[k].hi at_)
  have := h.len
  omega
 ·rw [h.eq, List.drop_eq_getElem_cons hk]; rfl
theorem ThI.done {xs : List Rg} {at_ n : Int} {k : Nat} {acc : List Rg} {v : Value} {p : Part} (h : ThI xs at_ n k acc v p) (hk : ¬ k < xs.length) : thrL at_ n [] xs = acc := by
 rw [h.eq, List.drop_eq_nil_of_le (by omega)]; rfl
end Go.Proofs.YtcjbjkbghgjmdaaGreatDoor
/- The rules by which this claim's walks go: texts that are cut and ranged over, slices that are cut, made slices, maps by ids. -/
namespace Go.GW
open Go
section
variable {P : Program} {n : Nat} {R : Post} {l : Fr} {Ps Ps' : List Part} {As : List Fact} {ops : Array Oper} {rest : List Oper} {ty : TypeId} {pos : String} {aft : Array Edge} {g : Option (Nat × Bool)} {K : Nx} {d : Nat} {dd : Option Tmp}
/-! ### Texts -/
theorem q_sliceSlo {T : TypeId} {x lo : Operand} {s : ByteArray} {i : Int} (hu : P.underlying T = some .string) (hx : evs l x = some (.string s)) (hi : evs l lo = some (.int .i64 i)) (h0 : 0 ≤ i) (h1 : i ≤ s.size) :
    QR P l Ps As ⟨dd, .slice T x (some lo) none none, ty, pos, aft, g⟩ (.string (s.extract i.toNat s.size)) := fun Z w ρ hs hρ => by
  simp [execOp, Instr.sliceAt, Instr.slice, Instr.sliceBounds, Instr.sliceBound, asIntOf, run_underlying hu, hρ _ _ hx, hρ _ _ hi, h0, h1]
theorem q_sliceShi {T : TypeId} {x hi' : Operand} {s : ByteArray} {i : Int} (hu : P.underlying T = some .string) (hx : evs l x = some (.string s)) (hi : evs l hi' = some (.int .i64 i)) (h0 : 0 ≤ i) (h1 : i ≤ s.size) :
    QR P l Ps As ⟨dd, .slice T x none (some hi') none, ty, pos, aft, g⟩ (.string (s.extract 0 i.toNat)) := fun Z w ρ hs hρ => by
  simp [execOp, Instr.sliceAt, Instr.slice, Instr.sliceBounds, Instr.sliceBound, asIntOf, run_underlying hu, hρ _ _ hx, hρ _ _ hi, h0, h1]
theorem St.setBlock {Z : Nat → Prop} {w : World} {b : Nat} {o o' : Obj} (h : St Z w ([(b, o)] :: Ps) As) : St Z { w with heap := w.heap.setIfInBounds b o' } ([(b, o')] :: Ps) As := by
  have hb : w.heap[b]? = some o := (h.own (b, _) (by simp)).1
  have hlt : b < w.heap.size := (Array.getElem?_eq_some_iff.1 hb).1
  refine h.turn rfl rfl rfl (by simp) (fun b' hb' hn => ?_) (fun q hq => ?_) (by simp)
  · have hne : b ≠ b' := fun e => hn o (by subst e; exact List.mem_singleton.2 rfl)
    simp [Array.getElem?_setIfInBounds, hne]
  · simp only [List.mem_singleton] at hq
    subst hq
    refine ⟨by simp [Array.getElem?_setIfInBounds, hlt], .inl ⟨o, List.mem_singleton.2 rfl⟩⟩
theorem OW_rangeS {T : TypeId} {x : Operand} {s : ByteArray} (hu : P.underlying T = some .string) (hx : evs l x = some (.string s)) (hd : d < n)
    (h : ∀ b, K ((d, .pointer (some ⟨b, 0, none⟩)) :: l) ([(b, .stringIter s 0)] :: Ps) As) : OW P n R l Ps As ⟨some d, .range T x, ty, pos, aft, g⟩ K :=
  OW_value rfl hd fun Z w ρ hs hρ => ⟨_, w.alloc (.stringIter s 0), Z, _, As, by
    simp only [execOp, hρ _ _ hx, Instr.range, Sem.run_bind, run_underlying hu, Result.andThen_ok, Sem.run_pure, run_newObj]; rfl, hs.alloc _, h _⟩
theorem q_nextS0 {x : Operand} {s : ByteArray} {b p : Nat} (hx : evs l x = some (.pointer (some ⟨b, 0, none⟩))) (hb : OwnAt Ps b (.stringIter s p)) (hp : ¬ p < s.size) :
    QR P l Ps As ⟨dd, .next x true, ty, pos, aft, g⟩ (.tuple #[.bool false]) := fun Z w ρ hs hρ => by
  have h := hs.block hb
  simp [execOp, hρ _ _ hx, Instr.next, getObj, Sem.run, h, hp]
theorem OW_nextS0 {x : Operand} {s : ByteArray} {b p : Nat} (hx : evs l x = some (.pointer (some ⟨b, 0, none⟩))) (hb : OwnAt Ps b (.stringIter s p)) (hp : ¬ p < s.size) (hd : d < n)
    (h : K ((d, .tuple #[.bool false]) :: l) Ps As) : OW P n R l Ps As ⟨some d, .next x true, ty, pos, aft, g⟩ K :=
  OW_value rfl hd fun Z w ρ hs hρ => ⟨_, w, Z, Ps, As, q_nextS0 hx hb hp Z w ρ hs hρ, hs, h⟩
theorem OW_nextS1 {x : Operand} {s : ByteArray} {b p : Nat} (hx : evs l x = some (.pointer (some ⟨b, 0, none⟩))) (hp : p < s.size) (hP : SetAt Ps [(b, .stringIter s p)] [(b, .stringIter s (p + (Utf8.decode s p).2))] Ps') (hd : d < n)
    (h : K ((d, .tuple #[.bool true, .int .i64 p, .int .i32 (Utf8.decode s p).1]) :: l) Ps' As) : OW P n R l Ps As ⟨some d, .next x true, ty, pos, aft, g⟩ K :=
  OW_value rfl hd fun Z w ρ hs hρ => by
    have hb : w.heap[b]? = some (.stringIter s p) := by
      obtain ⟨Qs, h3, h4⟩ := hP.perm
      exact ((hs.permParts h3).own (b, _) (by simp)).1
    refine ⟨_, { w with heap := w.heap.setIfInBounds b (.stringIter s (p + (Utf8.decode s p).2)) }, Z, Ps', As, ?_, hs.setAt hP fun h => h.setBlock, h⟩
    simp [execOp, hρ _ _ hx, Instr.next, getObj, setObj, Sem.run, hb, hp, goInt]

/-! ### Slices that are cut -/
def cutA (A : Option Addr) (lo m sz : Nat) : Option Addr := if m = lo then A else A.map (·.add (lo * sz))
theorem run_slice {T E : TypeId} {A : Option Addr} {len cap lo hi m : Nat} {z : Option Value} {sz by_ : Nat} {w : World} {vl vh vm : Option Value} (hu : P.underlying T = some (.slice E)) (ht : ti P E = some (z, sz, by_))
    (hb : (Instr.sliceBounds true len cap vl vh vm).run P w = .ok (lo, hi, m) w) : (Instr.sliceAt T (.slice A len cap) vl vh vm).run P w = .ok (.slice (cutA A lo m sz) (hi - lo) (m - lo)) w := by
  simp only [Instr.sliceAt, Instr.slice, Sem.run_bind, run_underlying hu, Result.andThen_ok, hb, run_sizeOf ht, Sem.run_pure]
  rfl
theorem q_cutLo {T E : TypeId} {x lo : Operand} {A : Option Addr} {len cap : Nat} {i : Int} {z : Option Value} {sz by_ : Nat} (hu : P.underlying T = some (.slice E)) (ht : ti P E = some (z, sz, by_)) (hx : evs l x = some (.slice A len cap)) (hi : evs l lo = some (.int .i64 i)) (h0 : 0 ≤ i) (h1 : i ≤ len) :
    QR P l Ps As ⟨dd, .slice T x (some lo) none none, ty, pos, aft, g⟩ (.slice (cutA A i.toNat cap sz) (len - i.toNat) (cap - i.toNat)) := fun Z w ρ hs hρ => by
  have := run_slice (P := P) (A := A) (len := len) (cap := cap) (lo := i.toNat) (hi := len) (m := cap) (vl := some (.int .i64 i)) (vh := none) (vm := none) (w := w) hu ht (by simp [Instr.sliceBounds, Instr.sliceBound, asIntOf, h0, h1])
  simp only [execOp, hρ _ _ hx, hρ _ _ hi, Option.map_some, Option.map_none, Sem.run_bind, this, Result.andThen_ok, Sem.run_pure]
theorem q_cutHi {T E : TypeId} {x hi' : Operand} {A : Option Addr} {len cap : Nat} {i : Int} {z : Option Value} {sz by_ : Nat} (hu : P.underlying T = some (.slice E)) (ht : ti P E = some (z, sz, by_)) (hx : evs l x = some (.slice A len cap)) (hi : evs l hi' = some (.int .i64 i)) (h0 : 0 ≤ i) (h1 : i ≤ cap) :
    QR P l Ps As ⟨dd, .slice T x none (some hi') none, ty, pos, aft, g⟩ (.slice (cutA A 0 cap sz) i.toNat cap) := fun Z w ρ hs hρ => by
  have := run_slice (P := P) (A := A) (len := len) (cap := cap) (lo := 0) (hi := i.toNat) (m := cap) (vl := none) (vh := some (.int .i64 i)) (vm := none) (w := w) hu ht (by simp [Instr.sliceBounds, Instr.sliceBound, asIntOf, h0, h1])
  simp only [execOp, hρ _ _ hx, hρ _ _ hi, Option.map_some, Option.map_none, Sem.run_bind, this, Result.andThen_ok, Sem.run_pure, Nat.sub_zero]
theorem q_cutLoHi {T E : TypeId} {x lo hi' : Operand} {A : Option Addr} {len cap : Nat} {i j : Int} {z : Option Value} {sz by_ : Nat} (hu : P.underlying T = some (.slice E)) (ht : ti P E = some (z, sz, by_)) (hx : evs l x = some (.slice A len cap)) (hl : evs l lo = some (.int .i64 i)) (hi : evs l hi' = some (.int .i64 j)) (h0 : 0 ≤ i) (hij : i ≤ j) (h1 : j ≤ cap) :
    QR P l Ps As ⟨dd, .slice T x (some lo) (some hi') none, ty, pos, aft, g⟩ (.slice (cutA A i.toNat cap sz) (j.toNat - i.toNat) (cap - i.toNat)) := fun Z w ρ hs hρ => by
  have h2 : i ≤ j.toNat := by omega
  have h3 : 0 ≤ j := by omega
  have := run_slice (P := P) (A := A) (len := len) (cap := cap) (lo := i.toNat) (hi := j.toNat) (m := cap) (vl := some (.int .i64 i)) (vh := some (.int .i64 j)) (vm := none) (w := w) hu ht (by simp [Instr.sliceBounds, Instr.sliceBound, asIntOf, h0, h1, Int.toNat_of_nonneg h3, hij, h3])
  simp only [execOp, hρ _ _ hx, hρ _ _ hi, hρ _ _ hl, Option.map_some, Option.map_none, Sem.run_bind, this, Result.andThen_ok, Sem.run_pure]
theorem q_cutHiMax {T E : TypeId} {x hi' mx : Operand} {A : Option Addr} {len cap : Nat} {i j : Int} {z : Option Value} {sz by_ : Nat} (hu : P.underlying T = some (.slice E)) (ht : ti P E = some (z, sz, by_)) (hx : evs l x = some (.slice A len cap)) (hi : evs l hi' = some (.int .i64 i)) (hm : evs l mx = some (.int .i64 j)) (h0 : 0 ≤ i) (hij : i ≤ j) (h1 : j ≤ cap) :
    QR P l Ps As ⟨dd, .slice T x none (some hi') (some mx), ty, pos, aft, g⟩ (.slice (cutA A 0 j.toNat sz) i.toNat j.toNat) := fun Z w ρ hs hρ => by
  have h2 : i ≤ j.toNat := by omega
  have h3 : 0 ≤ j := by omega
  have := run_slice (P := P) (A := A) (len := len) (cap := cap) (lo := 0) (hi := i.toNat) (m := j.toNat) (vl := none) (vh := some (.int .i64 i)) (vm := some (.int .i64 j)) (w := w) hu ht (by simp [Instr.sliceBounds, Instr.sliceBound, asIntOf, h0, h1, Int.toNat_of_nonneg h3, hij, h3])
  simp only [execOp, hρ _ _ hx, hρ _ _ hi, hρ _ _ hm, Option.map_some, Option.map_none, Sem.run_bind, this, Result.andThen_ok, Sem.run_pure, Nat.sub_zero]
theorem RdS.cut {α : Type} {e : De α} {Z : Nat → Prop} {w : World} {A : Option Addr} {cap : Nat} {xs : List α} (h : RdS e Z w A cap xs) {lo hi m : Nat} (h1 : lo ≤ hi) (h2 : hi ≤ xs.length) (h3 : hi ≤ m) (h4 : m ≤ cap) :
    RdS e Z w (cutA A lo m e.sz) (m - lo) ((xs.take hi).drop lo) := by
  obtain ⟨g1, g2, g3⟩ := h
  have hlen : ((xs.take hi).drop lo).length = hi - lo := by simp; omega
  refine ⟨by omega, by omega, ?_⟩
  rcases g3 with ⟨rfl, g3⟩ | ⟨b, q, css, rfl, g4, g5, g6⟩
  · refine .inl ⟨by simp, fun hA => ?_⟩
    unfold cutA at hA
    split at hA
    · omega
    · rcases A with _ | a
      · have := g3 rfl; omega
      · simp at hA
  · unfold cutA
    split
    · rename_i he
      refine .inr ⟨b, q, [], rfl, g4, ?_, ?_⟩
      · have : (xs.take hi).drop lo = [] := List.length_eq_zero_iff.1 (by omega)
        rw [this]; exact .nil
      · obtain ⟨full, T, fr, k1, k2⟩ := g6
        exact ⟨full, T, fr, k1, fun j v hv => by simp at hv⟩
    · refine .inr ⟨b, q + lo * e.sz, (css.take hi).drop lo, by simp [add_none], g4, (g5.take hi).drop lo, ?_⟩
      refine g6.part (lo * e.sz) fun j v hv => ?_
      have hlens := g5.lens
      have hlens' : ∀ cs ∈ css.take hi, cs.length = e.sz := fun cs hcs => hlens cs (List.mem_of_mem_take hcs)
      rw [flat_drop hlens', List.getElem?_drop] at hv
      have hpre : (css.take hi).flatten <+: css.flatten := by
        conv => rhs; rw [← List.take_append_drop hi css]
        rw [List.flatten_append]
        exact List.prefix_append _ _
      obtain ⟨t, ht⟩ := hpre
      rw [← ht, List.getElem?_append_left ?_]
      · exact hv
      · rcases Nat.lt_or_ge (lo * e.sz + j) (css.take hi).flatten.length with h | h
        · exact h
        · rw [List.getElem?_eq_none h] at hv; cases hv
theorem WC_capLe {α : Type} {e : De α} {c : Code} {A : Option Addr} {cap : Nat} {xs : List α} (hA : RdF e A cap xs ∈ As) (h : xs.length ≤ cap → cap ≤ maxLen → WC P n c R l Ps As) : WC P n c R l Ps As :=
  fun Z w a hs ha => by
    have h1 : RdS e Z w A cap xs := hs.facts _ hA
    exact h h1.1 h1.2.1 Z w a hs ha

/-! ### A made slice -/
theorem madeCells_rep {v : Value} {k : Nat} : (madeCells #[v] k).toList = List.replicate k v := by
  apply List.ext_getElem
  · simp [madeCells]
  · intro i h1 h2
    simp [madeCells, Nat.mod_one]
theorem OW_make1 {T E : TypeId} {x y : Operand} {zv : Value} {by_ k : Nat} (hu : P.underlying T = some (.slice E)) (ht : ti P E = some (some zv, 1, by_)) (hz : zv.cells = #[zv]) (hx : evs l x = some (.int .i64 k)) (hy : evs l y = some (.int .i64 k)) (hk : k * by_ ≤ 281474976710656) (hm : k ≤ maxLen) (hd : d < n)
    (h : ∀ b, K ((d, .slice (some ⟨b, 0, none⟩) k k) :: l) ([(b, cellsO (List.replicate k zv) E)] :: Ps) As) : OW P n R l Ps As ⟨some d, .makeSlice T x y, ty, pos, aft, g⟩ K :=
  OW_value rfl hd fun Z w ρ hs hρ => by
    unfold ti at ht
    cases hi : P.info? E with
    | none => rw [hi] at ht; cases ht
    | some i =>
      rw [hi] at ht
      simp only [Option.map_some, Option.some.injEq, Prod.mk.injEq] at ht
      have hm' := hm
      simp only [maxLen] at hm'
      have hb' : (i.bytes : Int) * (k : Int) ≤ 281474976710656 := by
        have h1 : ((i.bytes * k : Nat) : Int) ≤ 281474976710656 := by rw [ht.2.2, Nat.mul_comm]; omega
        rwa [Int.natCast_mul] at h1
      have hr := run_make (P := P) w T E i zv hu hi ht.1 .i64 .i64 k k (by omega) (by omega) hb' (by omega)
      refine ⟨_, w.alloc (cellsO (List.replicate k zv) E), Z, _, As, ?_, hs.alloc _, h w.heap.size⟩
      simp only [execOp, hρ _ _ hx, hρ _ _ hy, Sem.run_bind, hr, Result.andThen_ok, Sem.run_pure, Int.toNat_natCast]
      have : madeCells zv.cells (k * i.size) = (List.replicate k zv).toArray := by
        apply Array.ext'
        rw [hz, ht.2.1, Nat.mul_one, madeCells_rep]
      rw [this]
end
end Go.GW
/- The rules by which this claim's walks go: maps from ids to pointers; append to a slice that is read; parts laid together and taken apart. -/
namespace Go.GW
open Go
/-! ### Maps from ids to pointers -/
structure MK where
  c : Int
  n : Int
  b : Nat
deriving DecidableEq
abbrev idV (c n : Int) : Value := .agg #[.int .i64 c, .int .i64 n]
def mkEs : List MK → Nat → List MapEntry
  | [], _ => []
  | x :: r, i => ⟨idV x.c x.n, .pointer (some ⟨x.b, 0, none⟩), i⟩ :: mkEs r (i + 1)
abbrev mapO (L : List MK) : Obj := .map (mkEs L 0).toArray L.length
def mGet : List MK → Int → Int → Option Nat
  | [], _, _ => none
  | x :: r, c, n => if c = x.c ∧ n = x.n then some x.b else mGet r c n
theorem mkEs_append : ∀ (L : List MK) (x : MK) (i : Nat), mkEs (L ++ [x]) i = mkEs L i ++ [⟨idV x.c x.n, .pointer (some ⟨x.b, 0, none⟩), i + L.length⟩]
  | [], x, i => by simp [mkEs]
  | y :: L, x, i => by simp [mkEs, mkEs_append L x (i + 1)]; omega
/-- The type of ids. -/
structure KeyT (P : Program) (K : TypeId) : Prop where
  ex : ∃ E z by_, P.underlying K = some (.array 2 E) ∧ P.underlying E = some (.int .i64) ∧ ti P E = some (z, 1, by_)
  eq : ∀ a b c d, EqT P K #[.int .i64 a, .int .i64 b] #[.int .i64 c, .int .i64 d] (a == c && b == d)
variable {P : Program}
theorem run_checkInt {E : TypeId} {em : Bool} {a : Int} {w : World} (he : P.underlying E = some (.int .i64)) (k : Nat) : (Instr.checkKey em (k + 1) E (.int .i64 a)).run P w = .ok () w := by
  rw [Instr.checkKey]
  simp [run_underlying he]
theorem run_checkId {K : TypeId} {em : Bool} {a b : Int} {w : World} (h : KeyT P K) : (Instr.checkKey em 10000 K (idV a b)).run P w = .ok () w := by
  obtain ⟨E, z, by_, hu, he, ht⟩ := h.ex
  have h1 : ∀ (cs : List Value) (o : Nat) (v : Value) w, cs[o]? = some v → (part E cs.toArray o).run P w = .ok v w := fun cs o v w h => run_part1 he rfl h
  rw [show (10000 : Nat) = 9998 + 1 + 1 from rfl, Instr.checkKey]
  simp only [Sem.run_bind, run_underlying hu, Result.andThen_ok]
  simp only [Std.Legacy.Range.forIn_eq_forIn_range', Std.Legacy.Range.size, Nat.sub_zero, Nat.add_sub_cancel, Nat.div_one, List.range'_succ, List.range'_zero, List.forIn_cons, List.forIn_nil, Sem.run_bind, run_sizeOf ht, Result.andThen_ok, Nat.mul_one, Nat.zero_add, h1 [.int .i64 a, .int .i64 b] 0 _ _ rfl, h1 [.int .i64 a, .int .i64 b] 1 _ _ rfl, run_checkInt he, Sem.run_pure]
def mFind : List MK → Int → Int → Nat → Option (Nat × Value)
  | [], _, _, _ => none
  | x :: r, c, n, i => if c = x.c ∧ n = x.n then some (i, .pointer (some ⟨x.b, 0, none⟩)) else mFind r c n (i + 1)
theorem mFind_get : ∀ (L : List MK) (c n : Int) (i : Nat), (mFind L c n i).map Prod.snd = (mGet L c n).map fun b => Value.pointer (some ⟨b, 0, none⟩)
  | [], _, _, _ => rfl
  | x :: r, c, n, i => by
    unfold mFind mGet
    split
    · rfl
    · exact mFind_get r c n (i + 1)
theorem run_findAsking {K : TypeId} (h : KeyT P K) (c n : Int) (w : World) : ∀ (L : List MK) (i0 i : Nat), (Instr.findAsking K (idV c n) (mkEs L i0) i).run P w = .ok (mFind L c n i) w
  | [], _, _ => rfl
  | x :: L, i0, i => by
    have h1 : (Op.equal K (idV c n) (idV x.c x.n)).run P w = .ok (c == x.c && n == x.n) w := (h.eq c n x.c x.n).run 9991 w
    unfold mkEs mFind Instr.findAsking
    simp only [Sem.run_bind, h1, Result.andThen_ok]
    by_cases hq : c = x.c ∧ n = x.n
    · simp [hq]
    · have h2 : (c == x.c && n == x.n) = false := by
        cases h3 : (c == x.c && n == x.n) with
        | false => rfl
        | true => simp at h3; exact absurd h3 hq
      rw [h2, if_neg hq]
      exact run_findAsking h c n w L (i0 + 1) (i + 1)
theorem run_findId {K : TypeId} (h : KeyT P K) (c n : Int) (w : World) (L : List MK) : (Instr.findKey K (idV c n) (mkEs L 0)).run P w = .ok (mFind L c n 0) w := by
  obtain ⟨E, z, by_, hu, he, ht⟩ := h.ex
  unfold Instr.findKey
  simp only [Sem.run_bind, run_underlying hu, Result.andThen_ok]
  cases L with
  | nil => rfl
  | cons x L => exact run_findAsking h c n w (x :: L) 0 0
section
variable {n : Nat} {R : Post} {l : Fr} {Ps Ps' : List Part} {As : List Fact} {ops : Array Oper} {rest : List Oper} {ty : TypeId} {pos : String} {aft : Array Edge} {g : Option (Nat × Bool)} {K : Nx} {d : Nat} {dd : Option Tmp}
theorem q_look {T Kt E : TypeId} {x y : Operand} {m : Nat} {L : List MK} {c k : Int} {sz by_ : Nat} (hk : KeyT P Kt) (hu : P.underlying T = some (.map Kt E)) (ht : ti P E = some (some (.pointer none), sz, by_)) (hx : evs l x = some (.map (some m))) (hy : evs l y = some (idV c k)) (hb : OwnAt Ps m (mapO L)) :
    QR P l Ps As ⟨dd, .lookup T x y false, ty, pos, aft, g⟩ (.pointer ((mGet L c k).map fun b => ⟨b, 0, none⟩)) := fun Z w ρ hs hρ => by
  have h := hs.block hb
  have h1 := run_findId hk c k w L
  have h2 := mFind_get L c k 0
  simp only [execOp, hρ _ _ hx, hρ _ _ hy, Instr.lookup, Sem.run_bind, run_underlying hu, Result.andThen_ok]
  simp only [getObj, Sem.run, h, run_checkId hk, Result.andThen_ok, Sem.run_bind, h1]
  cases hf : mFind L c k 0 with
  | none =>
    rw [hf] at h2
    have h3 : mGet L c k = none := by cases hg : mGet L c k with
      | none => rfl
      | some b => rw [hg] at h2; cases h2
    rw [hf] at h1
    simp [h3, h1, run_zeroValue ht, Sem.run]
  | some q =>
    rw [hf] at h2
    cases hg : mGet L c k with
    | none => rw [hg] at h2; cases h2
    | some b =>
      rw [hg] at h2
      simp only [Option.map_some, Option.some.injEq] at h2
      obtain ⟨i, v⟩ := q
      simp only at h2
      subst h2
      rw [hf] at h1
      simp [h1, Sem.run]
theorem OW_makeMap {T : TypeId} (hd : d < n) (h : ∀ b, K ((d, .map (some b)) :: l) ([(b, mapO [])] :: Ps) As) : OW P n R l Ps As ⟨some d, .makeMap T none, ty, pos, aft, g⟩ K :=
  OW_value rfl hd fun Z w ρ hs hρ => ⟨_, w.alloc (mapO []), Z, _, As, by simp only [execOp, Instr.makeMap, Option.map_none]; rfl, hs.alloc _, h _⟩
theorem OW_mapNew {T Kt E : TypeId} {x y z : Operand} {m b : Nat} {L : List MK} {c k : Int} (hk : KeyT P Kt) (hu : P.underlying T = some (.map Kt E)) (hx : evs l x = some (.map (some m))) (hy : evs l y = some (idV c k)) (hz : evs l z = some (.pointer (some ⟨b, 0, none⟩))) (hn : mGet L c k = none)
    (hP : SetAt Ps [(m, mapO L)] [(m, mapO (L ++ [⟨c, k, b⟩]))] Ps') (h : K l Ps' As) : OW P n R l Ps As ⟨none, .mapUpdate T x y z, ty, pos, aft, g⟩ K :=
  OW_skip rfl fun Z w ρ hs hρ => by
    have hb : w.heap[m]? = some (mapO L) := by
      obtain ⟨Qs, h3, h4⟩ := hP.perm
      exact ((hs.permParts h3).own (m, _) (by simp)).1
    have h1 := run_findId hk c k w L
    have h2 := mFind_get L c k 0
    have hf : mFind L c k 0 = none := by
      cases hf : mFind L c k 0 with
      | none => rfl
      | some q => rw [hf, hn] at h2; cases h2
    rw [hf] at h1
    refine ⟨{ w with heap := w.heap.setIfInBounds m (mapO (L ++ [⟨c, k, b⟩])) }, Z, Ps', As, ?_, hs.setAt hP fun h => h.setBlock, h⟩
    have he : (mkEs L 0).toArray.push { key := idV c k, val := .pointer (some ⟨b, 0, none⟩), born := L.length } = (mkEs (L ++ [⟨c, k, b⟩]) 0).toArray := by
      rw [mkEs_append]; simp
    simp only [execOp, hρ _ _ hx, hρ _ _ hy, hρ _ _ hz, Instr.mapUpdate, Sem.run_bind, run_underlying hu, Result.andThen_ok, getObj, Sem.run, hb, run_checkId hk, h1]
    simp [setObj, Sem.run, hb, he, mapO]
/-! ### append to a slice that is read, and is full: a new row -/
theorem Row.grown {T : TypeId} {sz : Nat} {zv : Value} {w : World} {Z : Nat → Prop} {m k old : Nat} {olds news : List Value} (hs : St Z w Ps As) (hz : zv.cells.size = sz) (ho : olds.length = m * sz) (hl : news.length = k * sz) (hmx : m + k ≤ maxLen) :
    ∃ p', Row T sz (.slice (some ⟨w.heap.size, 0, none⟩) (m + k) (grownCap w (m + k) old T)) (m + k) (olds ++ news) p' ∧ St Z (w.drew.alloc (.cells (olds.toArray ++ news.toArray ++ Builtin.zeroCells zv.cells (grownCap w (m + k) old T - (m + k))) T)) (p' :: Ps) As := by
  have h1 := grownCap_ge w (m + k) old T
  refine ⟨[(w.heap.size, cellsO ((olds ++ news) ++ (Builtin.zeroCells zv.cells (grownCap w (m + k) old T - (m + k))).toList) T)], ⟨by rw [List.length_append, ho, hl, Nat.add_mul], .inr ⟨_, _, _, rfl, rfl, ?_, h1, grownCap_le_maxLen w (m + k) old T hmx⟩⟩, ?_⟩
  · rw [List.length_append, List.length_append, ho, hl, Array.length_toList, size_zeroCells, hz, ← Nat.add_mul, ← Nat.add_mul]
    congr 1; omega
  · have h2 := (hs.drew (w.drawn + 1)).alloc (.cells (olds.toArray ++ news.toArray ++ Builtin.zeroCells zv.cells (grownCap w (m + k) old T - (m + k))) T)
    have e : (olds.toArray ++ news.toArray ++ Builtin.zeroCells zv.cells (grownCap w (m + k) old T - (m + k))) = ((olds ++ news) ++ (Builtin.zeroCells zv.cells (grownCap w (m + k) old T - (m + k))).toList).toArray := by
      apply Array.ext'; simp
    unfold cellsO
    rw [← e]
    exact h2
theorem OW_appendF {α : Type} {e : De α} {T E : TypeId} {x y : Operand} {zv : Value} {by_ b c : Nat} {A : Option Addr} {xs : List α} {news : List Value} {T' : TypeId} (hu : P.underlying T = some (.slice E)) (ht : ti P E = some (some zv, e.sz, by_)) (hz : zv.cells.size = e.sz) (hsz : 0 < e.sz) (hx : evs l x = some (.slice A xs.length xs.length)) (hy : evs l y = some (.slice (some ⟨b, 0, none⟩) 1 c))
    (hA : RdF e A xs.length xs ∈ As) (hb : OwnAt Ps b (cellsO news T')) (hl : news.length = e.sz) (h1 : news.all Value.oneCell' = true) (h63 : (xs.length + 1) * by_ ≤ 140737488355328) (hmx : xs.length + 1 ≤ maxLen) (hd : d < n)
    (h : ∀ v' p' css, Row E e.sz v' (xs.length + 1) (css.flatten ++ news) p' → K ((d, v') :: l) (p' :: Ps) (RepsF e xs css :: As)) : OW P n R l Ps As ⟨some d, .call ⟨.builtin .append, #[x, y], #[T, T]⟩, ty, pos, aft, g⟩ K :=
  OW_value rfl hd fun Z w ρ hs hρ => by
    have hc : CellsAt w b 0 news := ⟨_, _, _, hs.block hb, fun j v hv => by simpa using hv⟩
    have hnews : ∀ j u, news[j]? = some u → w.cell? ((⟨b, 0, none⟩ : Addr).add j) = some u := fun j u hu => by rw [add_none]; exact hc.cell hu
    have hm' := hmx
    simp only [maxLen] at hm'
    have grow : ∀ (a : Addr) (css : List (List Value)), A = some a → Reps (e.rep Z w) xs css → (∀ j u, css.flatten[j]? = some u → w.cell? (a.add j) = some u) → ∃ v w' Z' Ps' As', (execOp ρ ⟨some d, .call ⟨.builtin .append, #[x, y], #[T, T]⟩, ty, pos, aft, g⟩).run P w = .ok (.value v) w' ∧ St Z' w' Ps' As' ∧ K ((d, v) :: l) Ps' As' := by
      intro a css hA1 hr hcells
      subst hA1
      have ht' := ht
      unfold ti at ht'
      cases hi : P.info? E with
      | none => rw [hi] at ht'; cases ht'
      | some i =>
        rw [hi] at ht'
        simp only [Option.map_some, Option.some.injEq, Prod.mk.injEq] at ht'
        obtain ⟨e1, e2, e3⟩ := ht'
        have hfl : css.flatten.length = xs.length * e.sz := by rw [flat_len hr.lens, hr.length]
        obtain ⟨p', k1, k2⟩ := Row.grown (T := E) (old := xs.length) (hs.addFact (A := RepsF e xs css) hr) hz hfl (k := 1) (news := news) (by simpa using hl) hmx
        have hrun := run_append_grow (P := P) w T ty E i zv hu hi e1 a xs.length xs.length css.flatten (by rw [hfl, e2]) hcells ⟨b, 0, none⟩ 1 c news (by rw [hl, e2]; simp) hnews (by omega) (by omega) (growslice_fits (by omega) (by rw [e3]; exact h63))
        exact ⟨_, _, Z, _, _, by rw [execOp_append (hρ _ _ hx) (hρ _ _ hy), Sem.run_bind, hrun]; rfl, k2, h _ p' css k1⟩
    obtain ⟨g1, g2, ⟨rfl, g3⟩ | ⟨b', q, css, rfl, g4, g5, g6⟩⟩ : RdS e Z w A xs.length xs := hs.facts _ hA
    · rcases A with _ | a
      · obtain ⟨v', w', p', k1, k2, k3⟩ := run_append (ty := ty) (c := c) (p := []) hu ht hz hsz (hs.nilPart.addFact (A := RepsF e [] []) Reps.nil) (Row.nil E e.sz) (ad := ⟨b, 0, none⟩) (m := 1) (news := news) (by simp [hl]) hnews (fun u hu => List.all_eq_true.1 h1 u hu) (by simpa using h63) (by simpa using hmx)
        refine ⟨v', w', Z, _, _, by rw [execOp_append (hρ _ _ hx) (hρ _ _ hy), Sem.run_bind]; erw [k1]; rfl, k3, h v' p' [] (by simpa using k2)⟩
      · exact grow a [] rfl .nil (by simp)
    · exact grow ⟨b', q, none⟩ css rfl g5 (fun j u hu => by rw [add_none]; exact g6.cell hu)

/-- A call that parts are handed to. -/
theorem OW_callP {k : FuncId} {xs : List Operand} {ts : Array TypeId} {args : List Value} {Lin Qs : List Part} {pre : List Fact} {res : Value → List Part → List Fact → Prop}
    (hsp : Sp P k args Lin pre res) (hxs : Evs l xs args) (hd : d < n) (hp : (Lin ++ Qs).flatten.Perm Ps.flatten) (hpre : ∀ A ∈ pre, A ∈ As)
    (h : ∀ v Lo fs, res v Lo fs → K ((d, v) :: l) (Lo ++ Qs) (fs ++ As)) :
    OW P n R l Ps As ⟨some d, .call ⟨.value (.func k), xs.toArray, ts⟩, ty, pos, aft, g⟩ K :=
  OW_call hsp hxs hd (fun hs => (hs.permParts hp).subFacts fun A hA => by
    rcases List.mem_append.1 hA with hA | hA
    · exact hpre A hA
    · exact hA) h
end
end Go.GW
/- Plain texts: what utext's functions compute; and of bits; the table of bars. -/
namespace Go.GW
open Go
theorem q_and {P : Program} {l : Fr} {Ps : List Part} {As : List Fact} {d : Option Tmp} {ty : TypeId} {pos : String} {aft : Array Edge} {g : Option (Nat × Bool)} {t t2 : TypeId} {x y : Operand} {k : IntKind} {a b c : Int} (hx : evs l x = some (.int k a)) (hy : evs l y = some (.int k b)) (hw : bits .and k a b = c) : QR P l Ps As ⟨d, .binOp .and t x y t2, ty, pos, aft, g⟩ (.int k c) := fun Z w ρ hs hρ => by
 subst hw; simp [execOp, hρ _ _ hx, hρ _ _ hy, go_sem]
theorem i32_and65535 (n : Int) : bits .and .i32 n 65535 = n % 65536 := by
 have h127 : (BitVec.ofInt 32 65535).toNat = 2 ^ 16 - 1 := by decide
 have key : (BitVec.ofInt 32 n &&& BitVec.ofInt 32 65535).toNat = (n % ((2 ^ 32 : Nat) : Int)).toNat % 2 ^ 16 := by
  rw [BitVec.toNat_and, BitVec.toNat_ofInt, h127, Nat.and_two_pow_sub_one_eq_mod]
 show IntKind.i32.wrap ((BitVec.ofInt 32 n &&& BitVec.ofInt 32 65535).toNat : Nat) = n % 65536
 rw [key, IntKind.wrap_i32]
 omega
/-- An element of an array that is a value. -/
theorem q_index2 {P : Program} {l : Fr} {Ps : List Part} {As : List Fact} {d : Option Tmp} {ty : TypeId} {pos : String} {aft : Array Edge} {g : Option (Nat × Bool)} {T E : TypeId} {x y : Operand} {cs vs : List Value} {len : Nat} {i : Int} {de : TypeDesc} {z : Option Value} {sz by_ : Nat} (hu : P.underlying T = some (.array len E)) (he : P.underlying E = some de) (hd : agg? de = true) (ht : ti P E = some (z, sz, by_))
  (hx : evs l x = some (.agg cs.toArray)) (hy : evs l y = some (.int .i64 i)) (h0 : 0 ≤ i) (h1 : i < len) (hv : (cs.drop (i.toNat * sz)).take sz = vs) : QR P l Ps As ⟨d, .index T x y, ty, pos, aft, g⟩ (.agg vs.toArray) := fun Z w ρ hs hρ => by
 have h2 := run_partN (P := P) (w := w) (cs := cs) (o := i.toNat * sz) he hd ht hv
 simp only [execOp, hρ _ _ hx, hρ _ _ hy, Instr.index, asIntOf, Sem.run_bind, Sem.run_pure, run_underlying hu, Result.andThen_ok, h0, h1, and_self, if_true, run_sizeOf ht, h2]
end Go.GW
namespace Go.Proofs.YtcjbjkbghgjmdaaGreatDoor
open Go Go.GW
def barL : List (Int × Int) := [(0x00, 0x08), (0x0b, 0x1f), (0x7f, 0x9f), (0xfdd0, 0xfdef), (0xfeff, 0xfeff)]
def barC : List Value := [.int .i32 0x00, .int .i32 0x08, .int .i32 0x0b, .int .i32 0x1f, .int .i32 0x7f, .int .i32 0x9f, .int .i32 0xfdd0, .int .i32 0xfdef, .int .i32 0xfeff, .int .i32 0xfeff]
abbrev barF : Fact := FzA 0 0 barC
theorem bar_at : ∀ k (h : k < barL.length), (barC.drop ((k : Int).toNat * 2)).take 2 = [.int .i32 barL[k].1, .int .i32 barL[k].2] := by
 intro k h
 match k, h with
 | 0, _ => rfl
 | 1, _ => rfl
 | 2, _ => rfl
 | 3, _ => rfl
 | 4, _ => rfl
/-- letIn. -/
def letF (c : Int) : Bool := (barL.all fun b => !(decide (b.1 ≤ c) && decide (c ≤ b.2))) && decide (c % 65536 < 65534)
/-- begins. -/
def fffd : ByteArray := ⟨#[0xEF, 0xBF, 0xBD]⟩
def prefF (s t : ByteArray) : Bool := decide (t.size ≤ s.size) && (s.extract 0 t.size == t)
def begF (s : ByteArray) (p : Nat) (c : Int) : Bool := decide (c ≠ 65533) || prefF (s.extract p s.size) fffd
theorem decode_pos (s : ByteArray) (p : Nat) : 0 < (Utf8.decode s p).2 := by
 unfold Utf8.decode
 simp only
 repeat' split
 all_goals simp
theorem decode_leP {s : ByteArray} {p : Nat} (h : p < s.size) : p + (Utf8.decode s p).2 ≤ s.size := by
 unfold Utf8.decode
 simp only
 repeat' split
 all_goals simp_all
 all_goals omega
/-- Check, from byte p on, where k runes have been counted. -/
def utAt (s : ByteArray) (p k : Nat) : Int × Int × Int :=
 if h : p < s.size then
  let c := Utf8.decode s p
  if begF s p c.1 = false then (0, p, 10)
  else if letF c.1 = false then (0, p, 11)
  else utAt s (p + c.2) (k + 1)
 else (k, 0, 0)
 termination_by s.size - p
 decreasing_by
  have := decode_pos s p
  omega
def utF (s : ByteArray) : Int × Int × Int := utAt s 0 0
theorem utAt_end {s : ByteArray} {p k : Nat} (h : ¬ p < s.size) : utAt s p k = ((k : Int), 0, 0) := by unfold utAt; rw [dif_neg h]
theorem utAt_utf8 {s : ByteArray} {p k : Nat} (h : p < s.size) (h1 : begF s p (Utf8.decode s p).1 = false) : utAt s p k = ((0 : Int), (p : Int), 10) := by unfold utAt; rw [dif_pos h, if_pos h1]
theorem utAt_rune {s : ByteArray} {p k : Nat} (h : p < s.size) (h1 : ¬ begF s p (Utf8.decode s p).1 = false) (h2 : letF (Utf8.decode s p).1 = false) : utAt s p k = ((0 : Int), (p : Int), 11) := by unfold utAt; rw [dif_pos h, if_neg h1, if_pos h2]
theorem utAt_next {s : ByteArray} {p k : Nat} (h : p < s.size) (h1 : ¬ begF s p (Utf8.decode s p).1 = false) (h2 : ¬ letF (Utf8.decode s p).1 = false) : utAt s p k = utAt s (p + (Utf8.decode s p).2) (k + 1) := by
 conv => lhs; unfold utAt
 rw [dif_pos h, if_neg h1, if_neg h2]
end Go.Proofs.YtcjbjkbghgjmdaaGreatDoor
/- From the laid table to the walks' fact; from a contract of mine to the row's condition. -/
namespace Go.Proofs.YtcjbjkbghgjmdaaGreatDoor
open Go Go.GW Go.ChangeShapes Go.WideShapes Go.ChangeAt Go.RowKit
theorem gBars : Tryz.prog.globalNamed "redraft/utext.bars" = some 0 := by kernel_rfl
theorem gBarsT : (Tryz.prog.globals[0]?).map (·.type) = some 170 := by kernel_rfl
theorem cells187 : Tryz.prog.cellsOf 170 = 10 := by kernel_rfl
theorem cells186 : Tryz.prog.cellsOf 169 = 2 := by kernel_rfl
theorem cells21 : Tryz.prog.cellsOf 21 = 1 := by kernel_rfl
section
variable {H : Type} {enc : TypeId × Value → H} {w : World} {base : Nat} {sp : Nat → Bool} {held : Bool} {fuel : Nat}
theorem bar_one {cs : List Value} {x : DataW H × List MemPlace} {lo hi : Int} (h : DataW.trod enc Tryz.prog w base sp held fuel 169 cs = some x) (hx : x.1 = .agg [.lit (.int .i32 lo), .lit (.int .i32 hi)]) : cs = [.int .i32 lo, .int .i32 hi] := by
 obtain ⟨y0, y1, n, rfl, hl, h0, h1⟩ := trod_struct2 Un169 h
 rw [cells186] at hl
 obtain ⟨n0, e0, rfl, _⟩ := DataW.trod_int Un21 h0
 obtain ⟨n1, e1, rfl, _⟩ := DataW.trod_int Un21 h1
 simp only [DataW.agg.injEq, List.cons.injEq, DataW.lit.injEq, Lit.int.injEq, true_and, and_true] at hx
 obtain ⟨rfl, rfl⟩ := hx
 rw [cells21] at e0 e1
 clear h h0 h1
 rcases cs with _ | ⟨a, _ | ⟨b, _ | ⟨c, cs⟩⟩⟩
 ·cases hl
 ·cases hl
 ·have a0 : [a] = [Value.int .i32 n0] := e0
  have a1 : [b] = [Value.int .i32 n1] := e1
  rw [List.singleton_inj.1 a0, List.singleton_inj.1 a1]
 ·simp at hl
theorem bars_cells {cs : List Value} {p : List MemPlace} (h : DataW.trod enc Tryz.prog w base sp held fuel 170 cs = some (Rows.laid_redraft_utext_bars, p)) : cs = barC := by
 cases fuel with
 | zero => simp [DataW.trod] at h
 | succ fuel =>
  simp only [DataW.trod, Un170, cells187, cells186] at h
  split at h
  ·rename_i hl
   obtain ⟨xs, hm, hx⟩ := Option.map_eq_some_iff.1 h
   have hxs : xs.map (·.1) = [.agg [.lit (.int .i32 0), .lit (.int .i32 8)], .agg [.lit (.int .i32 11), .lit (.int .i32 31)], .agg [.lit (.int .i32 127), .lit (.int .i32 159)], .agg [.lit (.int .i32 64976), .lit (.int .i32 65007)], .agg [.lit (.int .i32 65279), .lit (.int .i32 65279)]] := by
    have := congrArg Prod.fst hx
    simpa [Rows.laid_redraft_utext_bars] using this
   have key : ∀ (i : Nat) (hi : i < 5) (lo hi' : Int), (xs.map (·.1))[i]? = some (.agg [.lit (.int .i32 lo), .lit (.int .i32 hi')]) → (cs.drop (i * 2)).take 2 = [.int .i32 lo, .int .i32 hi'] := by
    intro i hi lo hi' he
    obtain ⟨b, hb, hf⟩ := Lib.mapM_at hm i i (by simp [hi])
    rw [List.getElem?_map, hb] at he
    exact bar_one hf (Option.some.inj he)
   have k0 := key 0 (by decide) 0 8 (by rw [hxs]; rfl)
   have k1 := key 1 (by decide) 11 31 (by rw [hxs]; rfl)
   have k2 := key 2 (by decide) 127 159 (by rw [hxs]; rfl)
   have k3 := key 3 (by decide) 64976 65007 (by rw [hxs]; rfl)
   have k4 := key 4 (by decide) 65279 65279 (by rw [hxs]; rfl)
   clear h hm hx hxs key
   revert k0 k1 k2 k3 k4
   match cs, hl with
   | [c0, c1, c2, c3, c4, c5, c6, c7, c8, c9], _ =>
    intro k0 k1 k2 k3 k4
    simp at k0 k1 k2 k3 k4
    obtain ⟨rfl, rfl⟩ := k0
    obtain ⟨rfl, rfl⟩ := k1
    obtain ⟨rfl, rfl⟩ := k2
    obtain ⟨rfl, rfl⟩ := k3
    obtain ⟨rfl, rfl⟩ := k4
    rfl
  ·cases h
end
/-- The worlds in which the table is laid. -/
theorem bars_of {W : World} (h : laidMetH Tryz.prog [("redraft/utext.bars", Rows.laid_redraft_utext_bars)] W) : CellsAt W 0 0 barC ∧ 0 < W.heap.size := by
 have h' : laidMet Tryz.prog [("redraft/utext.bars", Rows.laid_redraft_utext_bars)] W := h
 obtain ⟨ps, ⟨g', t', cs, fuel, p, q, hg', ht', hvar, hd, _, _⟩, _⟩ := h'
 obtain rfl := Option.some.inj (gBars.symm.trans hg')
 obtain rfl := Option.some.inj (gBarsT.symm.trans ht')
 have hc := bars_cells hd
 have hcell : ∀ j v, barC[j]? = some v → W.cell? ⟨0, j, none⟩ = some v := fun j v hj => by
  have h1 := World.var?_cell gBars hvar j
  rw [h1]
  first | (rw [← hc] at hj; simpa using hj) | (subst hc; simpa using hj)
 have h0 := hcell 0 _ rfl
 unfold World.cell? at h0
 cases hb : W.heap[0]? with
 | none => rw [hb] at h0; cases h0
 | some o =>
  refine ⟨?_, (Array.getElem?_eq_some_iff.1 hb).1⟩
  cases o with
  | cells c T fr =>
   refine ⟨c, T, fr, hb, fun j v hj => ?_⟩
   have := hcell j v hj
   unfold World.cell? at this
   rw [hb] at this
   simpa using this
  | _ => rw [hb] at h0; cases h0
/-- What was there stays as_ it was. -/
theorem kept_of {W W' : World} {Z' : Nat → Prop} (h : (NearF W (fun b => b < W.heap.size)).holds Z' W') (may : MemPlace → Prop) : W.keptBut W' may := by
 refine ⟨h.2.1, h.2.2.2, fun i hi => ?_⟩
 rw [(h.1 i hi).2]
 cases W.heap[i]? with
 | none => rfl
 | some o => cases o <;> first | rfl | exact ⟨rfl, rfl, rfl, fun _ _ => rfl⟩ | exact .inr ⟨rfl, rfl⟩
/-- A world in which all that is there is never written any more. -/
theorem st_of {W : World} {As : List Fact} (h : ∀ A ∈ As, A.holds (fun b => b < W.heap.size) W) : St (fun b => b < W.heap.size) W [] (As ++ [NearF W (fun b => b < W.heap.size)]) :=
 ⟨fun _ h => h, by simp, by simp, fun A hA => by
  rcases List.mem_append.1 hA with hA | hA
  ·exact h A hA
  ·rw [List.mem_singleton.1 hA]; exact ⟨fun b hb => ⟨hb, rfl⟩, rfl, rfl, rfl⟩⟩
/-- The last step where nothing that is read is changed. -/
theorem post_plain {H : Type} {enc : TypeId × Value → H} {P : Program} {f : Func} {s : ChangeSpec} {apart fresh handsOn : Bool} {W W' : World} {args : Array Value} {v : Value} {ds gs : List (DataW H)} {before pa pv : List MemPlace}
  (hW : DataW.Whole enc P f.params.toList s.vars apart W args.toList ds gs before)
  (hres : ∀ (b : Nat) (sp : Nat → Bool) (hd : Bool), DataW.TrodAll enc P W' b sp hd f.resultTypes.toList (v.resultList f.resultTypes.size) (s.fn H (ds ++ gs)).results [])
  (hargs : ∀ sp : Nat → Bool, (∀ p ∈ before, sp p.block = true) → DataW.TrodAll enc P W' 0 sp true f.params.toList args.toList (s.fn H (ds ++ gs)).args pa)
  (hvars : ∀ sp : Nat → Bool, (∀ p ∈ before, sp p.block = true) → DataW.TrodVars enc P W' sp s.vars (s.fn H (ds ++ gs)).vars pv)
  (hps : before = pa ++ pv) (hk : W.keptBut W' (· ∈ before)) : s.post enc P f apart fresh handsOn false W args v W' := by
 have hold : ∀ p ∈ before, (fun b => decide (b < W.heap.size)) p.block = true := fun p hp => by simpa using hW.lt p hp
 refine ⟨ds, gs, before, [], pa, pv, hW, hres _ _ _, hargs _ hold, hvars _ hold, World.keptBut_mono (fun p hp => ⟨hp, ?_⟩) hk, fun h => by cases h⟩
 rw [hps, List.mem_append] at hp
 exact Or.inr hp
end Go.Proofs.YtcjbjkbghgjmdaaGreatDoor
/- The rules by which this claim's walks go: rows of our own with elements: read, written, made. -/
namespace Go.GW
open Go
theorem flat_take {sz : Nat} {css : List (List Value)} (h : ∀ cs ∈ css, cs.length = sz) {i : Nat} {c : List Value} (hi : css[i]? = some c) (jk : List Value) : ((css.flatten ++ jk).drop (i * sz)).take sz = c := by
  have hlt : i < css.length := by
    rcases Nat.lt_or_ge i css.length with h | h
    · exact h
    · simp [List.getElem?_eq_none h] at hi
  have hc : css[i] = c := by rw [List.getElem?_eq_getElem hlt] at hi; exact Option.some.inj hi
  have hle : i * sz ≤ css.flatten.length := by rw [flat_len h]; exact Nat.mul_le_mul_right _ (by omega)
  rw [List.drop_append_of_le_length hle, ← flat_drop h, List.drop_eq_getElem_cons hlt, hc, List.flatten_cons, List.append_assoc]
  exact List.take_left' (h c (hc ▸ List.getElem_mem hlt))
theorem setAll_eq : ∀ (vs cs : List Value) (k : Nat), k + vs.length ≤ cs.length → setAll cs k vs = cs.take k ++ vs ++ cs.drop (k + vs.length)
  | [], cs, k, h => by simp [setAll]
  | v :: vs, cs, k, h => by
    simp only [List.length_cons] at h
    rw [setAll, setAll_eq vs (cs.set k v) (k + 1) (by simp; omega)]
    have h1 : (cs.set k v).take (k + 1) = cs.take k ++ [v] := by
      rw [List.set_eq_take_append_cons_drop, if_pos (by omega), List.take_append]
      simp [List.length_take, List.take_take, Nat.min_eq_left (by omega : k ≤ cs.length)]
    have h2 : (cs.set k v).drop (k + 1 + vs.length) = cs.drop (k + (v :: vs).length) := by
      rw [List.drop_set_of_lt (by omega)]
      congr 1; simp; omega
    rw [h1, h2]
    simp
theorem flat_set {sz : Nat} {css : List (List Value)} (h : ∀ cs ∈ css, cs.length = sz) {i : Nat} {c : List Value} (hi : i < css.length) (hc : c.length = sz) (jk : List Value) : setAll (css.flatten ++ jk) (i * sz) c = (css.set i c).flatten ++ jk := by
  have hle : i * sz ≤ css.flatten.length := by rw [flat_len h]; exact Nat.mul_le_mul_right _ (by omega)
  have hle2 : i * sz + sz ≤ css.flatten.length := by
    have : (i + 1) * sz ≤ css.length * sz := Nat.mul_le_mul_right _ (by omega)
    rw [Nat.add_mul, Nat.one_mul] at this
    rw [flat_len h]; exact this
  rw [setAll_eq _ _ _ (by rw [List.length_append, hc]; omega), hc, List.take_append_of_le_length hle, List.drop_append_of_le_length hle2]
  have e1 : (i + 1) * sz = i * sz + sz := by rw [Nat.add_mul, Nat.one_mul]
  rw [← e1, ← flat_drop h, List.set_eq_take_append_cons_drop, if_pos hi, List.flatten_append, List.flatten_cons]
  have e2 : css.flatten.take (i * sz) = (css.take i).flatten := by
    have h1 : css.flatten = (css.take i).flatten ++ (css.drop i).flatten := by rw [← List.flatten_append, List.take_append_drop]
    have h2 : (css.take i).flatten.length = i * sz := by
      rw [flat_len (fun cs hcs => h cs (List.mem_of_mem_take hcs)), List.length_take, Nat.min_eq_left (by omega)]
    rw [h1, List.take_left' h2]
  rw [e2]
  simp [List.append_assoc]
section
variable {P : Program} {n : Nat} {R : Post} {l : Fr} {Ps Ps' : List Part} {As : List Fact} {ops : Array Oper} {rest : List Oper} {ty : TypeId} {pos : String} {aft : Array Edge} {g : Option (Nat × Bool)} {K : Nx} {d : Nat} {dd : Option Tmp}
/-- What the elements of a row are. -/
theorem Reps.open {α : Type} {r : α → List Value → Prop} {xs : List α} {css : List (List Value)} (h : Reps r xs css) {k : Nat} {u : α} (hu : xs[k]? = some u) : ∃ cs, css[k]? = some cs ∧ r u cs := h.at k u hu
theorem WC_reps {α : Type} {e : De α} {c : Code} {xs : List α} {css : List (List Value)} {k : Nat} {u : α} {β : Type} {mk : β → List Value} {Fs : β → List Fact} (hA : RepsF e xs css ∈ As) (hu : xs[k]? = some u) (ho : ∀ Z w cs, e.rep Z w u cs → ∃ y, cs = mk y ∧ ∀ B ∈ Fs y, B.holds Z w)
    (h : ∀ y, css[k]? = some (mk y) → WC P n c R l Ps (Fs y ++ As)) : WC P n c R l Ps As :=
  WC_pull (Fs := Fs) (p := fun y => css[k]? = some (mk y)) hA (fun Z w hR => by
    obtain ⟨cs, h1, h2⟩ := (hR : Reps (e.rep Z w) xs css).at k u hu
    obtain ⟨y, h3, h4⟩ := ho Z w cs h2
    subst h3
    exact ⟨y, h1, h4⟩) h
theorem WC_repsLen {α : Type} {e : De α} {c : Code} {xs : List α} {css : List (List Value)} (hA : RepsF e xs css ∈ As) (h : css.length = xs.length → (∀ cs ∈ css, cs.length = e.sz) → WC P n c R l Ps As) : WC P n c R l Ps As := fun Z w a hs ha =>
  h (Reps.length (hs.facts _ hA : Reps (e.rep Z w) xs css)) (Reps.lens (hs.facts _ hA : Reps (e.rep Z w) xs css)) Z w a hs ha
/-- An element of a row of our own, loaded. -/
theorem q_loadR {T : TypeId} {x : Operand} {de : TypeDesc} {b i o : Nat} {css : List (List Value)} {c jk : List Value} {T' : TypeId} {z : Option Value} {sz by_ : Nat} (hu : P.underlying T = some de) (hd : agg? de = true) (ht : ti P T = some (z, sz, by_)) (h : evs l x = some (.pointer (some ⟨b, o, none⟩))) (ho : o = i * sz)
    (hb : OwnAt Ps b (cellsO (css.flatten ++ jk) T')) (hlen : ∀ cs ∈ css, cs.length = sz) (hi : css[i]? = some c) : QR P l Ps As ⟨dd, .load T x, ty, pos, aft, g⟩ (.agg c.toArray) := by
  subst ho
  exact q_loadN hu hd ht h hb (flat_take hlen hi jk) (hlen c (List.mem_of_getElem? hi))
/-- .. written. -/
theorem OW_storeR {T : TypeId} {x y : Operand} {b o i sz : Nat} {css : List (List Value)} {c jk : List Value} {T' : TypeId} {z : Option Value} {by_ : Nat} (ht : ti P T = some (z, sz, by_)) (hx : evs l x = some (.pointer (some ⟨b, o, none⟩))) (ho : o = i * sz) (hy : evs l y = some (.agg c.toArray)) (hl : c.length = sz) (hv : c.all Value.oneCell' = true)
    (hlen : ∀ cs ∈ css, cs.length = sz) (hi : i < css.length) (hp : SetAt Ps [(b, cellsO (css.flatten ++ jk) T')] [(b, cellsO ((css.set i c).flatten ++ jk) T')] Ps') (h : K l Ps' As) : OW P n R l Ps As ⟨none, .store T x y, ty, pos, aft, g⟩ K := by
  subst ho
  refine OW_storeN ht hx hy hl hv (flat_set hlen hi hl jk) ?_ hp h
  have h1 : (i + 1) * sz ≤ css.length * sz := Nat.mul_le_mul_right _ (by omega)
  rw [Nat.add_mul, Nat.one_mul] at h1
  rw [List.length_append, flat_len hlen, hl]; omega
/-- A row that has a block. -/
def RowS (T : TypeId) (sz : Nat) (v : Value) (n : Nat) (cs : List Value) (p : Part) : Prop :=
  cs.length = n * sz ∧ ∃ b cap jk, v = .slice (some ⟨b, 0, none⟩) n cap ∧ p = [(b, cellsO (cs ++ jk) T)] ∧ (cs ++ jk).length = cap * sz ∧ n ≤ cap ∧ cap ≤ maxLen
theorem RowS.row {T : TypeId} {sz m : Nat} {v : Value} {cs : List Value} {p : Part} (h : RowS T sz v m cs p) : Row T sz v m cs p := ⟨h.1, .inr h.2⟩
theorem Row.toS {T : TypeId} {sz m : Nat} {v : Value} {cs : List Value} {p : Part} (h : Row T sz v m cs p) (hm : m ≠ 0) : RowS T sz v m cs p := ⟨h.1, by
  rcases h.2 with ⟨_, h0, _⟩ | h
  · exact absurd h0 hm
  · exact h⟩
theorem Row.again {T : TypeId} {sz m cap b : Nat} {css0 css : List (List Value)} {jk : List Value} (h1 : css0.flatten.length = m * sz) (h2 : (css0.flatten ++ jk).length = cap * sz) (h3 : m ≤ cap) (h4 : cap ≤ maxLen) (hl : css.length = m) (hls : ∀ cs ∈ css, cs.length = sz) :
    Row T sz (.slice (some ⟨b, 0, none⟩) m cap) m css.flatten [(b, cellsO (css.flatten ++ jk) T)] := by
  have e : css.flatten.length = m * sz := by rw [flat_len hls, hl]
  refine ⟨e, .inr ⟨b, cap, jk, rfl, rfl, ?_, h3, h4⟩⟩
  rw [List.length_append] at h2 ⊢
  omega
/-- A made row, empty yet. -/
theorem OW_make0 {T E : TypeId} {x y : Operand} {zv : Value} {sz by_ k : Nat} (hu : P.underlying T = some (.slice E)) (ht : ti P E = some (some zv, sz, by_)) (hx : evs l x = some (.int .i64 0)) (hy : evs l y = some (.int .i64 k)) (hk : by_ * k ≤ 281474976710656) (hm : k ≤ maxLen) (hd : d < n)
    (h : ∀ v p, RowS E sz v 0 [] p → K ((d, v) :: l) (p :: Ps) As) : OW P n R l Ps As ⟨some d, .makeSlice T x y, ty, pos, aft, g⟩ K :=
  OW_value rfl hd fun Z w ρ hs hρ => by
    unfold ti at ht
    cases hi : P.info? E with
    | none => rw [hi] at ht; cases ht
    | some i =>
      rw [hi] at ht
      simp only [Option.map_some, Option.some.injEq, Prod.mk.injEq] at ht
      have hm' := hm
      simp only [maxLen] at hm'
      have hb' : (i.bytes : Int) * (k : Int) ≤ 281474976710656 := by
        have h1 : ((i.bytes * k : Nat) : Int) ≤ 281474976710656 := by rw [ht.2.2]; omega
        rwa [Int.natCast_mul] at h1
      have hr := run_make (P := P) w T E i zv hu hi ht.1 .i64 .i64 0 k (Int.le_refl _) (by omega) hb' (by omega)
      refine ⟨_, w.alloc (cellsO ([] ++ (madeCells zv.cells (k * i.size)).toList) E), Z, _, As, ?_, hs.alloc _, h _ _ ⟨by simp, w.heap.size, k, (madeCells zv.cells (k * i.size)).toList, rfl, rfl, ?_, Nat.zero_le _, hm⟩⟩
      · simp only [execOp, hρ _ _ hx, hρ _ _ hy, Sem.run_bind, hr, Result.andThen_ok, Sem.run_pure, Int.toNat_natCast, Int.toNat_zero]
        simp [cellsO]
      · simp [size_madeCells, ht.2.1]
/-- What is known of a row that has grown by one. -/
theorem WC_repsAdd {α : Type} {e : De α} {c : Code} {xs xs' : List α} {css : List (List Value)} {u : α} {cs : List Value} (hA : RepsF e xs css ∈ As) (hu : ∀ Z w, St Z w Ps As → e.rep Z w u cs) (hx : xs' = xs ++ [u]) (h : WC P n c R l Ps (RepsF e xs' (css ++ [cs]) :: As)) : WC P n c R l Ps As := by
  subst hx
  exact WC_fact (A := RepsF e (xs ++ [u]) (css ++ [cs])) (fun Z w hs => Reps.append (hs.facts _ hA : Reps (e.rep Z w) xs css) (.cons (hu Z w hs) .nil)) h
theorem WL_repsSet {α : Type} {e : De α} {xs xs' : List α} {css : List (List Value)} {u : α} {cs : List Value} (i : Nat) (hA : RepsF e xs css ∈ As) (hu : ∀ Z w, St Z w Ps As → e.rep Z w u cs) (hx : xs' = xs.set i u) (h : WL P n ops R rest l Ps (RepsF e xs' (css.set i cs) :: As)) : WL P n ops R rest l Ps As := by
  subst hx
  exact WL_fact (A := RepsF e (xs.set i u) (css.set i cs)) (fun Z w hs => Reps.set (hs.facts _ hA : Reps (e.rep Z w) xs css) i u cs (hu Z w hs)) h
end
end Go.GW
/- The rules by which this claim's walks go: a block within a part written; three parts handed to a call; an entry of a map read behind a step. -/
namespace Go.GW
open Go
section
variable {P : Program} {n : Nat} {R : Post} {l : Fr} {Ps Ps' : List Part} {As : List Fact} {ops : Array Oper} {rest : List Oper} {ty : TypeId} {pos : String} {aft : Array Edge} {g : Option (Nat × Bool)} {K : Nx} {d : Nat} {dd : Option Tmp}
theorem St.pick {Z : Nat → Prop} {w : World} {p : Part} (h : St Z w Ps As) (hd : DelAt Ps p Ps') : St Z w (p :: Ps') As := h.permParts hd.perm
theorem St.setCellP {Z : Nat → Prop} {w : World} {p : Part} {b i k : Nat} {cs : List Value} {T : TypeId} (h : St Z w (p :: Ps) As) (hi : p[i]? = some (b, cellsO cs T)) (v : Value) : St Z (w.setCell ⟨b, k, none⟩ v) (p.set i (b, cellsO (cs.set k v) T) :: Ps) As := by
  have hm : (b, cellsO cs T) ∈ p := List.mem_of_getElem? hi
  have hb : w.heap[b]? = some (cellsO cs T) := (h.own (b, _) (by simp [hm])).1
  have hnd := h.nodup
  rw [List.flatten_cons, List.map_append, List.nodup_append] at hnd
  have hlt : i < p.length := by
    rcases Nat.lt_or_ge i p.length with h | h
    · exact h
    · simp [List.getElem?_eq_none h] at hi
  have hpi : p[i] = (b, cellsO cs T) := by rw [List.getElem?_eq_getElem hlt] at hi; exact Option.some.inj hi
  have hfst : (p.set i (b, cellsO (cs.set k v) T)).map Prod.fst = p.map Prod.fst := by
    rw [List.map_set]
    apply List.ext_getElem
    · simp
    · intro j h1 h2
      rw [List.getElem_set]
      split
      · rename_i e; subst e; simp [hpi]
      · rfl
  refine h.turn rfl rfl rfl (by simp [World.setCell]) (fun b' hb' hn => setCell_other v (fun e => hn _ (by subst e; exact hm))) (fun q hq => ?_) (by rw [hfst]; exact hnd.1)
  obtain ⟨j, hj, rfl⟩ := List.mem_iff_getElem.1 hq
  rw [List.getElem_set]
  split
  · exact ⟨setCell_block hb v, .inl ⟨_, hm⟩⟩
  · rename_i hne
    have hj' : j < p.length := by simpa using hj
    have hmj : p[j] ∈ p := List.getElem_mem hj'
    refine ⟨?_, .inl ⟨_, hmj⟩⟩
    have h1 : p[j].1 ≠ b := fun e => by
      have h2 : (p.map Prod.fst)[j]'(by simpa using hj') = (p.map Prod.fst)[i]'(by simpa using hlt) := by simp [hpi, e]
      exact hne ((List.getElem_inj hnd.1).1 h2).symm
    rw [setCell_other v h1]
    exact (h.own _ (by simp [hmj])).1
theorem OW_storeP {T : TypeId} {x y : Operand} {b o i : Nat} {v : Value} {cs cs' : List Value} {T' : TypeId} {z : Option Value} {by_ : Nat} {p : Part} (ht : ti P T = some (z, 1, by_)) (hx : evs l x = some (.pointer (some ⟨b, o, none⟩))) (hy : evs l y = some v) (hv : v.oneCell' = true)
    (hi : p[i]? = some (b, cellsO cs T')) (hc : SetL cs o v cs') (hp : SetAt Ps p (p.set i (b, cellsO cs' T')) Ps') (h : K l Ps' As) : OW P n R l Ps As ⟨none, .store T x y, ty, pos, aft, g⟩ K :=
  OW_skip rfl fun Z w ρ hs hρ => by
    obtain ⟨h1, h2⟩ := hc.eq
    have hm : (b, cellsO cs T') ∈ p := List.mem_of_getElem? hi
    have hb : w.heap[b]? = some (cellsO cs T') := by
      obtain ⟨Qs, h3, h4⟩ := hp.perm
      exact ((hs.permParts h3).own (b, _) (by simp [hm])).1
    have hcell : v.cells = #[v] := by cases v <;> first | rfl | (simp [Value.oneCell'] at hv; done)
    refine ⟨w.setCell ⟨b, o, none⟩ v, Z, Ps', As, ?_, ?_, h⟩
    · simp only [execOp, hρ _ _ hx, hρ _ _ hy, Instr.storeAt, Instr.sureAddr, storeVar, Sem.run_bind, Sem.run_pure, Result.andThen_ok, run_sizeOf ht, hcell]
      simp [storeCells, add_none, run_store1 hb h1 hv]
    · subst h2; exact hs.setAt hp fun h => h.setCellP hi v
theorem OW_call2 {k : FuncId} {xs : List Operand} {ts : Array TypeId} {args : List Value} {p1 p2 : Part} {Q1 Q2 : List Part} {pre : List Fact} {res : Value → List Part → List Fact → Prop}
    (hsp : Sp P k args [p1, p2] pre res) (hxs : Evs l xs args) (hd : d < n) (h1 : DelAt Ps p1 Q1) (h2 : DelAt Q1 p2 Q2) (hpre : ∀ A ∈ pre, A ∈ As)
    (h : ∀ v Lo fs, res v Lo fs → K ((d, v) :: l) (Lo ++ Q2) (fs ++ As)) :
    OW P n R l Ps As ⟨some d, .call ⟨.value (.func k), xs.toArray, ts⟩, ty, pos, aft, g⟩ K :=
  OW_callP hsp hxs hd (by
    have e1 := h1.perm; have e2 := h2.perm
    simp only [List.flatten_cons, List.cons_append, List.nil_append] at e1 e2 ⊢
    exact (List.Perm.append_left p1 e2).trans e1) hpre h
theorem OW_call3 {k : FuncId} {xs : List Operand} {ts : Array TypeId} {args : List Value} {p1 p2 p3 : Part} {Q1 Q2 Q3 : List Part} {pre : List Fact} {res : Value → List Part → List Fact → Prop}
    (hsp : Sp P k args [p1, p2, p3] pre res) (hxs : Evs l xs args) (hd : d < n) (h1 : DelAt Ps p1 Q1) (h2 : DelAt Q1 p2 Q2) (h3 : DelAt Q2 p3 Q3) (hpre : ∀ A ∈ pre, A ∈ As)
    (h : ∀ v Lo fs, res v Lo fs → K ((d, v) :: l) (Lo ++ Q3) (fs ++ As)) :
    OW P n R l Ps As ⟨some d, .call ⟨.value (.func k), xs.toArray, ts⟩, ty, pos, aft, g⟩ K :=
  OW_callP hsp hxs hd (by
    have e1 := h1.perm; have e2 := h2.perm; have e3 := h3.perm
    simp only [List.flatten_cons, List.cons_append, List.nil_append] at e1 e2 e3 ⊢
    exact (List.Perm.append_left p1 ((List.Perm.append_left p2 e3).trans e2)).trans e1) hpre h
theorem q_lookN {T Kt E : TypeId} {x y : Operand} {m : Nat} {L : List MK} {c k : Int} {sz by_ : Nat} (hk : KeyT P Kt) (hg : mGet L c k = none) (hu : P.underlying T = some (.map Kt E)) (ht : ti P E = some (some (.pointer none), sz, by_)) (hx : evs l x = some (.map (some m))) (hy : evs l y = some (idV c k)) (hb : OwnAt Ps m (mapO L)) :
    QR P l Ps As ⟨dd, .lookup T x y false, ty, pos, aft, g⟩ (.pointer none) := by
  have := q_look (dd := dd) (As := As) (ty := ty) (pos := pos) (aft := aft) (g := g) hk hu ht hx hy hb
  rw [hg] at this; exact this
theorem q_lookS {T Kt E : TypeId} {x y : Operand} {m b : Nat} {L : List MK} {c k : Int} {sz by_ : Nat} (hk : KeyT P Kt) (hg : mGet L c k = some b) (hu : P.underlying T = some (.map Kt E)) (ht : ti P E = some (some (.pointer none), sz, by_)) (hx : evs l x = some (.map (some m))) (hy : evs l y = some (idV c k)) (hb : OwnAt Ps m (mapO L)) :
    QR P l Ps As ⟨dd, .lookup T x y false, ty, pos, aft, g⟩ (.pointer (some ⟨b, 0, none⟩)) := by
  have := q_look (dd := dd) (As := As) (ty := ty) (pos := pos) (aft := aft) (g := g) hk hu ht hx hy hb
  rw [hg] at this; exact this
/-- Ways that meet: what holds there. -/
theorem WC_meet {α : Type} (fr : α → Fr) (ps : α → List Part) (as_ : α → List Fact) (p : α → Prop) {c e : Code} (h1 : WC P n c (thenR (fun l Ps As => ∃ x, p x ∧ Sub (fr x) l ∧ (ps x).Sublist Ps ∧ ∀ A ∈ as_ x, A ∈ As) R) l Ps As) (h2 : ∀ x, p x → WC P n e R (fr x) (ps x) (as_ x)) : WC P n (.seq c e) R l Ps As :=
  WC_join (fun l Ps As => ∃ x, p x ∧ Sub (fr x) l ∧ (ps x).Sublist Ps ∧ ∀ A ∈ as_ x, A ∈ As) h1 fun l Ps As ⟨x, hp, hl, hP, hA⟩ => WC_sub hl hP hA (h2 x hp)
theorem WC_pick {c : Code} {p : Part} (hd : DelAt Ps p Ps') (k : WC P n c R l (p :: Ps') As) : WC P n c R l Ps As := fun Z w a hs ha => k Z w a (hs.pick hd) ha
theorem WL_pick {p : Part} (hd : DelAt Ps p Ps') (k : WL P n ops R rest l (p :: Ps') As) : WL P n ops R rest l Ps As := fun Z w a hs ha => k Z w a (hs.pick hd) ha
theorem WC_glue {c : Code} {p q : Part} (k : WC P n c R l ((q ++ p) :: Ps) As) : WC P n c R l (p :: q :: Ps) As := fun Z w a hs ha => k Z w a (hs.permParts (by
  simp only [List.flatten_cons, List.append_assoc]
  exact List.perm_append_comm_assoc q p _)) ha
/-- A slice of one element, given up. -/
theorem St.freeze1 {α : Type} {e : De α} {T : TypeId} {b : Nat} {cs : List Value} {u : α} {Z : Nat → Prop} {w : World} (hs : St Z w Ps As) (hp : DelAt Ps [(b, cellsO cs T)] Ps') (hr : e.rep Z w u cs) : ∃ Z', St Z' w Ps' (RdF e (some ⟨b, 0, none⟩) 1 [u] :: As) := by
  have hl := e.len hr
  have hrow : Row T e.sz (.slice (some ⟨b, 0, none⟩) 1 1) 1 [cs].flatten [(b, cellsO cs T)] := by
    refine ⟨by simp [hl], .inr ⟨b, 1, [], rfl, by simp, by simp [hl], Nat.le_refl _, by simp [maxLen]⟩⟩
  obtain ⟨A, cap, Z', h1, h2⟩ := (hs.addFact (A := RepsF e [u] [cs]) (.cons hr .nil)).freezeRow hp hrow rfl (.head _)
  obtain ⟨rfl, _, rfl⟩ := Value.slice.inj h1
  exact ⟨Z', h2.subFacts fun A hA => by
    rcases List.mem_cons.1 hA with rfl | hA
    · exact .head _
    · exact .tail _ (.tail _ hA)⟩
theorem WE_freeze1 {α : Type} {e : De α} {T : TypeId} {b : Nat} {cs : List Value} {u : α} {ws : World} {Z0 : Nat → Prop} {Ps0 : List Part} {As0 : List Fact} {r : OT} (hp : DelAt Ps [(b, cellsO cs T)] Ps') (hr : ∀ Z w, St Z w Ps As → e.rep Z w u cs)
    (k : WE P n ops R ws Z0 Ps0 As0 r l Ps' (RdF e (some ⟨b, 0, none⟩) 1 [u] :: As)) : WE P n ops R ws Z0 Ps0 As0 r l Ps As := fun h0 Z w a hs ha => by
  obtain ⟨Z', h2⟩ := hs.freeze1 hp (hr Z w hs)
  exact k h0 Z' w a h2 ha
/-- Facts of a list's elements, all at once. -/
def AllF {α : Type} (xs : List α) (f : α → Fact) : Fact where
  holds Z w := ∀ x ∈ xs, (f x).holds Z w
  stable hz hh h1 h2 h3 h := fun x hx => (f x).stable hz hh h1 h2 h3 (h x hx)
theorem WC_all {α : Type} {c : Code} {xs : List α} {f : α → Fact} (x : α) (hA : AllF xs f ∈ As) (hx : x ∈ xs) (h : WC P n c R l Ps (f x :: As)) : WC P n c R l Ps As := WC_fact (fun Z w hs => hs.facts _ hA x hx) h
end
end Go.GW
/- From arguments that read as_ data to the walks' facts. -/
namespace Go.GW
open Go
section
variable {H : Type} {enc : TypeId × Value → H} {P : Program} {w : World} {sp : Nat → Bool} {held : Bool}
theorem add_cell {a : Addr} {k : Nat} {v : Value} (h : w.cell? (a.add k) = some v) (hs : a.spot = none) : w.cell? ⟨a.block, a.off + k, none⟩ = some v := by
 obtain ⟨b, o, s⟩ := a
 simp only at hs
 subst hs
 rwa [add_none] at h
theorem add_add (a : Addr) (i j : Nat) : (a.add i).add j = a.add (i + j) := by
 unfold Addr.add
 by_cases h1 : i = 0
 ·subst h1; simp
 ·by_cases h2 : j = 0
  ·subst h2; simp [h1]
  ·have h3 : i + j ≠ 0 := by omega
   simp [h1, h2, h3, Nat.add_assoc]
/-- A slice of flat elements, read. -/
theorem rd_slice {α : Type} {e : De α} {T E : TypeId} (hu : P.underlying T = some (.slice E)) (hsz : P.cellsOf E = e.sz) (h0 : 0 < e.sz)
  (hel : ∀ (m : Nat) (cs : List Value) (x : DataW H × List MemPlace), DataW.trod enc P w 0 sp held m E cs = some x → ∃ u : α, ∀ Z w', e.rep Z w' u cs)
  {v : Value} {d : DataW H} {p : List MemPlace} {r : Reach} {b0 : Nat} {W0 : World} (hval : Value.okWide P W0 r b0 T v) (h : DataW.Trod enc P w 0 sp held T v d p) : ∃ (A : Option Addr) (xs : List α) (c : Nat), v = .slice A xs.length c ∧ (RdF e A c xs).holds (fun b => b < w.heap.size) w := by
 obtain ⟨n, hn⟩ := h
 obtain ⟨Av, lv, cv, rfl⟩ := WideShapes.okWide_slice hu hval
 rcases DataW.trod_slice hu hn with ⟨h1, _⟩ | ⟨a, len, cap, elems, rest, m, _, h1, _, _, hlc, hcm, hlen, hget, _, _⟩
 ·simp only [Value.cells, List.cons.injEq, and_true] at h1
  obtain ⟨rfl, rfl, rfl⟩ := Value.slice.inj h1
  exact ⟨none, [], 0, rfl, RdS.nil _ _ _⟩
 ·simp only [Value.cells, List.cons.injEq, and_true] at h1
  obtain ⟨rfl, rfl, rfl⟩ := Value.slice.inj h1
  rw [hsz] at hget
  have key : ∀ i : Fin lv, ∃ u : α, ∃ cs : List Value, (∀ Z w', e.rep Z w' u cs) ∧ cs.length = e.sz ∧ ∀ (k : Nat) (x : Value), cs[k]? = some x → w.cell? (a.add (i.val * e.sz + k)) = some x := by
   intro i
   have h2 := hget i.val i.isLt
   have h3 : i.val < elems.length := by omega
   rw [List.getElem?_eq_getElem h3] at h2
   obtain ⟨cs, h4, h5⟩ := Option.bind_eq_some_iff.1 h2
   obtain ⟨u, hu'⟩ := hel m cs _ h5
   unfold World.cells? at h4
   split at h4
   ·refine ⟨u, cs, hu', ?_, fun k x hk => ?_⟩
    ·have := mapM_some_length h4; simpa using this
    ·have hlt : k < cs.length := by
      rcases Nat.lt_or_ge k cs.length with h | h
      ·exact h
      ·rw [List.getElem?_eq_none h] at hk; cases hk
     have hl := mapM_some_length h4
     rw [List.length_range] at hl
     have := mapM_some_get h4 k k (by rw [List.getElem?_range (by omega)])
     rw [hk, add_add] at this
     exact this
   ·cases h4
  by_cases hz : lv = 0
  ·subst hz
   exact ⟨some a, [], cv, rfl, Nat.zero_le _, hcm, .inl ⟨rfl, fun h => by cases h⟩⟩
  ·obtain ⟨f, g, hf1, hf2, hf3⟩ : ∃ (f : Fin lv → α) (g : Fin lv → List Value), (∀ i Z w', e.rep Z w' (f i) (g i)) ∧ (∀ i, (g i).length = e.sz) ∧ ∀ i (k : Nat) (x : Value), (g i)[k]? = some x → w.cell? (a.add (i.val * e.sz + k)) = some x :=
    ⟨fun i => Classical.choose (key i), fun i => Classical.choose (Classical.choose_spec (key i)), fun i => (Classical.choose_spec (Classical.choose_spec (key i))).1, fun i => (Classical.choose_spec (Classical.choose_spec (key i))).2.1, fun i => (Classical.choose_spec (Classical.choose_spec (key i))).2.2⟩
   have hspot : a.spot = none ∧ ∃ full T fr, w.heap[a.block]? = some (.cells full T fr) := by
    have i0 : 0 < lv := by omega
    have h4 := hf2 ⟨0, i0⟩
    have h5 : ∃ x, (g ⟨0, i0⟩)[0]? = some x := ⟨_, List.getElem?_eq_getElem (by omega)⟩
    obtain ⟨x, hx⟩ := h5
    have h6 := hf3 ⟨0, i0⟩ 0 x hx
    simp only [Nat.zero_mul, Nat.zero_add] at h6
    have h7 : a.add 0 = a := by unfold Addr.add; simp
    rw [h7] at h6
    unfold World.cell? at h6
    split at h6
    ·rename_i c T fr heq
     split at h6
     ·cases h6
     ·rename_i hs
      refine ⟨?_, _, _, _, heq⟩
      cases hq : a.spot with
      | none => rfl
      | some s => rw [hq] at hs; simp at hs
    ·cases h6
   obtain ⟨hs, full, T', fr, hblk⟩ := hspot
   have hxl : (List.ofFn f).length = lv := by simp
   refine ⟨some a, List.ofFn f, cv, by rw [hxl], by rw [hxl]; exact hlc, hcm, .inr ⟨a.block, a.off, List.ofFn g, ?_, (Array.getElem?_eq_some_iff.1 hblk).1, ?_, ⟨full, T', fr, hblk, ?_⟩⟩⟩
   ·obtain ⟨b, o, s⟩ := a
    simp only at hs
    subst hs; rfl
   ·have : ∀ (n : Nat) (f' : Fin n → α) (g' : Fin n → List Value), (∀ i, e.rep (fun b => b < w.heap.size) w (f' i) (g' i)) → Reps (e.rep (fun b => b < w.heap.size) w) (List.ofFn f') (List.ofFn g') := by
     intro n
     induction n with
     | zero => intro f' g' _; simp; exact .nil
     | succ n ih => intro f' g' h; rw [List.ofFn_succ, List.ofFn_succ]; exact .cons (h 0) (ih _ _ fun i => h i.succ)
    exact this lv f g fun i => hf1 i _ _
   ·intro j x hj
    have hls : ∀ cs ∈ List.ofFn g, cs.length = e.sz := fun cs hcs => by
     rw [List.mem_ofFn] at hcs
     obtain ⟨i, rfl⟩ := hcs
     exact hf2 i
    have hjl : j < (List.ofFn g).flatten.length := by
     rcases Nat.lt_or_ge j (List.ofFn g).flatten.length with h | h
     ·exact h
     ·rw [List.getElem?_eq_none h] at hj; cases hj
    rw [flat_len hls, List.length_ofFn] at hjl
    have hq : j / e.sz < lv := by rw [Nat.div_lt_iff_lt_mul h0]; exact hjl
    have hr : j % e.sz < e.sz := Nat.mod_lt _ h0
    have hjj : j / e.sz * e.sz + j % e.sz = j := by rw [Nat.mul_comm]; exact Nat.div_add_mod j e.sz
    have hgl := hf2 ⟨j / e.sz, hq⟩
    have hy : (g ⟨j / e.sz, hq⟩)[j % e.sz]? = some ((g ⟨j / e.sz, hq⟩)[j % e.sz]'(by omega)) := List.getElem?_eq_getElem _
    have h8 := flat_at hls (j / e.sz) (g ⟨j / e.sz, hq⟩) (by rw [List.getElem?_ofFn]; simp [hq]) (j % e.sz) _ hy
    rw [hjj, hj] at h8
    have h9 := hf3 ⟨j / e.sz, hq⟩ (j % e.sz) _ hy
    have h10 := add_cell h9 hs
    simp only at h10
    rw [hjj] at h10
    unfold World.cell? at h10
    simp only [hblk] at h10
    rw [Option.some.inj h8]
    simpa using h10
end
end Go.GW
/- Walks: right, outside, bounded, clash. -/
namespace Go.Proofs.YtcjbjkbghgjmdaaGreatDoor
open Go Go.GW
set_option maxRecDepth 10000 in
theorem right_s (c n : Int) : Sp Tryz.prog 42 [.agg #[.int .i64 c, .int .i64 n]] [] [] (Is (.bool (decide (1 ≤ c ∧ c ≤ 8 ∧ 1 ≤ n ∧ n ≤ 1024)))) := by
 refine Sp.of (n := 21) ⟨_, Tryz.func42, rfl, rfl, rfl, rfl⟩ (Nat.le_of_ble_eq_true rfl) fun Ps As => WC_seq (WC_region (WL_main rfl (OW_box (cs := [_, _]) rfl rfl (by decide) fun b1 => Lq (q_assign rfl) (WL_nil (thenN (WC_seq (WC_region (Lq (q_idxA (o' := 0) Un37 ti3 rfl rfl (by decide) (by decide) rfl) (Lq (q_load1 Un3 rfl rfl own0 rfl) (Lq (q_geq rfl rfl) (Lq (q_move rfl) (WL_guard (t := 6) rfl (fun g6 => ?_) (fun g6 => ?_)))))))))))))
 ·refine Lg rfl rfl rfl g6 (q_idxA (o' := 0) Un37 ti3 rfl rfl (by decide) (by decide) rfl) (Lg rfl rfl rfl g6 (q_load1 Un3 rfl rfl own0 rfl) (Lg rfl rfl rfl g6 (q_leq rfl rfl) (Lq (q_pickT rfl g6 rfl) (Lq (q_move rfl) (WL_guard (t := 11) rfl (fun g11 => ?_) (fun g11 => ?_))))))
  ·refine Lg rfl rfl rfl g11 (q_idxA (o' := 1) Un37 ti3 rfl rfl (by decide) (by decide) rfl) (Lg rfl rfl rfl g11 (q_load1 Un3 rfl rfl own0 rfl) (Lg rfl rfl rfl g11 (q_geq rfl rfl) (Lq (q_pickT rfl g11 rfl) (Lq (q_move rfl) (WL_guard (t := 16) rfl (fun g16 => ?_) (fun g16 => ?_))))))
   ·refine Lg rfl rfl rfl g16 (q_idxA (o' := 1) Un37 ti3 rfl rfl (by decide) (by decide) rfl) (Lg rfl rfl rfl g16 (q_load1 Un3 rfl rfl own0 rfl) (Lg rfl rfl rfl g16 (q_leq rfl rfl) (Lq (q_pickT rfl g16 rfl) (Lq (q_assign rfl) (WL_nil (thenN (WC_fr [(2, _)] (.cons rfl (.nil _)) (WC_ret ?_))))))))
    refine ⟨_, [], [], fun Z w hs => .tmp rfl (.nil), ?_, fun Z w hs => hs.out (Sd (Sr)) (fun _ h => h)⟩
    try simp only [Bp, Bq] at *
    exact ⟨congrArg Value.bool (by first | exact (decide_eq_true (by omega)).symm | exact (decide_eq_false (by omega)).symm | exact decide_eq_decide.2 (by omega) | (rw [Bool.eq_iff_iff]; simp; omega) | (rw [Bool.eq_iff_iff]; simp; done)), rfl, rfl⟩
   ·refine Ln rfl rfl rfl g16 (Ln rfl rfl rfl g16 (Ln rfl rfl rfl g16 (Lq (q_pickF rfl g16 rfl) (Lq (q_assign rfl) (WL_nil (thenN (WC_fr [(2, _)] (.cons rfl (.nil _)) (WC_ret ?_))))))))
    refine ⟨_, [], [], fun Z w hs => .tmp rfl (.nil), ?_, fun Z w hs => hs.out (Sd (Sr)) (fun _ h => h)⟩
    try simp only [Bp, Bq] at *
    exact ⟨congrArg Value.bool (by first | exact (decide_eq_true (by omega)).symm | exact (decide_eq_false (by omega)).symm | exact decide_eq_decide.2 (by omega) | (rw [Bool.eq_iff_iff]; simp; omega) | (rw [Bool.eq_iff_iff]; simp; done)), rfl, rfl⟩
  ·refine Ln rfl rfl rfl g11 (Ln rfl rfl rfl g11 (Ln rfl rfl rfl g11 (Lq (q_pickF rfl g11 rfl) (Lq (q_move rfl) (Ln rfl rfl rfl rfl (Ln rfl rfl rfl rfl (Ln rfl rfl rfl rfl (Lq (q_pickF rfl rfl rfl) (Lq (q_assign rfl) ?_)))))))))
   refine WL_nil (thenN (WC_fr [(2, _)] (.cons rfl (.nil _)) (WC_ret ?_)))
   refine ⟨_, [], [], fun Z w hs => .tmp rfl (.nil), ?_, fun Z w hs => hs.out (Sd (Sr)) (fun _ h => h)⟩
   try simp only [Bp, Bq] at *
   exact ⟨congrArg Value.bool (by first | exact (decide_eq_true (by omega)).symm | exact (decide_eq_false (by omega)).symm | exact decide_eq_decide.2 (by omega) | (rw [Bool.eq_iff_iff]; simp; omega) | (rw [Bool.eq_iff_iff]; simp; done)), rfl, rfl⟩
 ·refine Ln rfl rfl rfl g6 (Ln rfl rfl rfl g6 (Ln rfl rfl rfl g6 (Lq (q_pickF rfl g6 rfl) (Lq (q_move rfl) (Ln rfl rfl rfl rfl (Ln rfl rfl rfl rfl (Ln rfl rfl rfl rfl (Lq (q_pickF rfl rfl rfl) (Lq (q_move rfl) ?_)))))))))
  refine Ln rfl rfl rfl rfl (Ln rfl rfl rfl rfl (Ln rfl rfl rfl rfl (Lq (q_pickF rfl rfl rfl) (Lq (q_assign rfl) (WL_nil (thenN (WC_fr [(2, _)] (.cons rfl (.nil _)) (WC_ret ?_))))))))
  refine ⟨_, [], [], fun Z w hs => .tmp rfl (.nil), ?_, fun Z w hs => hs.out (Sd (Sr)) (fun _ h => h)⟩
  try simp only [Bp, Bq] at *
  exact ⟨congrArg Value.bool (by first | exact (decide_eq_true (by omega)).symm | exact (decide_eq_false (by omega)).symm | exact decide_eq_decide.2 (by omega) | (rw [Bool.eq_iff_iff]; simp; omega) | (rw [Bool.eq_iff_iff]; simp; done)), rfl, rfl⟩


set_option maxRecDepth 10000 in
theorem outside_s (n : Int) : Sp Tryz.prog 60 [.int .i64 n] [] [] (Is (.bool (decide (n < 0 ∨ n > 1048576)))) := by
 refine Sp.of (n := 9) ⟨_, Tryz.func60, rfl, rfl, rfl, rfl⟩ (Nat.le_of_ble_eq_true rfl) fun Ps As => WC_seq (WC_region (Lq (q_assign rfl) (WL_nil (thenN (WC_seq (WC_region (Lq (q_move rfl) (Lq (q_lss rfl rfl) (Lq (q_move rfl) (WL_guard (t := 5) rfl (fun g5 => ?_) (fun g5 => ?_)))))))))))
 ·refine Ln rfl rfl rfl g5 (Ln rfl rfl rfl g5 (Lq (q_pickT rfl g5 rfl) (Lq (q_assign rfl) (WL_nil (thenN (WC_ret ?_))))))
  refine ⟨_, [], [], fun Z w hs => .tmp rfl (.nil), ?_, fun Z w hs => hs.out (Sr) (fun _ h => h)⟩
  try simp only [Bp, Bq] at *
  exact ⟨congrArg Value.bool (by first | exact (decide_eq_true (by omega)).symm | exact (decide_eq_false (by omega)).symm | exact decide_eq_decide.2 (by omega) | (rw [Bool.eq_iff_iff]; simp; omega) | (rw [Bool.eq_iff_iff]; simp; done)), rfl, rfl⟩
 ·refine Lg rfl rfl rfl g5 (q_move rfl) (Lg rfl rfl rfl g5 (q_gtr rfl rfl) (Lq (q_pickF rfl g5 rfl) (Lq (q_assign rfl) (WL_nil (thenN (WC_ret ?_))))))
  refine ⟨_, [], [], fun Z w hs => .tmp rfl (.nil), ?_, fun Z w hs => hs.out (Sr) (fun _ h => h)⟩
  try simp only [Bp, Bq] at *
  exact ⟨congrArg Value.bool (by first | exact (decide_eq_true (by omega)).symm | exact (decide_eq_false (by omega)).symm | exact decide_eq_decide.2 (by omega) | (rw [Bool.eq_iff_iff]; simp; omega) | (rw [Bool.eq_iff_iff]; simp; done)), rfl, rfl⟩

def bndV (A : Option Addr) (c : Nat) (xs : List Rg) : Value := if xs.length > 32768 then .tuple #[.slice none 0 0, .int .i64 21] else .tuple #[.slice A xs.length c, .int .i64 0]

set_option maxRecDepth 10000 in
theorem bounded_s (A : Option Addr) (c : Nat) (xs : List Rg) : Sp Tryz.prog 62 [.slice A xs.length c] [] [] (Is (bndV A c xs)) := by
 refine Sp.of (n := 8) ⟨_, Tryz.func62, rfl, rfl, rfl, rfl⟩ (Nat.le_of_ble_eq_true rfl) fun Ps As => WC_seq (WC_region (Lq (q_assign rfl) (Lq (q_assign rfl) (WL_nil (thenN (WC_seq (WC_seq (WC_region (Lq (q_move rfl) (Lq (q_len Un45 rfl) (Lq (q_gtr rfl rfl) (WL_nil (thenN (WC_cond rfl (fun h6 => ?_) (fun h6 => ?_)))))))))))))))
 ·refine WC_seq (WC_region (Lq (q_assign rfl) (Lq (q_assign rfl) (WL_nil (thenN (WC_ret (thenRet ?_)))))))
  refine ⟨_, [], [], fun Z w hs => .tmp rfl (.tmp rfl (.nil)), ?_, fun Z w hs => hs.out (Sr) (fun _ h => h)⟩
  try simp only [Bp, Bq] at *
  unfold bndV
  first | (rw [if_pos (by omega)]; exact ⟨rfl, rfl, rfl⟩) | (rw [if_neg (by omega)]; exact ⟨rfl, rfl, rfl⟩)
 ·refine WC_skip (thenN (WC_seq (WC_region (Lq (q_move rfl) (Lq (q_assign rfl) (Lq (q_assign rfl) (WL_nil (thenN (WC_ret ?_)))))))))
  refine ⟨_, [], [], fun Z w hs => .tmp rfl (.tmp rfl (.nil)), ?_, fun Z w hs => hs.out (Sr) (fun _ h => h)⟩
  try simp only [Bp, Bq] at *
  unfold bndV
  first | (rw [if_pos (by omega)]; exact ⟨rfl, rfl, rfl⟩) | (rw [if_neg (by omega)]; exact ⟨rfl, rfl, rfl⟩)

theorem bd25Xw1  (w : World) : (Instr.build 37 #[]).run Tryz.prog w = .ok (.agg #[.int .i64 0, .int .i64 0]) w := by kernel_rfl

set_option maxRecDepth 10000 in
theorem clash_s (a b : GOp) (Aa Ab : Option Addr) (ca cb : Nat) : Sp Tryz.prog 100 [opV a Aa ca, opV b Ab cb] [] [] (Is (.bool (decide (a.c = b.c ∧ a.n = b.n ∧ ¬ (a.c = 0 ∧ a.n = 0))))) := by
 refine Sp.of (n := 19) ⟨_, Tryz.func100, rfl, rfl, rfl, rfl⟩ (Nat.le_of_ble_eq_true rfl) fun Ps As => WC_seq (WC_region (WL_main rfl (OW_box (cs := [_, _, _, _, _, _, _, _, _]) rfl rfl (by decide) fun b2 => WL_main rfl (OW_box (cs := [_, _, _, _, _, _, _, _, _]) rfl rfl (by decide) fun b3 => Lq (q_assign rfl) (WL_nil (thenN (WC_seq (WC_region (Lq (q_field (o' := 0) Un47 rfl ti44 rfl rfl) (Lq (q_field (o' := 0) Un44 rfl ti37 rfl rfl) (Lq (q_loadN (vs := [_, _]) Un37 rfl ti37 rfl (ownS (own0)) rfl rfl) (Lq (q_field (o' := 0) Un47 rfl ti44 rfl rfl) ?_))))))))))))
 refine Lq (q_field (o' := 0) Un44 rfl ti37 rfl rfl) (Lq (q_loadN (vs := [_, _]) Un37 rfl ti37 rfl own0 rfl rfl) (Lq (q_aggeql rfl rfl (eq37 _ _ _ _)) (Lq (q_move rfl) (WL_guard (t := 12) rfl (fun g12 => ?_) (fun g12 => ?_)))))
 ·refine Lg rfl rfl rfl g12 (q_field (o' := 0) Un47 rfl ti44 rfl rfl) (Lg rfl rfl rfl g12 (q_field (o' := 0) Un44 rfl ti37 rfl rfl) (Lg rfl rfl rfl g12 (q_loadN (vs := [_, _]) Un37 rfl ti37 rfl (ownS (own0)) rfl rfl) (Lg rfl rfl rfl g12 (q_build (.nil) (bd25Xw1)) (Lg rfl rfl rfl g12 (q_aggneq rfl rfl (eq37 _ _ _ _)) (Lq (q_pickT rfl g12 rfl) (Lq (q_assign rfl) (WL_nil (thenN (WC_fr [(4, _)] (.cons rfl (.nil _)) (WC_ret ?_))))))))))
  refine ⟨_, [], [], fun Z w hs => .tmp rfl (.nil), ?_, fun Z w hs => hs.out (Sd (Sd (Sr))) (fun _ h => h)⟩
  try simp only [Bp, Bq] at *
  exact ⟨congrArg Value.bool (by first | exact (decide_eq_true (by omega)).symm | exact (decide_eq_false (by omega)).symm | exact decide_eq_decide.2 (by omega) | (rw [Bool.eq_iff_iff]; simp; omega) | (rw [Bool.eq_iff_iff]; simp; done)), rfl, rfl⟩
 ·refine Ln rfl rfl rfl g12 (Ln rfl rfl rfl g12 (Ln rfl rfl rfl g12 (Ln rfl rfl rfl g12 (Ln rfl rfl rfl g12 (Lq (q_pickF rfl g12 rfl) (Lq (q_assign rfl) (WL_nil (thenN (WC_fr [(4, _)] (.cons rfl (.nil _)) (WC_ret ?_))))))))))
  refine ⟨_, [], [], fun Z w hs => .tmp rfl (.nil), ?_, fun Z w hs => hs.out (Sd (Sd (Sr))) (fun _ h => h)⟩
  try simp only [Bp, Bq] at *
  exact ⟨congrArg Value.bool (by first | exact (decide_eq_true (by omega)).symm | exact (decide_eq_false (by omega)).symm | exact decide_eq_decide.2 (by omega) | (rw [Bool.eq_iff_iff]; simp; omega) | (rw [Bool.eq_iff_iff]; simp; done)), rfl, rfl⟩

end Go.Proofs.YtcjbjkbghgjmdaaGreatDoor
/- Walks: Clone. -/
namespace Go.Proofs.YtcjbjkbghgjmdaaGreatDoor
open Go Go.GW
set_option maxRecDepth 10000 in
theorem clone_s (o : GOp) (A : Option Addr) (c : Nat) (hl : o.rs.length ≤ 4398046511104) : Sp Tryz.prog 27 [opV o A c] [] [RdF rgD A c o.rs] (fun v Lo fs => ∃ A' c', v = opV o A' c' ∧ Lo = [] ∧ fs = [RdF rgD A' c' o.rs]) := by
 refine Sp.of (n := 8) ⟨_, Tryz.func27, rfl, rfl, rfl, rfl⟩ (Nat.le_of_ble_eq_true rfl) fun Ps As => WC_seq (WC_region (WL_main rfl (OW_box (cs := [_, _, _, _, _, _, _, _, _]) rfl rfl (by decide) fun b1 => WL_main rfl (OW_alloc (cs := [_, _, _, _, _, _, _, _, _]) ti47 rfl (by decide) fun b2 => WL_nil (thenN (WC_seq (WC_region (Lq (q_field (o' := 5) Un47 rfl ti45 rfl rfl) (Lq (q_load1 Un45 rfl rfl (ownS (own0)) rfl) (WL_nilPart (WL_main rfl (OW_appendS (e := rgD) (ys := o.rs) Un45 ti119 rfl (by decide) rfl rfl (Row.nil _ _) M0 (by simp only [Nat.zero_add]; omega) (by unfold maxLen; omega) (by decide) (List.Perm.refl _) fun v5 p5 cs5 hr5 => WL_freeze (e := rgD) (css := cs5) hr5 (.z) (by simp) M0 fun A5 c5 e5 => ?_))))))))))))
 subst e5
 refine Lq (q_field (o' := 5) Un47 rfl ti45 rfl rfl) (WL_main rfl (OW_store1 ti45 rfl rfl rfl (.s (.s (.s (.s (.s (.z)))))) (.s (.z)) (WL_nil (thenN (WC_seq (WC_region (Lq (q_loadN (vs := [_, _, _, _, _, _, _, _, _]) Un47 rfl ti47 rfl (ownS (own0)) rfl rfl) (WL_main rfl (OW_storeN (cs' := [_, _, _, _, _, _, _, _, _]) (vs := [_, _, _, _, _, _, _, _, _]) ti47 rfl rfl rfl rfl rfl (Nat.le_of_ble_eq_true rfl) (.z) (WL_nil (thenN (WC_ret ?_))))))))))))
 refine ⟨_, [], [RdF rgD A5 c5 o.rs], fun Z w hs => RV_ownN hs Un47 rfl ti47 rfl own0 rfl (.nil), ?_, fun Z w hs => hs.out (Sd (Sd (Sr))) (memc M0 T2)⟩
 exact ⟨A5, c5, rfl, rfl, rfl⟩

end Go.Proofs.YtcjbjkbghgjmdaaGreatDoor
/- Trees of the rope: plain; how they lie in memory (nodes are never written once made). -/
namespace Go.Proofs.YtcjbjkbghgjmdaaGreatDoor
open Go Go.GW
@[ext] structure Sm where
 tot : Int
 lv : Int
 ht : Int
 mn : Int
 am : Int
 mx : Int
deriving DecidableEq
def zeroSm : Sm := ⟨0, 0, 0, 0, 0, 0⟩
inductive Tr where
 | nil : Tr
 | nd (s : Sm) (l : Tr) (rs : List Int) (hid : Int) (r : Tr) (plus : Int) : Tr
def smC (s : Sm) : List Value := [.int .i64 s.tot, .int .i64 s.lv, .int .i64 s.ht, .int .i64 s.mn, .int .i64 s.am, .int .i64 s.mx]
def smV (s : Sm) : Value := .agg (smC s).toArray
abbrev runeD : De Int := De.int .i32
def pcC (rs : List Int) (hid : Int) (A : Option Addr) (c : Nat) : List Value := [.slice A rs.length c, .int .i64 hid]
def pcV (rs : List Int) (hid : Int) (A : Option Addr) (c : Nat) : Value := .agg (pcC rs hid A c).toArray
def ndC (s : Sm) (Al Ar Ac : Option Addr) (rs : List Int) (c : Nat) (hid plus : Int) : List Value :=
 [.int .i64 s.tot, .int .i64 s.lv, .int .i64 s.ht, .int .i64 s.mn, .int .i64 s.am, .int .i64 s.mx, .pointer Al, .pointer Ar, .slice Ac rs.length c, .int .i64 hid, .int .i64 plus]
def trRep (Z : Nat → Prop) (w : World) : Tr → Option Addr → Prop
 | .nil, A => A = none
 | .nd s l rs hid r plus, A => ∃ (b : Nat) (Al Ar Ac : Option Addr) (c : Nat), A = some ⟨b, 0, none⟩ ∧ Z b ∧ CellsAt w b 0 (ndC s Al Ar Ac rs c hid plus) ∧ trRep Z w l Al ∧ trRep Z w r Ar ∧ RdS runeD Z w Ac c rs
theorem trRep_stable {Z Z' : Nat → Prop} {w w' : World} (hz : ∀ b, Z b → Z' b) (hh : ∀ b, Z b → w'.heap[b]? = w.heap[b]?) (h1 : w'.os = w.os) (h2 : w'.tape = w.tape) (h3 : w'.output = w.output) : ∀ (t : Tr) (A : Option Addr), trRep Z w t A → trRep Z' w' t A
 | .nil, A, h => h
 | .nd s l rs hid r plus, A, ⟨b, Al, Ar, Ac, c, e, g1, g2, g3, g4, g5⟩ =>
  ⟨b, Al, Ar, Ac, c, e, hz _ g1, g2.keep (hh _ g1), trRep_stable hz hh h1 h2 h3 l Al g3, trRep_stable hz hh h1 h2 h3 r Ar g4, (RdF runeD Ac c rs).stable hz hh h1 h2 h3 g5⟩
def TrF (A : Option Addr) (t : Tr) : Fact where
 holds Z w := trRep Z w t A
 stable hz hh h1 h2 h3 h := trRep_stable hz hh h1 h2 h3 t A h
section
variable {P : Program} {n : Nat} {R : Post} {l : Fr} {Ps Ps' : List Part} {As : List Fact} {ops : Array Oper} {rest : List Oper}
/-- A node is looked at. -/
theorem WC_node {c : Code} {A : Option Addr} {s : Sm} {lt rt : Tr} {rs : List Int} {hid plus : Int} (hA : TrF A (.nd s lt rs hid rt plus) ∈ As)
  (h : ∀ (b : Nat) (Al Ar Ac : Option Addr) (cc : Nat), A = some ⟨b, 0, none⟩ → WC P n c R l Ps (FzA b 0 (ndC s Al Ar Ac rs cc hid plus) :: TrF Al lt :: TrF Ar rt :: RdF runeD Ac cc rs :: As)) : WC P n c R l Ps As :=
 fun Z w a hs ha => by
  obtain ⟨b, Al, Ar, Ac, cc, e, g1, g2, g3, g4, g5⟩ : trRep Z w (.nd s lt rs hid rt plus) A := hs.facts _ hA
  refine h b Al Ar Ac cc e Z w a ?_ ha
  exact (((hs.addFact (A := RdF runeD Ac cc rs) g5).addFact (A := TrF Ar rt) g4).addFact (A := TrF Al lt) g3).addFact (A := FzA b 0 (ndC s Al Ar Ac rs cc hid plus)) ⟨g1, g2⟩
theorem WC_nilT {c : Code} {A : Option Addr} (hA : TrF A .nil ∈ As) (h : A = none → WC P n c R l Ps As) : WC P n c R l Ps As :=
 fun Z w a hs ha => h (hs.facts _ hA) Z w a hs ha
/-- A new node is given up. -/
theorem stNode {Z : Nat → Prop} {w : World} {b : Nat} {s : Sm} {lt rt : Tr} {Al Ar Ac : Option Addr} {rs : List Int} {cc : Nat} {hid plus : Int} {T : TypeId} (hs : St Z w Ps As) (hp : DelAt Ps [(b, cellsO (ndC s Al Ar Ac rs cc hid plus) T)] Ps') (h1 : TrF Al lt ∈ As) (h2 : TrF Ar rt ∈ As) (h3 : RdF runeD Ac cc rs ∈ As) :
  ∃ Z', St Z' w Ps' (TrF (some ⟨b, 0, none⟩) (.nd s lt rs hid rt plus) :: As) := by
 have h := hs.permParts hp.perm
 have hb : w.heap[b]? = some (cellsO (ndC s Al Ar Ac rs cc hid plus) T) := (h.own (b, _) (by simp)).1
 have hf := h.freeze
 refine ⟨_, hf.addFact (A := TrF (some ⟨b, 0, none⟩) (.nd s lt rs hid rt plus)) ⟨b, Al, Ar, Ac, cc, rfl, .inr ⟨_, List.mem_singleton.2 rfl⟩, ⟨_, _, _, hb, fun j v hv => by simpa using hv⟩, hf.facts _ h1, hf.facts _ h2, hf.facts _ h3⟩⟩
theorem WL_newNode {b : Nat} {s : Sm} {lt rt : Tr} {Al Ar Ac : Option Addr} {rs : List Int} {cc : Nat} {hid plus : Int} {T : TypeId} (hp : DelAt Ps [(b, cellsO (ndC s Al Ar Ac rs cc hid plus) T)] Ps') (h1 : TrF Al lt ∈ As) (h2 : TrF Ar rt ∈ As) (h3 : RdF runeD Ac cc rs ∈ As)
  (k : WL P n ops R rest l Ps' (TrF (some ⟨b, 0, none⟩) (.nd s lt rs hid rt plus) :: As)) : WL P n ops R rest l Ps As := fun Z w a hs ha => by
 obtain ⟨Z', h⟩ := stNode hs hp h1 h2 h3
 exact k Z' w a h ha
end
/-! ### Plain -/
def allF : Tr → Sm
 | .nil => zeroSm
 | .nd s _ _ _ _ _ => s
def withF (s t : Sm) : Sm :=
 if t.tot = 0 then s else if s.tot = 0 then t
 else ⟨s.tot + t.tot, s.lv + t.lv, 0, min s.mn t.mn, (if s.mn = min s.mn t.mn then s.am else 0) + (if t.mn = min s.mn t.mn then t.am else 0), max s.mx t.mx⟩
def liftedF (s : Sm) (by' : Int) : Sm := ⟨s.tot, s.lv, s.ht, s.mn + by', s.am, s.mx + by'⟩
def knotF (l : Tr) (rs : List Int) (hid : Int) (r : Tr) : Tr :=
 .nd ({ withF (withF (allF l) ⟨rs.length, 1, 0, hid, rs.length, hid⟩) (allF r) with ht := 1 + max (allF l).ht (allF r).ht }) l rs hid r 0
def liftF (t : Tr) (by' : Int) : Tr := match t with
 | .nil => .nil
 | .nd s l rs hid r plus => if liftedF s by' = s then t else .nd (liftedF s by') l rs hid r (plus + by')
end Go.Proofs.YtcjbjkbghgjmdaaGreatDoor
/- Walks: rope, sums. -/
namespace Go.Proofs.YtcjbjkbghgjmdaaGreatDoor
open Go Go.GW
def SmIn (s : Sm) : Prop := (0 ≤ s.tot ∧ s.tot ≤ 4611686018427387903) ∧ (0 ≤ s.lv ∧ s.lv ≤ 4611686018427387903) ∧ (0 ≤ s.am ∧ s.am ≤ 4611686018427387903)

set_option maxRecDepth 10000 in
theorem counter_s (x : Int) : Sp Tryz.prog 47 [.int .i64 x] [] [] (Is (.int .i64 (if x < 0 then 30 else if x > 1048576 then 31 else 0))) := by
 refine Sp.of (n := 7) ⟨_, Tryz.func47, rfl, rfl, rfl, rfl⟩ (Nat.le_of_ble_eq_true rfl) fun Ps As => WC_seq (WC_region (Lq (q_assign rfl) (WL_nil (thenN (WC_seq (WC_seq (WC_region (Lq (q_move rfl) (Lq (q_lss rfl rfl) (WL_nil (thenN (WC_cond rfl (fun h4 => ?_) (fun h4 => ?_)))))))))))))
 ·refine WC_seq (WC_region (Lq (q_assign rfl) (WL_nil (thenN (WC_ret (thenRet ?_))))))
  refine ⟨_, [], [], fun Z w hs => .tmp rfl (.nil), ?_, fun Z w hs => hs.out (Sr) (fun _ h => h)⟩
  try simp only [Bp, Bq] at *
  exact ⟨congrArg (Value.int .i64) (by repeat' split; all_goals first | rfl | omega), rfl, rfl⟩
 ·refine WC_skip (thenN (WC_seq (WC_seq (WC_region (Lq (q_move rfl) (Lq (q_gtr rfl rfl) (WL_nil (thenN (WC_cond rfl (fun h6 => ?_) (fun h6 => ?_))))))))))
  ·refine WC_seq (WC_region (Lq (q_assign rfl) (WL_nil (thenN (WC_ret (thenRet ?_))))))
   refine ⟨_, [], [], fun Z w hs => .tmp rfl (.nil), ?_, fun Z w hs => hs.out (Sr) (fun _ h => h)⟩
   try simp only [Bp, Bq] at *
   exact ⟨congrArg (Value.int .i64) (by repeat' split; all_goals first | rfl | omega), rfl, rfl⟩
  ·refine WC_skip (thenN (WC_seq (WC_region (Lq (q_assign rfl) (WL_nil (thenN (WC_ret ?_)))))))
   refine ⟨_, [], [], fun Z w hs => .tmp rfl (.nil), ?_, fun Z w hs => hs.out (Sr) (fun _ h => h)⟩
   try simp only [Bp, Bq] at *
   exact ⟨congrArg (Value.int .i64) (by repeat' split; all_goals first | rfl | omega), rfl, rfl⟩

theorem bd112Xw21  (w : World) : (Instr.build 69 #[]).run Tryz.prog w = .ok (.agg #[.int .i64 0, .int .i64 0, .int .i64 0, .int .i64 0, .int .i64 0, .int .i64 0]) w := by kernel_rfl

set_option maxRecDepth 10000 in
theorem all_1 : Sp Tryz.prog 18 [.pointer none] [] [TrF none .nil] (Is (smV (allF .nil))) := by
 refine Sp.of (n := 10) ⟨_, Tryz.func18, rfl, rfl, rfl, rfl⟩ (Nat.le_of_ble_eq_true rfl) fun Ps As => WC_seq (WC_region (WL_main rfl (OW_alloc (cs := [_, _, _, _, _, _]) ti69 rfl (by decide) fun b2 => WL_nil (thenN (WC_seq (WC_seq (WC_region (Lq (q_move rfl) (Lq (q_peql Un70 rfl rfl (by simp)) (WL_nil (thenN (WC_true rfl rfl (WC_seq (WC_region (Lq (q_build (.nil) (bd112Xw21)) (WL_main rfl (OW_storeN (cs' := [_, _, _, _, _, _]) (vs := [_, _, _, _, _, _]) ti69 rfl rfl rfl rfl rfl (Nat.le_of_ble_eq_true rfl) (.z) (WL_nil (thenN (WC_ret (thenRet ?_)))))))))))))))))))))
 refine ⟨_, [], [], fun Z w hs => RV_ownN hs Un69 rfl ti69 rfl own0 rfl (.nil), ?_, fun Z w hs => hs.out (Sd (Sr)) (fun _ h => h)⟩
 exact ⟨rfl, rfl, rfl⟩


set_option maxRecDepth 10000 in
theorem all_2 (A : Option Addr) (s : Sm) (l r : Tr) (rs : List Int) (hid plus : Int) : Sp Tryz.prog 18 [.pointer A] [] [TrF A (.nd s l rs hid r plus)] (Is (smV s)) := by
 refine Sp.of (n := 10) ⟨_, Tryz.func18, rfl, rfl, rfl, rfl⟩ (Nat.le_of_ble_eq_true rfl) fun Ps As => WC_node M0 fun b Al Ar Ac cc e => ?_
 cases e
 refine WC_seq (WC_region (WL_main rfl (OW_alloc (cs := [_, _, _, _, _, _]) ti69 rfl (by decide) fun b2 => WL_nil (thenN (WC_seq (WC_seq (WC_region (Lq (q_move rfl) (Lq (q_peql Un70 rfl rfl (by simp)) (WL_nil (thenN (WC_false rfl rfl (WC_skip (thenN (WC_seq (WC_region (Lq (q_move rfl) (Lq (q_nil rfl) (Lq (q_field (o' := _ + 0) Un104 rfl ti69 rfl rfl) (Lq (q_loadFN (k := 0) (vs := [_, _, _, _, _, _]) Un69 rfl ti69 rfl M0 rfl rfl rfl) ?_))))))))))))))))))))
 refine WL_main rfl (OW_storeN (cs' := [_, _, _, _, _, _]) (vs := [_, _, _, _, _, _]) ti69 rfl rfl rfl rfl rfl (Nat.le_of_ble_eq_true rfl) (.z) (WL_nil (thenN (WC_ret ?_))))
 refine ⟨_, [], [], fun Z w hs => RV_ownN hs Un69 rfl ti69 rfl own0 rfl (.nil), ?_, fun Z w hs => hs.out (Sd (Sr)) T4⟩
 exact ⟨rfl, rfl, rfl⟩

theorem all_s (A : Option Addr) (t : Tr) : Sp Tryz.prog 18 [.pointer A] [] [TrF A t] (Is (smV (allF t))) := by
 cases t with
 | nil =>
  refine ⟨all_1.enters, fun Z w Ps As hs => ?_⟩
  obtain rfl : A = none := hs.facts _ (by simp : TrF A .nil ∈ [TrF A .nil] ++ As)
  exact all_1.calls Z w Ps As hs
 | nd s l rs hid r plus => exact all_2 A s l r rs hid plus
theorem bd112_0_1_3_5Xw21 (x0_ : Int) (x1_ : Int) (x3_ : Int) (x5_ : Int) (w : World) : (Instr.build 69 #[(0, .int .i64 x0_), (1, .int .i64 x1_), (3, .int .i64 x3_), (5, .int .i64 x5_)]).run Tryz.prog w = .ok (.agg #[.int .i64 x0_, .int .i64 x1_, .int .i64 0, .int .i64 x3_, .int .i64 0, .int .i64 x5_]) w := by kernel_rfl

set_option maxRecDepth 10000 in
theorem with_s (s t : Sm) (hs : SmIn s) (ht : SmIn t) : Sp Tryz.prog 96 [smV s, smV t] [] [] (Is (smV (withF s t))) := by
 obtain ⟨⟨a1, a2⟩, ⟨a3, a4⟩, a5, a6⟩ := hs
 obtain ⟨⟨b1, b2⟩, ⟨b3, b4⟩, b5, b6⟩ := ht
 refine Sp.of (n := 58) ⟨_, Tryz.func96, rfl, rfl, rfl, rfl⟩ (Nat.le_of_ble_eq_true rfl) fun Ps As => WC_seq (WC_region (WL_main rfl (OW_box (cs := [_, _, _, _, _, _]) rfl rfl (by decide) fun b2 => WL_main rfl (OW_box (cs := [_, _, _, _, _, _]) rfl rfl (by decide) fun b3 => WL_main rfl (OW_alloc (cs := [_, _, _, _, _, _]) ti69 rfl (by decide) fun b4 => WL_nil (thenN (WC_seq (WC_seq (WC_region (Lq (q_field (o' := 0) Un69 rfl ti3 rfl rfl) (Lq (q_load1 Un3 rfl rfl (ownS (own0)) rfl) (Lq (q_eql rfl rfl) (WL_nil (thenN ?_))))))))))))))
 refine WC_cond rfl (fun h8 => ?_) (fun h8 => ?_)
 ·refine WC_seq (WC_region (Lq (q_loadN (vs := [_, _, _, _, _, _]) Un69 rfl ti69 rfl (ownS (ownS (own0))) rfl rfl) (WL_main rfl (OW_storeN (cs' := [_, _, _, _, _, _]) (vs := [_, _, _, _, _, _]) ti69 rfl rfl rfl rfl rfl (Nat.le_of_ble_eq_true rfl) (.z) (WL_nil (thenN (WC_ret (thenRet ?_))))))))
  refine ⟨_, [], [], fun Z w hs => RV_ownN hs Un69 rfl ti69 rfl own0 rfl (.nil), ?_, fun Z w hs => hs.out (Sd (Sd (Sd (Sr)))) (fun _ h => h)⟩
  try simp only [Bp, Bq] at *
  exact ⟨by unfold withF; rw [if_pos h8]; rfl, rfl, rfl⟩
 ·refine WC_skip (thenN (WC_seq (WC_seq (WC_region (Lq (q_field (o' := 0) Un69 rfl ti3 rfl rfl) (Lq (q_load1 Un3 rfl rfl (ownS (ownS (own0))) rfl) (Lq (q_eql rfl rfl) (WL_nil (thenN (WC_cond rfl (fun h12 => ?_) (fun h12 => ?_)))))))))))
  ·refine WC_seq (WC_region (Lq (q_loadN (vs := [_, _, _, _, _, _]) Un69 rfl ti69 rfl (ownS (own0)) rfl rfl) (WL_main rfl (OW_storeN (cs' := [_, _, _, _, _, _]) (vs := [_, _, _, _, _, _]) ti69 rfl rfl rfl rfl rfl (Nat.le_of_ble_eq_true rfl) (.z) (WL_nil (thenN (WC_ret (thenRet ?_))))))))
   refine ⟨_, [], [], fun Z w hs => RV_ownN hs Un69 rfl ti69 rfl own0 rfl (.nil), ?_, fun Z w hs => hs.out (Sd (Sd (Sd (Sr)))) (fun _ h => h)⟩
   try simp only [Bp, Bq] at *
   exact ⟨by unfold withF; rw [if_neg h8, if_pos h12]; rfl, rfl, rfl⟩
  ·refine WC_skip (thenN (WC_seq (WC_region (Lq (q_field (o' := 0) Un69 rfl ti3 rfl rfl) (Lq (q_load1 Un3 rfl rfl (ownS (ownS (own0))) rfl) (Lq (q_field (o' := 0) Un69 rfl ti3 rfl rfl) (Lq (q_load1 Un3 rfl rfl (ownS (own0)) rfl) (Lq (q_add rfl rfl (wr64 (by omega))) (Lq (q_field (o' := 1) Un69 rfl ti3 rfl rfl) (Lq (q_load1 Un3 rfl rfl (ownS (ownS (own0))) rfl) (Lq (q_field (o' := 1) Un69 rfl ti3 rfl rfl) (Lq (q_load1 Un3 rfl rfl (ownS (own0)) rfl) ?_))))))))))))
   refine Lq (q_add rfl rfl (wr64 (by omega))) (Lq (q_field (o' := 3) Un69 rfl ti3 rfl rfl) (Lq (q_load1 Un3 rfl rfl (ownS (ownS (own0))) rfl) (Lq (q_field (o' := 3) Un69 rfl ti3 rfl rfl) (Lq (q_load1 Un3 rfl rfl (ownS (own0)) rfl) (Lq (q_min rfl rfl) (Lq (q_field (o' := 5) Un69 rfl ti3 rfl rfl) (Lq (q_load1 Un3 rfl rfl (ownS (ownS (own0))) rfl) (Lq (q_field (o' := 5) Un69 rfl ti3 rfl rfl) (Lq (q_load1 Un3 rfl rfl (ownS (own0)) rfl) ?_)))))))))
   refine Lq (q_max rfl rfl) (Lq (q_build (.cons rfl (.cons rfl (.cons rfl (.cons rfl (.nil))))) (bd112_0_1_3_5Xw21 _ _ _ _)) (WL_main rfl (OW_alloc (cs := [_, _, _, _, _, _]) ti69 rfl (by decide) fun b5 => WL_main rfl (OW_storeN (cs' := [_, _, _, _, _, _]) (vs := [_, _, _, _, _, _]) ti69 rfl rfl rfl rfl rfl (Nat.le_of_ble_eq_true rfl) (.z) (WL_nil (thenN (WC_fr [(5, _), (4, _), (3, _), (2, _)] (.cons rfl (.cons rfl (.cons rfl (.cons rfl (.nil _))))) (WC_seq (WC_seq (WC_region (Lq (q_field (o' := 3) Un69 rfl ti3 rfl rfl) (Lq (q_load1 Un3 rfl rfl (ownS (ownS (ownS (own0)))) rfl) (Lq (q_field (o' := 3) Un69 rfl ti3 rfl rfl) ?_)))))))))))))
   refine Lq (q_load1 Un3 rfl rfl own0 rfl) (Lq (q_eql rfl rfl) (WL_nil (thenN (WC_cond rfl (fun h39 => ?_) (fun h39 => ?_)))))
   ·refine WC_region (Lq (q_field (o' := 4) Un69 rfl ti3 rfl rfl) (Lq (q_load1 Un3 rfl rfl own0 rfl) (Lq (q_field (o' := 4) Un69 rfl ti3 rfl rfl) (Lq (q_load1 Un3 rfl rfl (ownS (ownS (ownS (own0)))) rfl) (Lq (q_add rfl rfl (wr64 (by omega))) (Lq (q_field (o' := 4) Un69 rfl ti3 rfl rfl) (WL_main rfl (OW_store1 ti3 rfl rfl rfl (.s (.s (.s (.s (.z))))) (.z) (WL_nil (thenN (WC_fr [(5, _), (4, _), (3, _)] (.cons rfl (.cons rfl (.cons rfl (.nil _)))) ?_)))))))))))
    refine WC_seq (WC_seq (WC_region (Lq (q_field (o' := 3) Un69 rfl ti3 rfl rfl) (Lq (q_load1 Un3 rfl rfl (ownS (ownS (own0))) rfl) (Lq (q_field (o' := 3) Un69 rfl ti3 rfl rfl) (Lq (q_load1 Un3 rfl rfl own0 rfl) (Lq (q_eql rfl rfl) (WL_nil (thenN (WC_cond rfl (fun h50 => ?_) (fun h50 => ?_)))))))))))
    ·refine WC_region (Lq (q_field (o' := 4) Un69 rfl ti3 rfl rfl) (Lq (q_load1 Un3 rfl rfl own0 rfl) (Lq (q_field (o' := 4) Un69 rfl ti3 rfl rfl) (Lq (q_load1 Un3 rfl rfl (ownS (ownS (own0))) rfl) (Lq (q_add rfl rfl (wr64 (by omega))) (Lq (q_field (o' := 4) Un69 rfl ti3 rfl rfl) (WL_main rfl (OW_store1 ti3 rfl rfl rfl (.s (.s (.s (.s (.z))))) (.z) (WL_nil (thenN (WC_fr [(5, _), (4, _)] (.cons rfl (.cons rfl (.nil _))) ?_)))))))))))
     refine WC_seq (WC_region (Lq (q_loadN (vs := [_, _, _, _, _, _]) Un69 rfl ti69 rfl own0 rfl rfl) (WL_main rfl (OW_storeN (cs' := [_, _, _, _, _, _]) (vs := [_, _, _, _, _, _]) ti69 rfl rfl rfl rfl rfl (Nat.le_of_ble_eq_true rfl) (.s (.z)) (WL_nil (thenN (WC_ret ?_)))))))
     refine ⟨_, [], [], fun Z w hs => RV_ownN hs Un69 rfl ti69 rfl (ownS (own0)) rfl (.nil), ?_, fun Z w hs => hs.out (Sd (Sd (Sd (Sd (Sr))))) (fun _ h => h)⟩
     try simp only [Bp, Bq] at *
     refine ⟨?_, rfl, rfl⟩
     unfold withF
     rw [if_neg h8, if_neg h12]
     first
      | rw [if_pos h39, if_pos h50]
      | rw [if_pos h39, if_neg h50]
      | rw [if_neg h39, if_pos h50]
      | rw [if_neg h39, if_neg h50]
     simp only [tup, smV, smC, Int.zero_add, Int.add_zero]
    ·refine WC_skip (thenN (WC_seq (WC_region (Lq (q_loadN (vs := [_, _, _, _, _, _]) Un69 rfl ti69 rfl own0 rfl rfl) (WL_main rfl (OW_storeN (cs' := [_, _, _, _, _, _]) (vs := [_, _, _, _, _, _]) ti69 rfl rfl rfl rfl rfl (Nat.le_of_ble_eq_true rfl) (.s (.z)) (WL_nil (thenN (WC_ret ?_)))))))))
     refine ⟨_, [], [], fun Z w hs => RV_ownN hs Un69 rfl ti69 rfl (ownS (own0)) rfl (.nil), ?_, fun Z w hs => hs.out (Sd (Sd (Sd (Sd (Sr))))) (fun _ h => h)⟩
     try simp only [Bp, Bq] at *
     refine ⟨?_, rfl, rfl⟩
     unfold withF
     rw [if_neg h8, if_neg h12]
     first
      | rw [if_pos h39, if_pos h50]
      | rw [if_pos h39, if_neg h50]
      | rw [if_neg h39, if_pos h50]
      | rw [if_neg h39, if_neg h50]
     simp only [tup, smV, smC, Int.zero_add, Int.add_zero]
   ·refine WC_skip (thenN (WC_seq (WC_seq (WC_region (Lq (q_field (o' := 3) Un69 rfl ti3 rfl rfl) (Lq (q_load1 Un3 rfl rfl (ownS (ownS (own0))) rfl) (Lq (q_field (o' := 3) Un69 rfl ti3 rfl rfl) (Lq (q_load1 Un3 rfl rfl own0 rfl) (Lq (q_eql rfl rfl) (WL_nil (thenN (WC_fr [(50, _), (5, _), (4, _), (3, _)] (.cons rfl (.cons rfl (.cons rfl (.cons rfl (.nil _))))) (WC_cond rfl (fun h50 => ?_) (fun h50 => ?_))))))))))))))
    ·refine WC_region (Lq (q_field (o' := 4) Un69 rfl ti3 rfl rfl) (Lq (q_load1 Un3 rfl rfl own0 rfl) (Lq (q_field (o' := 4) Un69 rfl ti3 rfl rfl) (Lq (q_load1 Un3 rfl rfl (ownS (ownS (own0))) rfl) (Lq (q_add rfl rfl (wr64 (by omega))) (Lq (q_field (o' := 4) Un69 rfl ti3 rfl rfl) (WL_main rfl (OW_store1 ti3 rfl rfl rfl (.s (.s (.s (.s (.z))))) (.z) (WL_nil (thenN (WC_seq (WC_region (Lq (q_loadN (vs := [_, _, _, _, _, _]) Un69 rfl ti69 rfl own0 rfl rfl) ?_)))))))))))))
     refine WL_main rfl (OW_storeN (cs' := [_, _, _, _, _, _]) (vs := [_, _, _, _, _, _]) ti69 rfl rfl rfl rfl rfl (Nat.le_of_ble_eq_true rfl) (.s (.z)) (WL_nil (thenN (WC_ret ?_))))
     refine ⟨_, [], [], fun Z w hs => RV_ownN hs Un69 rfl ti69 rfl (ownS (own0)) rfl (.nil), ?_, fun Z w hs => hs.out (Sd (Sd (Sd (Sd (Sr))))) (fun _ h => h)⟩
     try simp only [Bp, Bq] at *
     refine ⟨?_, rfl, rfl⟩
     unfold withF
     rw [if_neg h8, if_neg h12]
     first
      | rw [if_pos h39, if_pos h50]
      | rw [if_pos h39, if_neg h50]
      | rw [if_neg h39, if_pos h50]
      | rw [if_neg h39, if_neg h50]
     simp only [tup, smV, smC, Int.zero_add, Int.add_zero]
    ·refine WC_skip (thenN (WC_seq (WC_region (Lq (q_loadN (vs := [_, _, _, _, _, _]) Un69 rfl ti69 rfl own0 rfl rfl) (WL_main rfl (OW_storeN (cs' := [_, _, _, _, _, _]) (vs := [_, _, _, _, _, _]) ti69 rfl rfl rfl rfl rfl (Nat.le_of_ble_eq_true rfl) (.s (.z)) (WL_nil (thenN (WC_ret ?_)))))))))
     refine ⟨_, [], [], fun Z w hs => RV_ownN hs Un69 rfl ti69 rfl (ownS (own0)) rfl (.nil), ?_, fun Z w hs => hs.out (Sd (Sd (Sd (Sd (Sr))))) (fun _ h => h)⟩
     try simp only [Bp, Bq] at *
     refine ⟨?_, rfl, rfl⟩
     unfold withF
     rw [if_neg h8, if_neg h12]
     first
      | rw [if_pos h39, if_pos h50]
      | rw [if_pos h39, if_neg h50]
      | rw [if_neg h39, if_pos h50]
      | rw [if_neg h39, if_neg h50]
     simp only [tup, smV, smC, Int.zero_add, Int.add_zero]


set_option maxRecDepth 10000 in
theorem lifted_s (s : Sm) (x : Int) (h : (-4611686018427387904 ≤ s.mn ∧ s.mn ≤ 4611686018427387903) ∧ (-4611686018427387904 ≤ s.mx ∧ s.mx ≤ 4611686018427387903) ∧ (-4611686018427387904 ≤ x ∧ x ≤ 4611686018427387903)) : Sp Tryz.prog 81 [smV s, .int .i64 x] [] [] (Is (smV (liftedF s x))) := by
 refine Sp.of (n := 16) ⟨_, Tryz.func81, rfl, rfl, rfl, rfl⟩ (Nat.le_of_ble_eq_true rfl) fun Ps As => WC_seq (WC_region (WL_main rfl (OW_box (cs := [_, _, _, _, _, _]) rfl rfl (by decide) fun b2 => WL_main rfl (OW_alloc (cs := [_, _, _, _, _, _]) ti69 rfl (by decide) fun b4 => WL_nil (thenN (WC_seq (WC_region (Lq (q_field (o' := 3) Un69 rfl ti3 rfl rfl) (Lq (q_load1 Un3 rfl rfl (ownS (own0)) rfl) (Lq (q_move rfl) (Lq (q_add rfl rfl (wr64 (by omega))) (Lq (q_field (o' := 3) Un69 rfl ti3 rfl rfl) ?_))))))))))))
 refine WL_main rfl (OW_store1 ti3 rfl rfl rfl (.s (.s (.s (.z)))) (.s (.z)) (WL_nil (thenN (WC_seq (WC_region (Lq (q_field (o' := 5) Un69 rfl ti3 rfl rfl) (Lq (q_load1 Un3 rfl rfl (ownS (own0)) rfl) (Lq (q_move rfl) (Lq (q_add rfl rfl (wr64 (by omega))) (Lq (q_field (o' := 5) Un69 rfl ti3 rfl rfl) (WL_main rfl (OW_store1 ti3 rfl rfl rfl (.s (.s (.s (.s (.s (.z)))))) (.s (.z)) (WL_nil (thenN (WC_fr [(4, _), (2, _)] (.cons rfl (.cons rfl (.nil _))) ?_)))))))))))))))
 refine WC_seq (WC_region (Lq (q_loadN (vs := [_, _, _, _, _, _]) Un69 rfl ti69 rfl (ownS (own0)) rfl rfl) (WL_main rfl (OW_storeN (cs' := [_, _, _, _, _, _]) (vs := [_, _, _, _, _, _]) ti69 rfl rfl rfl rfl rfl (Nat.le_of_ble_eq_true rfl) (.z) (WL_nil (thenN (WC_ret ?_)))))))
 refine ⟨_, [], [], fun Z w hs => RV_ownN hs Un69 rfl ti69 rfl own0 rfl (.nil), ?_, fun Z w hs => hs.out (Sd (Sd (Sr))) (fun _ h => h)⟩
 exact ⟨rfl, rfl, rfl⟩

end Go.Proofs.YtcjbjkbghgjmdaaGreatDoor
/- Walks: rope, knot. -/
namespace Go.Proofs.YtcjbjkbghgjmdaaGreatDoor
open Go Go.GW
structure Sm40 (s : Sm) : Prop where
 tot : 0 ≤ s.tot ∧ s.tot ≤ 1099511627776
 lv : 0 ≤ s.lv ∧ s.lv ≤ 1099511627776
 ht : 0 ≤ s.ht ∧ s.ht ≤ 1099511627776
 am : 0 ≤ s.am ∧ s.am ≤ 1099511627776
theorem Sm40.sm {s : Sm} (h : Sm40 s) : SmIn s := ⟨⟨h.tot.1, by have := h.tot; omega⟩, ⟨h.lv.1, by have := h.lv; omega⟩, ⟨h.am.1, by have := h.am; omega⟩⟩
theorem Sm40.zero : Sm40 zeroSm := ⟨by decide, by decide, by decide, by decide⟩
theorem smIn_with {a b : Sm} (ha : Sm40 a) (hb : Sm40 b) : SmIn (withF a b) := by
 have h1 := ha.tot; have h2 := ha.lv; have h3 := ha.am
 have g1 := hb.tot; have g2 := hb.lv; have g3 := hb.am
 unfold withF
 split
 ·exact ha.sm
 ·split
  ·exact hb.sm
  ·refine ⟨by simp only; omega, by simp only; omega, ?_⟩
   simp only
   split <;> split <;> omega
def NodeP (t : Tr) : Value → List Part → List Fact → Prop := fun v Lo fs => ∃ A : Option Addr, v = .pointer A ∧ Lo = [] ∧ fs = [TrF A t]
theorem bd112_0_1_3_4_5Xw22 (x0_ : Int) (x1_ : Int) (x3_ : Int) (x4_ : Int) (x5_ : Int) (w : World) : (Instr.build 69 #[(0, .int .i64 x0_), (1, .int .i64 x1_), (3, .int .i64 x3_), (4, .int .i64 x4_), (5, .int .i64 x5_)]).run Tryz.prog w = .ok (.agg #[.int .i64 x0_, .int .i64 x1_, .int .i64 0, .int .i64 x3_, .int .i64 x4_, .int .i64 x5_]) w := by kernel_rfl
theorem bd150_0_1_2_3Xw22 (x0_0 : Int) (x0_1 : Int) (x0_2 : Int) (x0_3 : Int) (x0_4 : Int) (x0_5 : Int) (x1_ : Option Addr) (x2_ : Option Addr) (x3_0A : Option Addr) (x3_0n x3_0c : Nat) (x3_1 : Int) (w : World) : (Instr.build 104 #[(0, .agg #[.int .i64 x0_0, .int .i64 x0_1, .int .i64 x0_2, .int .i64 x0_3, .int .i64 x0_4, .int .i64 x0_5]), (1, .pointer x1_), (2, .pointer x2_), (3, .agg #[.slice x3_0A x3_0n x3_0c, .int .i64 x3_1])]).run Tryz.prog w = .ok (.agg #[.int .i64 x0_0, .int .i64 x0_1, .int .i64 x0_2, .int .i64 x0_3, .int .i64 x0_4, .int .i64 x0_5, .pointer x1_, .pointer x2_, .slice x3_0A x3_0n x3_0c, .int .i64 x3_1, .int .i64 0]) w := by kernel_rfl

set_option maxRecDepth 10000 in
theorem knot_s (Al Ar Ac : Option Addr) (c : Nat) (l r : Tr) (rs : List Int) (hid : Int) (hl : Sm40 (allF l)) (hr : Sm40 (allF r)) (hn : rs.length ≤ 1099511627776) : Sp Tryz.prog 80 [.pointer Al, pcV rs hid Ac c, .pointer Ar] [] [TrF Al l, TrF Ar r, RdF runeD Ac c rs] (NodeP (knotF l rs hid r)) := by
 refine Sp.of (n := 42) ⟨_, Tryz.func80, rfl, rfl, rfl, rfl⟩ (Nat.le_of_ble_eq_true rfl) fun Ps As => WC_seq (WC_region (WL_main rfl (OW_box (cs := [_, _]) rfl rfl (by decide) fun b4 => Lq (q_assign rfl) (WL_nil (thenN (WC_seq (WC_region (Lq (q_move rfl) (WL_main rfl (OW_call0 (all_s Al l) (.cons rfl (.nil)) (by decide) (memc M0 mem0) fun u1_1 Lo fs hres => ?_))))))))))
 obtain ⟨rfl, rfl, rfl⟩ := hres
 refine Lq (q_move rfl) (WL_main rfl (OW_call0 (all_s Ar r) (.cons rfl (.nil)) (by decide) (memc M1 mem0) fun u1_3 Lo fs hres => ?_))
 obtain ⟨rfl, rfl, rfl⟩ := hres
 refine WL_main rfl (OW_alloc (cs := [_, _, _, _, _, _]) ti69 rfl (by decide) fun b7 => WL_main rfl (OW_alloc (cs := [_, _, _, _, _, _]) ti69 rfl (by decide) fun b8 => WL_main rfl (OW_storeN (cs' := [_, _, _, _, _, _]) (vs := [_, _, _, _, _, _]) ti69 rfl rfl rfl rfl rfl (Nat.le_of_ble_eq_true rfl) (.s (.z)) (WL_main rfl (OW_storeN (cs' := [_, _, _, _, _, _]) (vs := [_, _, _, _, _, _]) ti69 rfl rfl rfl rfl rfl (Nat.le_of_ble_eq_true rfl) (.z) (WL_nil (thenN (WC_seq ?_))))))))
 refine WC_draw _ _ [16] (.c 0 0 (.c 1 0 (.c 2 0 (.c 3 0 (.c 4 0 (.c 5 0 (.c 6 0 (.c 7 0 (.c 8 0 (.c 9 0 (.c 10 0 (.c 11 0 (.c 13 0 (.b (.c 12 2 (.b (.c 14 2 (.c 15 2 (.c 16 3 .nil))) (.c 15 2 (.c 14 2 (.c 16 3 .nil))))) (.c 15 2 (.c 12 2 (.c 14 2 (.c 16 3 .nil)))))))))))))))))) mixed (fun _ _ _ _ h => h) (Sk (Sk (Sk (Sr)))) (fun _ h => h) (by kernel_rfl) (by decide) fun ws Z0 => Qe rfl (q_loadN (vs := [_, _, _, _, _, _]) Un69 rfl ti69 rfl (ownS (own0)) rfl rfl) (Qe rfl (q_field (o' := 0) Un102 rfl ti100 rfl rfl) (Qe rfl (q_load1 Un100 rfl rfl (ownS (ownS (own0))) rfl) (Qe rfl (q_len Un100 rfl) (Qe rfl (q_field (o' := 1) Un102 rfl ti3 rfl rfl) (Qe rfl (q_load1 Un3 rfl rfl (ownS (ownS (own0))) rfl) ?_)))))
 refine Qe rfl (q_field (o' := 0) Un102 rfl ti100 rfl rfl) (Qe rfl (q_load1 Un100 rfl rfl (ownS (ownS (own0))) rfl) (Qe rfl (q_len Un100 rfl) (Qe rfl (q_field (o' := 1) Un102 rfl ti3 rfl rfl) (Qe rfl (q_load1 Un3 rfl rfl (ownS (ownS (own0))) rfl) (Qe rfl (q_build (.cons rfl (.cons rfl (.cons rfl (.cons rfl (.cons rfl (.nil)))))) (bd112_0_1_3_4_5Xw22 _ _ _ _ _)) (Qe rfl (q_loadN (vs := [_, _, _, _, _, _]) Un69 rfl ti69 rfl own0 rfl rfl) (WE_both ?_ ?_)))))))
 ·refine WE_main rfl rfl (OW_call0 (with_s (allF l) ⟨rs.length, 1, 0, hid, rs.length, hid⟩ hl.sm ⟨by simp only; omega, by simp only; omega, by simp only; omega⟩) (.cons rfl (.cons rfl (.nil))) (by decide) mem0 fun u2_12 Lo fs hres => ?_)
  obtain ⟨rfl, rfl, rfl⟩ := hres
  refine ⟨⟨(Sk (Sk (Sk (Sr)))), M0⟩, ?_⟩
  refine WE_both ?_ ?_
  ·refine WE_main rfl rfl (OW_call0 (with_s (withF (allF l) ⟨rs.length, 1, 0, hid, rs.length, hid⟩) (allF r) (smIn_with hl ⟨by simp only; omega, by simp only; omega, by simp only; omega, by simp only; omega⟩) hr.sm) (.cons rfl (.cons rfl (.nil))) (by decide) mem0 fun u2_14 Lo fs hres => ?_)
   obtain ⟨rfl, rfl, rfl⟩ := hres
   refine ⟨⟨(Sk (Sk (Sk (Sr)))), M0⟩, ?_⟩
   refine WE_main rfl rfl (OW_alloc (cs := [_, _, _, _, _, _]) ti69 rfl (by decide) fun b9 => ?_)
   refine ⟨⟨(Sd (Sk (Sk (Sk (Sr))))), M0⟩, ?_⟩
   refine WE_end (WF_last rfl rfl (OW_storeN (cs' := [_, _, _, _, _, _]) (vs := [_, _, _, _, _, _]) ti69 rfl rfl rfl rfl rfl (Nat.le_of_ble_eq_true rfl) (.z) (WF_nil (thenN (WC_fr [(9, _), (8, _), (7, _), (6, _), (4, _), (0, _), (2, _)] (.cons rfl (.cons rfl (.cons rfl (.cons rfl (.cons rfl (.cons rfl (.cons rfl (.nil _)))))))) (WC_seq (WC_region (Lq (q_field (o' := 2) Un69 rfl ti3 rfl rfl) (Lq (q_load1 Un3 rfl rfl (ownS (ownS (own0))) rfl) (Lq (q_field (o' := 2) Un69 rfl ti3 rfl rfl) (Lq (q_load1 Un3 rfl rfl (ownS (own0)) rfl) (Lq (q_max rfl rfl) ?_))))))))))))
   refine Lq (q_add rfl rfl (wr64 (by have := hl.ht; have := hr.ht; omega))) (Lq (q_field (o' := 2) Un69 rfl ti3 rfl rfl) (WL_main rfl (OW_store1 ti3 rfl rfl rfl (.s (.s (.z))) (.z) (WL_nil (thenN (WC_fr [(9, _), (6, _), (4, _), (0, _), (2, _)] (.cons rfl (.cons rfl (.cons rfl (.cons rfl (.cons rfl (.nil _)))))) (WC_seq (WC_region (Lq (q_loadN (vs := [_, _, _, _, _, _]) Un69 rfl ti69 rfl own0 rfl rfl) (Lq (q_move rfl) (Lq (q_move rfl) (Lq (q_loadN (vs := [_, _]) Un102 rfl ti102 rfl (ownS (ownS (ownS (own0)))) rfl rfl) ?_))))))))))))
   refine Lq (q_build (.cons rfl (.cons rfl (.cons rfl (.cons rfl (.nil))))) (bd150_0_1_2_3Xw22 _ _ _ _ _ _ _ _ _ _ _ _)) (WL_main rfl (OW_box (cs := ndC ({ withF (withF (allF l) ⟨rs.length, 1, 0, hid, rs.length, hid⟩) (allF r) with ht := 1 + max (allF l).ht (allF r).ht }) Al Ar Ac rs c hid 0) rfl rfl (by decide) fun b41 => WL_newNode (lt := l) (rt := r) (.z) M1 M2 M3 (Lq (q_assign rfl) (WL_nil (thenN (WC_ret ?_))))))
   refine ⟨_, [], [_], fun Z w hs => .tmp rfl (.nil), ?_, fun Z w hs => hs.out (Sd (Sd (Sd (Sd (Sr))))) (memc M0 T2)⟩
   exact ⟨_, rfl, rfl, rfl⟩
  ·refine WE_main rfl rfl (OW_alloc (cs := [_, _, _, _, _, _]) ti69 rfl (by decide) fun b9 => ?_)
   refine ⟨⟨(Sd (Sk (Sk (Sk (Sr))))), M0⟩, ?_⟩
   refine WE_main rfl rfl (OW_call0 (with_s (withF (allF l) ⟨rs.length, 1, 0, hid, rs.length, hid⟩) (allF r) (smIn_with hl ⟨by simp only; omega, by simp only; omega, by simp only; omega, by simp only; omega⟩) hr.sm) (.cons rfl (.cons rfl (.nil))) (by decide) mem0 fun u2_14 Lo fs hres => ?_)
   obtain ⟨rfl, rfl, rfl⟩ := hres
   refine ⟨⟨(Sd (Sk (Sk (Sk (Sr))))), M0⟩, ?_⟩
   refine WE_end (WF_last rfl rfl (OW_storeN (cs' := [_, _, _, _, _, _]) (vs := [_, _, _, _, _, _]) ti69 rfl rfl rfl rfl rfl (Nat.le_of_ble_eq_true rfl) (.z) (WF_nil (thenN (WC_fr [(9, _), (8, _), (7, _), (6, _), (4, _), (0, _), (2, _)] (.cons rfl (.cons rfl (.cons rfl (.cons rfl (.cons rfl (.cons rfl (.cons rfl (.nil _)))))))) (WC_seq (WC_region (Lq (q_field (o' := 2) Un69 rfl ti3 rfl rfl) (Lq (q_load1 Un3 rfl rfl (ownS (ownS (own0))) rfl) (Lq (q_field (o' := 2) Un69 rfl ti3 rfl rfl) (Lq (q_load1 Un3 rfl rfl (ownS (own0)) rfl) (Lq (q_max rfl rfl) ?_))))))))))))
   refine Lq (q_add rfl rfl (wr64 (by have := hl.ht; have := hr.ht; omega))) (Lq (q_field (o' := 2) Un69 rfl ti3 rfl rfl) (WL_main rfl (OW_store1 ti3 rfl rfl rfl (.s (.s (.z))) (.z) (WL_nil (thenN (WC_fr [(9, _), (6, _), (4, _), (0, _), (2, _)] (.cons rfl (.cons rfl (.cons rfl (.cons rfl (.cons rfl (.nil _)))))) (WC_seq (WC_region (Lq (q_loadN (vs := [_, _, _, _, _, _]) Un69 rfl ti69 rfl own0 rfl rfl) (Lq (q_move rfl) (Lq (q_move rfl) (Lq (q_loadN (vs := [_, _]) Un102 rfl ti102 rfl (ownS (ownS (ownS (own0)))) rfl rfl) ?_))))))))))))
   refine Lq (q_build (.cons rfl (.cons rfl (.cons rfl (.cons rfl (.nil))))) (bd150_0_1_2_3Xw22 _ _ _ _ _ _ _ _ _ _ _ _)) (WL_main rfl (OW_box (cs := ndC ({ withF (withF (allF l) ⟨rs.length, 1, 0, hid, rs.length, hid⟩) (allF r) with ht := 1 + max (allF l).ht (allF r).ht }) Al Ar Ac rs c hid 0) rfl rfl (by decide) fun b41 => WL_newNode (lt := l) (rt := r) (.z) M1 M2 M3 (Lq (q_assign rfl) (WL_nil (thenN (WC_ret ?_))))))
   refine ⟨_, [], [_], fun Z w hs => .tmp rfl (.nil), ?_, fun Z w hs => hs.out (Sd (Sd (Sd (Sd (Sr))))) (memc M0 T2)⟩
   exact ⟨_, rfl, rfl, rfl⟩
 ·refine WE_main rfl rfl (OW_alloc (cs := [_, _, _, _, _, _]) ti69 rfl (by decide) fun b9 => ?_)
  refine ⟨⟨(Sd (Sk (Sk (Sk (Sr))))), M0⟩, ?_⟩
  refine WE_main rfl rfl (OW_call0 (with_s (allF l) ⟨rs.length, 1, 0, hid, rs.length, hid⟩ hl.sm ⟨by simp only; omega, by simp only; omega, by simp only; omega⟩) (.cons rfl (.cons rfl (.nil))) (by decide) mem0 fun u2_12 Lo fs hres => ?_)
  obtain ⟨rfl, rfl, rfl⟩ := hres
  refine ⟨⟨(Sd (Sk (Sk (Sk (Sr))))), M0⟩, ?_⟩
  refine WE_main rfl rfl (OW_call0 (with_s (withF (allF l) ⟨rs.length, 1, 0, hid, rs.length, hid⟩) (allF r) (smIn_with hl ⟨by simp only; omega, by simp only; omega, by simp only; omega, by simp only; omega⟩) hr.sm) (.cons rfl (.cons rfl (.nil))) (by decide) mem0 fun u2_14 Lo fs hres => ?_)
  obtain ⟨rfl, rfl, rfl⟩ := hres
  refine ⟨⟨(Sd (Sk (Sk (Sk (Sr))))), M0⟩, ?_⟩
  refine WE_end (WF_last rfl rfl (OW_storeN (cs' := [_, _, _, _, _, _]) (vs := [_, _, _, _, _, _]) ti69 rfl rfl rfl rfl rfl (Nat.le_of_ble_eq_true rfl) (.z) (WF_nil (thenN (WC_fr [(9, _), (8, _), (7, _), (6, _), (4, _), (0, _), (2, _)] (.cons rfl (.cons rfl (.cons rfl (.cons rfl (.cons rfl (.cons rfl (.cons rfl (.nil _)))))))) (WC_seq (WC_region (Lq (q_field (o' := 2) Un69 rfl ti3 rfl rfl) (Lq (q_load1 Un3 rfl rfl (ownS (ownS (own0))) rfl) (Lq (q_field (o' := 2) Un69 rfl ti3 rfl rfl) (Lq (q_load1 Un3 rfl rfl (ownS (own0)) rfl) (Lq (q_max rfl rfl) ?_))))))))))))
  refine Lq (q_add rfl rfl (wr64 (by have := hl.ht; have := hr.ht; omega))) (Lq (q_field (o' := 2) Un69 rfl ti3 rfl rfl) (WL_main rfl (OW_store1 ti3 rfl rfl rfl (.s (.s (.z))) (.z) (WL_nil (thenN (WC_fr [(9, _), (6, _), (4, _), (0, _), (2, _)] (.cons rfl (.cons rfl (.cons rfl (.cons rfl (.cons rfl (.nil _)))))) (WC_seq (WC_region (Lq (q_loadN (vs := [_, _, _, _, _, _]) Un69 rfl ti69 rfl own0 rfl rfl) (Lq (q_move rfl) (Lq (q_move rfl) (Lq (q_loadN (vs := [_, _]) Un102 rfl ti102 rfl (ownS (ownS (ownS (own0)))) rfl rfl) ?_))))))))))))
  refine Lq (q_build (.cons rfl (.cons rfl (.cons rfl (.cons rfl (.nil))))) (bd150_0_1_2_3Xw22 _ _ _ _ _ _ _ _ _ _ _ _)) (WL_main rfl (OW_box (cs := ndC ({ withF (withF (allF l) ⟨rs.length, 1, 0, hid, rs.length, hid⟩) (allF r) with ht := 1 + max (allF l).ht (allF r).ht }) Al Ar Ac rs c hid 0) rfl rfl (by decide) fun b41 => WL_newNode (lt := l) (rt := r) (.z) M1 M2 M3 (Lq (q_assign rfl) (WL_nil (thenN (WC_ret ?_))))))
  refine ⟨_, [], [_], fun Z w hs => .tmp rfl (.nil), ?_, fun Z w hs => hs.out (Sd (Sd (Sd (Sd (Sr))))) (memc M0 T2)⟩
  exact ⟨_, rfl, rfl, rfl⟩

end Go.Proofs.YtcjbjkbghgjmdaaGreatDoor
/- Trees of the rope: their rows of cells, plain. -/
namespace Go.Proofs.YtcjbjkbghgjmdaaGreatDoor
open Go Go.GW
abbrev Ce := Int × Int
def cellsOf (rs : List Int) (hid : Int) : List Ce := rs.map fun c => (c, hid)
def up (k : Int) (row : List Ce) : List Ce := row.map fun c => (c.1, c.2 + k)
def Tr.row : Tr → List Ce
 | .nil => []
 | .nd _ l rs hid r plus => up plus (l.row ++ (cellsOf rs hid ++ r.row))
def Tr.size : Tr → Nat
 | .nil => 0
 | .nd _ l _ _ r _ => l.size + r.size + 1
def InR (row : List Ce) : Prop := ∀ c ∈ row, 0 ≤ c.2 ∧ c.2 ≤ 1048576
structure SumOf (s : Sm) (row : List Ce) : Prop where
 tot : s.tot = row.length
 mnL : ∀ c ∈ row, s.mn ≤ c.2
 mnI : ∃ c ∈ row, c.2 = s.mn
 am : s.am = (row.countP fun c => c.2 = s.mn)
 mxL : ∀ c ∈ row, c.2 ≤ s.mx
 mxI : ∃ c ∈ row, c.2 = s.mx
def Wf : Tr → Prop
 | .nil => True
 | .nd s l rs hid r plus => Wf l ∧ Wf r ∧ rs ≠ [] ∧ (0 ≤ hid ∧ hid ≤ 1048576) ∧ SumOf s (up plus (l.row ++ (cellsOf rs hid ++ r.row))) ∧ (1 ≤ s.ht ∧ s.ht ≤ s.lv ∧ s.lv ≤ s.tot) ∧ InR (up plus (l.row ++ (cellsOf rs hid ++ r.row)))
theorem up_zero (row : List Ce) : up 0 row = row := by unfold up; simp
theorem up_append (k : Int) (a b : List Ce) : up k (a ++ b) = up k a ++ up k b := by unfold up; simp
theorem up_up (k j : Int) (a : List Ce) : up k (up j a) = up (j + k) a := by unfold up; simp [Int.add_assoc]
theorem up_length (k : Int) (a : List Ce) : (up k a).length = a.length := by unfold up; simp
theorem up_cells (k : Int) (rs : List Int) (hid : Int) : up k (cellsOf rs hid) = cellsOf rs (hid + k) := by unfold up cellsOf; simp
theorem cellsOf_length (rs : List Int) (hid : Int) : (cellsOf rs hid).length = rs.length := by unfold cellsOf; simp
theorem mem_up {k : Int} {a : List Ce} {c : Ce} : c ∈ up k a ↔ ∃ d ∈ a, c = (d.1, d.2 + k) := by
 unfold up; simp only [List.mem_map]; exact ⟨fun ⟨d, h, e⟩ => ⟨d, h, e.symm⟩, fun ⟨d, h, e⟩ => ⟨d, h, e.symm⟩⟩
theorem InR.append {a b : List Ce} : InR (a ++ b) ↔ InR a ∧ InR b := by
 unfold InR; simp only [List.mem_append]
 exact ⟨fun h => ⟨fun c hc => h c (.inl hc), fun c hc => h c (.inr hc)⟩, fun h c hc => hc.elim (h.1 c) (h.2 c)⟩
theorem InR.take {a : List Ce} (h : InR a) (k : Nat) : InR (a.take k) := fun c hc => h c (List.mem_of_mem_take hc)
theorem InR.drop {a : List Ce} (h : InR a) (k : Nat) : InR (a.drop k) := fun c hc => h c (List.mem_of_mem_drop hc)
theorem SumOf.up {s : Sm} {row : List Ce} (h : SumOf s row) (k : Int) : SumOf (liftedF s k) (up k row) := by
 obtain ⟨h1, h2, h3, h4, h5, h6⟩ := h
 refine ⟨by rw [up_length]; exact h1, fun c hc => ?_, ?_, ?_, fun c hc => ?_, ?_⟩
 ·obtain ⟨d, hd, rfl⟩ := mem_up.1 hc
  have := h2 d hd
  show s.mn + k ≤ d.2 + k; omega
 ·obtain ⟨d, hd, e⟩ := h3
  exact ⟨_, mem_up.2 ⟨d, hd, rfl⟩, by show d.2 + k = s.mn + k; omega⟩
 ·show s.am = _
  rw [h4]
  unfold Proofs.YtcjbjkbghgjmdaaGreatDoor.up
  rw [List.countP_map]
  congr 2
  funext c
  simp only [Function.comp, liftedF]
  exact decide_eq_decide.2 (by omega)
 ·obtain ⟨d, hd, rfl⟩ := mem_up.1 hc
  have := h5 d hd
  show d.2 + k ≤ s.mx + k; omega
 ·obtain ⟨d, hd, e⟩ := h6
  exact ⟨_, mem_up.2 ⟨d, hd, rfl⟩, by show d.2 + k = s.mx + k; omega⟩
theorem liftF_nd (s : Sm) (l : Tr) (rs : List Int) (hid : Int) (r : Tr) (plus k : Int) : liftF (.nd s l rs hid r plus) k = if liftedF s k = s then .nd s l rs hid r plus else .nd (liftedF s k) l rs hid r (plus + k) := rfl
theorem row_lift (t : Tr) (k : Int) : (liftF t k).row = up k t.row := by
 cases t with
 | nil => rfl
 | nd s l rs hid r plus =>
  rw [liftF_nd]
  split
  ·rename_i h
   have : k = 0 := by
    have := congrArg Sm.mn h
    simp only [liftedF] at this; omega
   subst this
   rw [up_zero]
  ·simp only [Tr.row]
   rw [up_up]
theorem size_lift (t : Tr) (k : Int) : (liftF t k).size = t.size := by
 cases t with
 | nil => rfl
 | nd s l rs hid r plus =>
  rw [liftF_nd]
  split <;> rfl
theorem wf_lift {t : Tr} {k : Int} (h : Wf t) (hk : InR (up k t.row)) : Wf (liftF t k) := by
 cases t with
 | nil => trivial
 | nd s l rs hid r plus =>
  rw [liftF_nd]
  split
  ·exact h
  ·obtain ⟨h1, h2, h3, h4, h5, h6, h7⟩ := h
   simp only [Tr.row, up_up] at hk
   refine ⟨h1, h2, h3, h4, ?_, h6, hk⟩
   have := h5.up k
   rwa [up_up] at this
theorem Wf.inR {t : Tr} (h : Wf t) : InR t.row := by
 cases t with
 | nil => intro c hc; cases hc
 | nd s l rs hid r plus => exact h.2.2.2.2.2.2
theorem Wf.tot {t : Tr} (h : Wf t) : (allF t).tot = t.row.length := by
 cases t with
 | nil => rfl
 | nd s l rs hid r plus => exact h.2.2.2.2.1.tot
/-- The bounds of a tree's numbers. -/
theorem Wf.bd {t : Tr} (h : Wf t) : 0 ≤ (allF t).ht ∧ (allF t).ht ≤ (allF t).lv ∧ (allF t).lv ≤ (allF t).tot ∧ (0 ≤ (allF t).mn ∧ (allF t).mn ≤ 1048576) ∧ (0 ≤ (allF t).mx ∧ (allF t).mx ≤ 1048576) ∧ (0 ≤ (allF t).am ∧ (allF t).am ≤ (allF t).tot) ∧ ((allF t).ht = 0 → t = .nil) := by
 cases t with
 | nil => simp [allF, zeroSm]
 | nd s l rs hid r plus =>
  obtain ⟨h1, h2, h3, h4, h5, h6, h7⟩ := h
  obtain ⟨c, hc, e⟩ := h5.mnI
  obtain ⟨d, hd, e2⟩ := h5.mxI
  have g1 := h7 c hc
  have g2 := h7 d hd
  have g3 := List.countP_le_length (p := fun c : Ce => decide (c.2 = s.mn)) (l := up plus (l.row ++ (cellsOf rs hid ++ r.row)))
  have g4 := h5.tot
  have g5 := h5.am
  simp only [allF]
  refine ⟨by omega, h6.2.1, h6.2.2, by omega, by omega, by omega, by omega⟩
theorem Wf.sm40 {t : Tr} (h : Wf t) (hb : t.row.length ≤ 1099511627776) : (0 ≤ (allF t).tot ∧ (allF t).tot ≤ 1099511627776) ∧ (0 ≤ (allF t).lv ∧ (allF t).lv ≤ 1099511627776) ∧ (0 ≤ (allF t).ht ∧ (allF t).ht ≤ 1099511627776) ∧ (0 ≤ (allF t).am ∧ (allF t).am ≤ 1099511627776) := by
 have h1 := h.bd
 have h2 := h.tot
 omega
/-- What a node's parts are. -/
structure Opened (s : Sm) (l : Tr) (rs : List Int) (hid : Int) (r : Tr) (plus : Int) : Prop where
 wl : Wf (liftF l plus)
 wr : Wf (liftF r plus)
 ne : rs ≠ []
 hidB : 0 ≤ hid + plus ∧ hid + plus ≤ 1048576
 plusB : -1048576 ≤ plus ∧ plus ≤ 1048576
 row : (Tr.nd s l rs hid r plus).row = (liftF l plus).row ++ (cellsOf rs (hid + plus) ++ (liftF r plus).row)
theorem Wf.opened {s : Sm} {l r : Tr} {rs : List Int} {hid plus : Int} (h : Wf (.nd s l rs hid r plus)) : Opened s l rs hid r plus := by
 obtain ⟨h1, h2, h3, h4, h5, h6, h7⟩ := h
 have hrow : up plus (l.row ++ (cellsOf rs hid ++ r.row)) = (liftF l plus).row ++ (cellsOf rs (hid + plus) ++ (liftF r plus).row) := by
  rw [up_append, up_append, up_cells, row_lift, row_lift]
 rw [hrow] at h7
 obtain ⟨g1, g2⟩ := InR.append.1 h7
 obtain ⟨g2, g3⟩ := InR.append.1 g2
 obtain ⟨x, hx⟩ := List.exists_mem_of_ne_nil rs h3
 have hh := g2 (x, hid + plus) (by unfold cellsOf; exact List.mem_map.2 ⟨x, hx, rfl⟩)
 simp only at hh
 exact ⟨wf_lift h1 (by rw [← row_lift]; exact g1), wf_lift h2 (by rw [← row_lift]; exact g3), h3, hh, by omega, hrow⟩
theorem countP_none {row : List Ce} {m : Int} (h : ∀ c ∈ row, m < c.2) : (row.countP fun c => c.2 = m) = 0 := by
 rw [List.countP_eq_zero]
 intro c hc
 have := h c hc
 simp; omega
theorem sum_with {a b : Sm} {x y : List Ce} (ha : SumOf a x) (hb : SumOf b y) : SumOf (withF a b) (x ++ y) := by
 obtain ⟨a1, a2, a3, a4, a5, a6⟩ := ha
 obtain ⟨b1, b2, b3, b4, b5, b6⟩ := hb
 have hx : x ≠ [] := by obtain ⟨c, hc, _⟩ := a3; exact List.ne_nil_of_mem hc
 have hy : y ≠ [] := by obtain ⟨c, hc, _⟩ := b3; exact List.ne_nil_of_mem hc
 have hx' := List.length_pos_iff.2 hx
 have hy' := List.length_pos_iff.2 hy
 unfold withF
 rw [if_neg (by omega), if_neg (by omega)]
 refine ⟨by simp only [List.length_append]; omega, fun c hc => ?_, ?_, ?_, fun c hc => ?_, ?_⟩
 ·simp only
  rcases List.mem_append.1 hc with hc | hc
  ·have := a2 c hc; omega
  ·have := b2 c hc; omega
 ·simp only
  obtain ⟨c, hc, e⟩ := a3
  obtain ⟨d, hd, f⟩ := b3
  rcases Int.le_total a.mn b.mn with h | h
  ·exact ⟨c, List.mem_append_left _ hc, by omega⟩
  ·exact ⟨d, List.mem_append_right _ hd, by omega⟩
 ·simp only
  rw [List.countP_append]
  rcases Int.lt_trichotomy a.mn b.mn with h | h | h
  ·have e1 : min a.mn b.mn = a.mn := by omega
   rw [e1, if_pos rfl, if_neg (by omega), countP_none (row := y) (m := a.mn) (fun c hc => by have := b2 c hc; omega), a4]
   simp
  ·have e1 : min a.mn b.mn = a.mn := by omega
   rw [e1, if_pos rfl, if_pos h.symm, a4, b4, h]
   simp
  ·have e1 : min a.mn b.mn = b.mn := by omega
   rw [e1, if_neg (by omega), if_pos rfl, countP_none (row := x) (m := b.mn) (fun c hc => by have := a2 c hc; omega), b4]
   simp
 ·simp only
  rcases List.mem_append.1 hc with hc | hc
  ·have := a5 c hc; omega
  ·have := b5 c hc; omega
 ·simp only
  obtain ⟨c, hc, e⟩ := a6
  obtain ⟨d, hd, f⟩ := b6
  rcases Int.le_total a.mx b.mx with h | h
  ·exact ⟨d, List.mem_append_right _ hd, by omega⟩
  ·exact ⟨c, List.mem_append_left _ hc, by omega⟩
theorem sum_ne {s : Sm} {row : List Ce} (h : SumOf s row) : s.tot ≠ 0 := by
 obtain ⟨c, hc, _⟩ := h.mnI
 have := List.length_pos_of_mem hc
 have := h.tot
 omega
theorem sum_ht {s : Sm} {row : List Ce} (k : Int) (h : SumOf s row) : SumOf { s with ht := k } row := ⟨h.tot, h.mnL, h.mnI, h.am, h.mxL, h.mxI⟩
theorem sum_own {rs : List Int} (hid : Int) (h : rs ≠ []) : SumOf ⟨rs.length, 1, 0, hid, rs.length, hid⟩ (cellsOf rs hid) := by
 obtain ⟨x, hx⟩ := List.exists_mem_of_ne_nil rs h
 have hm : (x, hid) ∈ cellsOf rs hid := by unfold cellsOf; exact List.mem_map.2 ⟨x, hx, rfl⟩
 have ha : ∀ c ∈ cellsOf rs hid, c.2 = hid := fun c hc => by
  unfold cellsOf at hc
  obtain ⟨d, _, rfl⟩ := List.mem_map.1 hc
  rfl
 refine ⟨by simp [cellsOf_length], fun c hc => by rw [ha c hc]; exact Int.le_refl _, ⟨_, hm, rfl⟩, ?_, fun c hc => by rw [ha c hc]; exact Int.le_refl _, ⟨_, hm, rfl⟩⟩
 simp only
 rw [List.countP_eq_length.2 (fun c hc => by simp [ha c hc]), cellsOf_length]
theorem wf_sum {t : Tr} (h : Wf t) (ht : t ≠ .nil) : SumOf (allF t) t.row := by
 cases t with
 | nil => exact absurd rfl ht
 | nd s l rs hid r plus => exact h.2.2.2.2.1
theorem wf_knot {l r : Tr} {rs : List Int} {hid : Int} (hl : Wf l) (hr : Wf r) (hn : rs ≠ []) (hh : 0 ≤ hid ∧ hid ≤ 1048576) : Wf (knotF l rs hid r) ∧ (knotF l rs hid r).row = l.row ++ (cellsOf rs hid ++ r.row) := by
 have hrow : (knotF l rs hid r).row = l.row ++ (cellsOf rs hid ++ r.row) := by unfold knotF; simp only [Tr.row]; rw [up_zero]
 refine ⟨?_, hrow⟩
 have ho := sum_own hid hn
 have hlb := hl.bd
 have hrb := hr.bd
 have hlt := hl.tot
 have hrt := hr.tot
 have ho1 := ho.tot
 have hnp := List.length_pos_iff.2 hn
 have hins : InR (cellsOf rs hid) := fun c hc => by
  unfold cellsOf at hc
  obtain ⟨d, _, rfl⟩ := List.mem_map.1 hc
  exact hh
 have hs : SumOf (withF (withF (allF l) ⟨rs.length, 1, 0, hid, rs.length, hid⟩) (allF r)) (l.row ++ (cellsOf rs hid ++ r.row)) ∧ (withF (withF (allF l) ⟨rs.length, 1, 0, hid, rs.length, hid⟩) (allF r)).lv = (allF l).lv + 1 + (allF r).lv := by
  have h1 : SumOf (withF (allF l) ⟨rs.length, 1, 0, hid, rs.length, hid⟩) (l.row ++ cellsOf rs hid) ∧ (withF (allF l) ⟨rs.length, 1, 0, hid, rs.length, hid⟩).lv = (allF l).lv + 1 := by
   cases l with
   | nil =>
    have e : withF (allF .nil) ⟨rs.length, 1, 0, hid, rs.length, hid⟩ = ⟨rs.length, 1, 0, hid, rs.length, hid⟩ := by
     unfold withF; rw [if_neg (by simp only; omega), if_pos (show (allF .nil).tot = 0 from rfl)]
    rw [e]; exact ⟨ho, rfl⟩
   | nd s l2 rs2 hid2 r2 plus2 =>
    have g := wf_sum hl (by simp)
    refine ⟨sum_with g ho, ?_⟩
    unfold withF
    rw [if_neg (by simp only; omega), if_neg (sum_ne g)]
  rw [← List.append_assoc]
  cases r with
  | nil =>
   have e : ∀ s, withF s (allF .nil) = s := fun s => by unfold withF; rw [if_pos (show (allF .nil).tot = 0 from rfl)]
   rw [e]
   refine ⟨by simpa [Tr.row] using h1.1, by rw [h1.2]; simp [allF, zeroSm]⟩
  | nd s l2 rs2 hid2 r2 plus2 =>
   have g := wf_sum hr (by simp)
   refine ⟨sum_with h1.1 g, ?_⟩
   unfold withF
   rw [if_neg (sum_ne g)]
   have := sum_ne h1.1
   unfold withF at this h1
   rw [if_neg this, h1.2]
 have htot := hs.1.tot
 simp only [List.length_append, cellsOf_length] at htot
 unfold knotF
 refine ⟨hl, hr, hn, hh, ?_, ?_, ?_⟩
 ·rw [up_zero]; exact sum_ht _ hs.1
 ·simp only; rw [hs.2, htot]; omega
 ·rw [up_zero]; exact InR.append.2 ⟨hl.inR, InR.append.2 ⟨hins, hr.inR⟩⟩
end Go.Proofs.YtcjbjkbghgjmdaaGreatDoor
/- The rules by which this claim's walks go: structs of plain cells held against each other. -/
namespace Go.GW
open Go
/-- What a comparison of two aggregates comes to, D levels deep. -/
def EqD (P : Program) (D : Nat) (T : TypeId) (xs ys : Array Value) (r : Bool) : Prop := ∀ d w, (Op.equalIn (d + D) T (.agg xs) (.agg ys)).run P w = .ok r w
theorem EqD.eqT {P : Program} {D : Nat} {T : TypeId} {xs ys : Array Value} {r : Bool} (h : EqD P D T xs ys r) (hD : D ≤ 9) (hg : P.eqGuardType P.depth T = false) : EqT P T xs ys r := ⟨hg, fun d w => by
  have := h (d + (9 - D)) w
  rwa [show d + (9 - D) + D = d + 9 from by omega] at this⟩
theorem EqD.mono {P : Program} {D D' : Nat} {T : TypeId} {xs ys : Array Value} {r : Bool} (h : EqD P D T xs ys r) (hD : D ≤ D') : EqD P D' T xs ys r := fun d w => by
  have := h (d + (D' - D)) w
  rwa [show d + (D' - D) + D = d + D' from by omega] at this
inductive EqFs (P : Program) (D : Nat) (xs ys : List Value) : List (TypeId × Nat) → Bool → Prop
  | nil : EqFs P D xs ys [] true
  | int {t : TypeId} {o : Nat} {k : IntKind} {a b : Int} {l : List (TypeId × Nat)} {r : Bool} (hu : P.underlying t = some (.int k)) (hx : xs[o]? = some (.int k a)) (hy : ys[o]? = some (.int k b)) (h : EqFs P D xs ys l r) : EqFs P D xs ys ((t, o) :: l) ((a == b) && r)
  | str {t : TypeId} {o : Nat} {a b : ByteArray} {l : List (TypeId × Nat)} {r : Bool} (hu : P.underlying t = some .string) (hx : xs[o]? = some (.string a)) (hy : ys[o]? = some (.string b)) (h : EqFs P D xs ys l r) : EqFs P D xs ys ((t, o) :: l) ((a == b) && r)
  | bool {t : TypeId} {o : Nat} {a b : Bool} {l : List (TypeId × Nat)} {r : Bool} (hu : P.underlying t = some .bool) (hx : xs[o]? = some (.bool a)) (hy : ys[o]? = some (.bool b)) (h : EqFs P D xs ys l r) : EqFs P D xs ys ((t, o) :: l) ((a == b) && r)
  | agg {t : TypeId} {o sz by_ : Nat} {dd : TypeDesc} {z : Option Value} {us vs : List Value} {l : List (TypeId × Nat)} {q r : Bool} (hu : P.underlying t = some dd) (hd : agg? dd = true) (ht : ti P t = some (z, sz, by_)) (hx : (xs.drop o).take sz = us) (hy : (ys.drop o).take sz = vs) (hq : EqD P D t us.toArray vs.toArray q) (h : EqFs P D xs ys l r) : EqFs P D xs ys ((t, o) :: l) (q && r)
def fieldsB (P : Program) (T : TypeId) (l : List (TypeId × Nat)) : Bool := (P.fieldsOf T).toList.map (fun f => ((f.type, f.offset), f.name == "_")) == l.map fun x => (x, false)
theorem run_eqFs {P : Program} {D : Nat} {xs ys : List Value} {l : List (TypeId × Nat)} {r : Bool} (h : EqFs P (D + 1) xs ys l r) (d : Nat) (w : World) : ∀ (fs : List Field), fs.map (fun f => ((f.type, f.offset), f.name == "_")) = l.map (fun x => (x, false)) → (Op.eqFields (d + (D + 1)) xs.toArray ys.toArray fs).run P w = .ok r w := by
  have key : ∀ {t : TypeId} {o : Nat} {l : List (TypeId × Nat)} {q r : Bool} {u v : Value}, (part t xs.toArray o).run P w = .ok u w → (part t ys.toArray o).run P w = .ok v w → (Op.equalIn (d + (D + 1)) t u v).run P w = .ok q w →
      (∀ (fs : List Field), fs.map (fun f => ((f.type, f.offset), f.name == "_")) = l.map (fun x => (x, false)) → (Op.eqFields (d + (D + 1)) xs.toArray ys.toArray fs).run P w = .ok r w) →
      ∀ (fs : List Field), fs.map (fun f => ((f.type, f.offset), f.name == "_")) = ((t, o) :: l).map (fun x => (x, false)) → (Op.eqFields (d + (D + 1)) xs.toArray ys.toArray fs).run P w = .ok (q && r) w := by
    intro t o l q r u v h1 h2 h3 ih fs hf
    cases fs with
    | nil => simp at hf
    | cons f fs =>
      simp only [List.map_cons, List.cons.injEq, Prod.mk.injEq] at hf
      obtain ⟨⟨⟨e1, e2⟩, e3⟩, hr⟩ := hf
      have e4 : f.name ≠ "_" := by simpa using e3
      subst e1; subst e2
      simp only [Op.eqFields, e4, ne_eq, not_false_eq_true, if_true, Sem.run_bind, h1, h2, h3, Result.andThen_ok]
      cases q
      · simp
      · simp [ih fs hr]
  induction h with
  | nil =>
    intro fs hf
    have : fs = [] := by simpa using hf
    subst this; rfl
  | int hu hx hy h ih => exact key (run_part1 hu rfl hx) (run_part1 hu rfl hy) (run_equalIn_int w (d + D) _ _ _ _ _ hu) ih
  | str hu hx hy h ih => exact key (run_part1 hu rfl hx) (run_part1 hu rfl hy) ((run_equalIn_string w (d + D) _ _ _ hu).trans (by rw [beq_toListBytes])) ih
  | bool hu hx hy h ih => exact key (run_part1 hu rfl hx) (run_part1 hu rfl hy) (run_equalIn_bool' w (d + D) _ _ _ hu) ih
  | agg hu hd ht hx hy hq h ih => exact key (run_partN hu hd ht hx) (run_partN hu hd ht hy) (hq d w) ih
theorem EqD.struct {P : Program} {D : Nat} {T : TypeId} {xs ys : List Value} {l : List (TypeId × Nat)} {r : Bool} (hu : P.underlying T = some (.struct (P.fieldsOf T))) (hp : P.stoodInHeld T = false) (hf : fieldsB P T l = true) (h : EqFs P (D + 1) xs ys l r) : EqD P (D + 2) T xs.toArray ys.toArray r := fun d w => by
  rw [show d + (D + 2) = (d + (D + 1)) + 1 from rfl, run_equalIn_struct w (d + (D + 1)) T _ _ hu hp]
  exact run_eqFs h d w _ (by simpa [fieldsB] using hf)
end Go.GW
/- Walks: rope, lift, open. -/
namespace Go.Proofs.YtcjbjkbghgjmdaaGreatDoor
open Go Go.GW
theorem eq69 (x0 : Int) (x1 : Int) (x2 : Int) (x3 : Int) (x4 : Int) (x5 : Int) (y0 : Int) (y1 : Int) (y2 : Int) (y3 : Int) (y4 : Int) (y5 : Int) : EqT Tryz.prog 69 [.int .i64 x0, .int .i64 x1, .int .i64 x2, .int .i64 x3, .int .i64 x4, .int .i64 x5].toArray [.int .i64 y0, .int .i64 y1, .int .i64 y2, .int .i64 y3, .int .i64 y4, .int .i64 y5].toArray ((x0 == y0) && ((x1 == y1) && ((x2 == y2) && ((x3 == y3) && ((x4 == y4) && ((x5 == y5) && true)))))) := EqD.eqT (D := 2) (EqD.struct (D := 0) (l := [(3, 0), (3, 1), (3, 2), (3, 3), (3, 4), (3, 5)]) (by kernel_rfl) (by kernel_rfl) (by kernel_rfl) (.int Un3 rfl rfl (.int Un3 rfl rfl (.int Un3 rfl rfl (.int Un3 rfl rfl (.int Un3 rfl rfl (.int Un3 rfl rfl .nil))))))) (by decide) (by kernel_rfl)

set_option maxRecDepth 10000 in
theorem lift_1 (x : Int) : Sp Tryz.prog 54 [.pointer none, .int .i64 x] [] [TrF none .nil] (NodeP .nil) := by
 refine Sp.of (n := 32) ⟨_, Tryz.func54, rfl, rfl, rfl, rfl⟩ (Nat.le_of_ble_eq_true rfl) fun Ps As => WC_seq (WC_region (Lq (q_assign rfl) (WL_nil (thenN (WC_seq (WC_seq (WC_region (Lq (q_move rfl) (Lq (q_peql Un70 rfl rfl (by simp)) (WL_nil (thenN (WC_true rfl rfl (WC_seq (WC_region (Lq (q_assign rfl) (WL_nil (thenN (WC_ret (thenRet ?_)))))))))))))))))))
 refine ⟨_, [], [_], fun Z w hs => .tmp rfl (.nil), ?_, fun Z w hs => hs.out (Sr) (memc M0 (fun _ h => h))⟩
 exact ⟨_, rfl, rfl, rfl⟩


set_option maxRecDepth 10000 in
theorem lift_2 (A : Option Addr) (s : Sm) (l r : Tr) (rs : List Int) (hid plus x : Int) (hw : Wf (.nd s l rs hid r plus)) (hx : -4194304 ≤ x ∧ x ≤ 4194304) : Sp Tryz.prog 54 [.pointer A, .int .i64 x] [] [TrF A (.nd s l rs hid r plus)] (NodeP (liftF (.nd s l rs hid r plus) x)) := by
 have hbd := hw.bd
 simp only [allF] at hbd
 have hpl := hw.opened.plusB
 refine Sp.of (n := 32) ⟨_, Tryz.func54, rfl, rfl, rfl, rfl⟩ (Nat.le_of_ble_eq_true rfl) fun Ps As => WC_node M0 fun b Al Ar Ac cc e => ?_
 cases e
 refine WC_seq (WC_region (Lq (q_assign rfl) (WL_nil (thenN (WC_seq (WC_seq (WC_region (Lq (q_move rfl) (Lq (q_peql Un70 rfl rfl (by simp)) (WL_nil (thenN (WC_false rfl rfl (WC_skip (thenN (WC_seq (WC_region (Lq (q_move rfl) (Lq (q_nil rfl) (Lq (q_field (o' := _ + 0) Un104 rfl ti69 rfl rfl) (Lq (q_loadFN (k := 0) (vs := [_, _, _, _, _, _]) Un69 rfl ti69 rfl M0 rfl rfl rfl) ?_))))))))))))))))))))
 refine Lq (q_move rfl) (WL_main rfl (OW_call0 (lifted_s s x (by omega)) (.cons rfl (.cons rfl (.nil))) (by decide) mem0 fun u3_5 Lo fs hres => ?_))
 obtain ⟨rfl, rfl, rfl⟩ := hres
 refine WL_main rfl (OW_alloc (cs := [_, _, _, _, _, _]) ti69 rfl (by decide) fun b5 => WL_main rfl (OW_storeN (cs' := [_, _, _, _, _, _]) (vs := [_, _, _, _, _, _]) ti69 rfl rfl rfl rfl rfl (Nat.le_of_ble_eq_true rfl) (.z) (WL_nil (thenN (WC_seq (WC_seq (WC_draw _ _ [] (.c 0 0 (.c 1 0 (.c 2 0 (.c 3 0 (.c 4 0 (.c 5 0 .nil)))))) mixed (fun _ _ _ _ h => h) (Sk (Sr)) (fun _ h => h) (by kernel_rfl) (by decide) fun ws Z0 => Qe rfl (q_loadN (vs := [_, _, _, _, _, _]) Un69 rfl ti69 rfl own0 rfl rfl) (Qe rfl (q_move rfl) (Qe rfl (q_nil rfl) (Qe rfl (q_field (o' := _ + 0) Un104 rfl ti69 rfl rfl) (Qe rfl (q_loadFN (k := 0) (vs := [_, _, _, _, _, _]) Un69 rfl ti69 rfl M0 rfl rfl rfl) (Qe rfl (q_aggeql rfl rfl (eq69 _ _ _ _ _ _ _ _ _ _ _ _)) ?_))))))))))))
 refine WE_end (WF_nil (thenN (WC_fr [(20, _), (5, _), (4, _), (0, _), (1, _)] (.cons rfl (.cons rfl (.cons rfl (.cons rfl (.cons rfl (.nil _)))))) (WC_cond rfl (fun h20 => ?_) (fun h20 => ?_)))))
 ·refine WC_seq (WC_region (Lq (q_move rfl) (Lq (q_assign rfl) (WL_nil (thenN (WC_ret (thenRet ?_)))))))
  refine ⟨_, [], [_], fun Z w hs => .tmp rfl (.nil), ?_, fun Z w hs => hs.out (Sd (Sr)) (memc M5 T5)⟩
  have hx0 : x = 0 := by simp [liftedF] at h20; omega
  exact ⟨_, rfl, rfl, by rw [liftF_nd, if_pos (by subst hx0; simp [liftedF])]⟩
 ·refine WC_skip (thenN (WC_seq (WC_region (Lq (q_move rfl) (Lq (q_nil rfl) (Lq (q_loadFN (k := 0) (vs := [_, _, _, _, _, _, _, _, _, _, _]) Un104 rfl ti104 rfl M1 rfl rfl rfl) (WL_main rfl (OW_alloc (cs := [_, _, _, _, _, _, _, _, _, _, _]) ti104 rfl (by decide) fun b6 => WL_main rfl (OW_storeN (cs' := [_, _, _, _, _, _, _, _, _, _, _]) (vs := [_, _, _, _, _, _, _, _, _, _, _]) ti104 rfl rfl rfl rfl rfl (Nat.le_of_ble_eq_true rfl) (.z) (WL_nil (thenN (WC_seq (WC_region (Lq (q_loadN (vs := [_, _, _, _, _, _]) Un69 rfl ti69 rfl (ownS (own0)) rfl rfl) (Lq (q_field (o' := 0) Un104 rfl ti69 rfl rfl) (WL_main rfl (OW_storeN (cs' := [_, _, _, _, _, _, _, _, _, _, _]) (vs := [_, _, _, _, _, _]) ti69 rfl rfl rfl rfl rfl (Nat.le_of_ble_eq_true rfl) (.z) ?_)))))))))))))))))
  refine WL_nil (thenN (WC_seq (WC_region (Lq (q_field (o' := 10) Un104 rfl ti3 rfl rfl) (Lq (q_load1 Un3 rfl rfl own0 rfl) (Lq (q_move rfl) (Lq (q_add rfl rfl (wr64 (by omega))) (Lq (q_field (o' := 10) Un104 rfl ti3 rfl rfl) (WL_main rfl (OW_store1 ti3 rfl rfl rfl (.s (.s (.s (.s (.s (.s (.s (.s (.s (.s (.z))))))))))) (.z) (WL_nil (thenN (WC_fr [(6, _), (4, _)] (.cons rfl (.cons rfl (.nil _))) (WC_seq (WC_region ?_)))))))))))))))
  refine WL_newNode (s := liftedF s x) (lt := l) (rt := r) (Al := Al) (Ar := Ar) (Ac := Ac) (rs := rs) (cc := cc) (hid := hid) (plus := plus + x) (.z) M2 M3 M4 (Lq (q_assign rfl) (WL_nil (thenN (WC_ret ?_))))
  refine ⟨_, [], [_], fun Z w hs => .tmp rfl (.nil), ?_, fun Z w hs => hs.out (Sd (Sr)) (memc M0 T6)⟩
  have hne : ¬ liftedF s x = s := fun e => by
   have := congrArg Sm.mn e
   simp only [liftedF] at this
   have hx0 : x = 0 := by omega
   subst hx0; simp [liftedF] at h20
  exact ⟨_, rfl, rfl, by rw [liftF_nd, if_neg hne]⟩

theorem lift_s (A : Option Addr) (t : Tr) (x : Int) (hw : Wf t) (hx : -4194304 ≤ x ∧ x ≤ 4194304) : Sp Tryz.prog 54 [.pointer A, .int .i64 x] [] [TrF A t] (NodeP (liftF t x)) := by
 cases t with
 | nil =>
  refine ⟨(lift_1 x).enters, fun Z w Ps As hs => ?_⟩
  obtain rfl : A = none := hs.facts _ (by simp : TrF A .nil ∈ [TrF A .nil] ++ As)
  exact (lift_1 x).calls Z w Ps As hs
 | nd s l rs hid r plus => exact lift_2 A s l r rs hid plus x hw hx
def OpenP (t : Tr) : Value → List Part → List Fact → Prop := fun v Lo fs => ∃ (Al : Option Addr) (l : Tr) (rs : List Int) (hid : Int) (Ac : Option Addr) (cc : Nat) (Ar : Option Addr) (r : Tr), v = .tuple #[.pointer Al, pcV rs hid Ac cc, .pointer Ar] ∧ Lo = [] ∧ fs = [TrF Al l, RdF runeD Ac cc rs, TrF Ar r] ∧ Wf l ∧ Wf r ∧ rs ≠ [] ∧ (0 ≤ hid ∧ hid ≤ 1048576) ∧ t.row = l.row ++ (cellsOf rs hid ++ r.row) ∧ l.size < t.size ∧ r.size < t.size

set_option maxRecDepth 10000 in
theorem open_1 (A : Option Addr) (s : Sm) (l r : Tr) (rs : List Int) (hid plus : Int) (hw : Wf (.nd s l rs hid r plus)) : Sp Tryz.prog 75 [.pointer A] [] [TrF A (.nd s l rs hid r plus)] (OpenP (.nd s l rs hid r plus)) := by
 have ho := hw.opened
 have hpl := ho.plusB
 have hhb := ho.hidB
 have hwl := hw.1
 have hwr := hw.2.1
 refine Sp.of (n := 37) ⟨_, Tryz.func75, rfl, rfl, rfl, rfl⟩ (Nat.le_of_ble_eq_true rfl) fun Ps As => WC_node M0 fun b Al Ar Ac cc e => ?_
 cases e
 refine WC_seq (WC_region (Lq (q_assign rfl) (WL_main rfl (OW_alloc (cs := [_, _]) ti102 rfl (by decide) fun b3 => Lq (q_assign rfl) (WL_nil (thenN (WC_seq (WC_region (Lq (q_move rfl) (Lq (q_nil rfl) (Lq (q_field (o' := _ + 8) Un104 rfl ti102 rfl rfl) (Lq (q_loadFN (k := 8) (vs := [_, _]) Un102 rfl ti102 rfl M0 rfl rfl rfl) (WL_main rfl (OW_alloc (cs := [_, _]) ti102 rfl (by decide) fun b5 => ?_))))))))))))))
 refine WL_main rfl (OW_storeN (cs' := [_, _]) (vs := [_, _]) ti102 rfl rfl rfl rfl rfl (Nat.le_of_ble_eq_true rfl) (.z) (WL_nil (thenN (WC_seq (WC_draw _ _ [8] (.c 0 0 (.c 1 0 (.c 2 0 (.c 3 0 (.c 4 0 (.c 5 0 (.c 6 0 (.c 7 0 (.c 8 3 .nil))))))))) mixed (fun _ _ _ _ h => h) (Sk (Sk (Sr))) (fun _ h => h) (by kernel_rfl) (by decide) fun ws Z0 => Qe rfl (q_field (o' := 1) Un102 rfl ti3 rfl rfl) (Qe rfl (q_load1 Un3 rfl rfl own0 rfl) (Qe rfl (q_move rfl) (Qe rfl (q_nil rfl) (Qe rfl (q_field (o' := _ + 10) Un104 rfl ti3 rfl rfl) (Qe rfl (q_loadF1 (j := 10) Un3 rfl rfl M0 rfl rfl) (Qe rfl (q_add rfl rfl (wr64 (by omega))) ?_)))))))))))
 refine Qe rfl (q_field (o' := 1) Un102 rfl ti3 rfl rfl) (WE_end (WF_last rfl rfl (OW_store1 ti3 rfl rfl rfl (.s (.z)) (.z) (WF_nil (thenN (WC_fr [(5, _), (4, _), (3, _), (2, _), (0, _)] (.cons rfl (.cons rfl (.cons rfl (.cons rfl (.cons rfl (.nil _)))))) (WC_seq (WC_draw _ _ [20] (.c 0 0 (.c 1 0 (.c 2 0 (.c 3 0 (.c 4 0 (.c 5 0 (.c 6 0 (.c 7 0 (.c 9 0 (.c 10 0 (.c 11 0 (.c 12 0 (.c 13 0 (.c 14 0 (.c 15 0 (.c 16 0 (.c 17 0 (.c 8 2 (.c 18 2 (.c 19 0 (.c 20 3 (.c 21 1 .nil)))))))))))))))))))))) mixed (fun _ _ _ _ h => h) (Sk (Sk (Sr))) (fun _ h => h) (by kernel_rfl) (by decide) fun ws Z0 => Qe rfl (q_move rfl) (Qe rfl (q_nil rfl) (Qe rfl (q_field (o' := _ + 6) Un104 rfl ti70 rfl rfl) ?_))))))))))
 refine Qe rfl (q_loadF1 (j := 6) Un70 rfl rfl M1 rfl rfl) (Qe rfl (q_move rfl) (Qe rfl (q_nil rfl) (Qe rfl (q_field (o' := _ + 10) Un104 rfl ti3 rfl rfl) (Qe rfl (q_loadF1 (j := 10) Un3 rfl rfl M1 rfl rfl) (Qe rfl (q_loadN (vs := [_, _]) Un102 rfl ti102 rfl own0 rfl rfl) (Qe rfl (q_move rfl) (Qe rfl (q_nil rfl) (Qe rfl (q_field (o' := _ + 7) Un104 rfl ti70 rfl rfl) (Qe rfl (q_loadF1 (j := 7) Un70 rfl rfl M1 rfl rfl) ?_)))))))))
 refine Qe rfl (q_move rfl) (Qe rfl (q_nil rfl) (Qe rfl (q_field (o' := _ + 10) Un104 rfl ti3 rfl rfl) (Qe rfl (q_loadF1 (j := 10) Un3 rfl rfl M1 rfl rfl) (WE_main rfl rfl (OW_call0 (lift_s Al l plus hwl (by omega)) (.cons rfl (.cons rfl (.nil))) (by decide) (memc M3 mem0) fun u3_8 Lo fs hres => ?_)))))
 obtain ⟨Al2, rfl, rfl, rfl⟩ := hres
 refine ⟨⟨(Sk (Sk (Sr))), M1⟩, ?_⟩
 refine WE_main rfl rfl (OW_call0 (lift_s Ar r plus hwr (by omega)) (.cons rfl (.cons rfl (.nil))) (by decide) (memc M5 mem0) fun u3_18 Lo fs hres => ?_)
 obtain ⟨Ar2, rfl, rfl, rfl⟩ := hres
 refine ⟨⟨(Sk (Sk (Sr))), M2⟩, ?_⟩
 refine Qe rfl (q_assign rfl) (WE_end (WF_last rfl rfl (OW_storeN (cs' := [_, _]) (vs := [_, _]) ti102 rfl rfl rfl rfl rfl (Nat.le_of_ble_eq_true rfl) (.s (.z)) (WF_p rfl (q_assign rfl) (by decide) (WF_nil (thenN (WC_fr [(4, _), (2, _), (3, _)] (.cons rfl (.cons rfl (.cons rfl (.nil _)))) (WC_ret ?_))))))))
 refine ⟨_, [], [_, _, _], fun Z w hs => .tmp rfl (RV_ownN hs Un102 rfl ti102 rfl (ownS (own0)) rfl (.tmp rfl (.nil))), ?_, fun Z w hs => hs.out (Sd (Sd (Sr))) (memc M1 (memc M7 (memc M0 T8)))⟩
 exact ⟨_, liftF l plus, rs, hid + plus, Ac, cc, _, liftF r plus, rfl, rfl, rfl, ho.wl, ho.wr, ho.ne, hhb, ho.row, by rw [size_lift]; simp only [Tr.size]; omega, by rw [size_lift]; simp only [Tr.size]; omega⟩

theorem open_r (A : Option Addr) (t : Tr) (hw : Wf t) (ht : t ≠ .nil) (hb : t.row.length ≤ 1073741824) : Sp Tryz.prog 75 [.pointer A] [] [TrF A t] (OpenP t) := by
 cases t with
 | nil => exact absurd rfl ht
 | nd s l rs hid r plus => exact open_1 A s l r rs hid plus hw
def NP (row : List Ce) : Value → List Part → List Fact → Prop := fun v Lo fs => ∃ (A : Option Addr) (t : Tr), v = .pointer A ∧ Lo = [] ∧ fs = [TrF A t] ∧ Wf t ∧ t.row = row
theorem knot_r (Al Ar Ac : Option Addr) (c : Nat) (l r : Tr) (rs : List Int) (hid : Int) (hl : Wf l) (hr : Wf r) (hn : rs ≠ []) (hh : 0 ≤ hid ∧ hid ≤ 1048576) (hb : l.row.length + rs.length + r.row.length ≤ 1073741824) : Sp Tryz.prog 80 [.pointer Al, pcV rs hid Ac c, .pointer Ar] [] [TrF Al l, TrF Ar r, RdF runeD Ac c rs] (NP (l.row ++ (cellsOf rs hid ++ r.row))) := by
 obtain ⟨a1, a2, a3, a4⟩ := hl.sm40 (by omega)
 obtain ⟨b1, b2, b3, b4⟩ := hr.sm40 (by omega)
 obtain ⟨k1, k2⟩ := wf_knot hl hr hn hh
 refine (knot_s Al Ar Ac c l r rs hid ⟨a1, a2, a3, a4⟩ ⟨b1, b2, b3, b4⟩ (by omega)).mono ?_
 rintro v Lo fs ⟨A, rfl, rfl, rfl⟩
 exact ⟨A, _, rfl, rfl, rfl, k1, k2⟩
theorem wnilT : Wf .nil := trivial
end Go.Proofs.YtcjbjkbghgjmdaaGreatDoor
/- Walks: rope, weigh, join. -/
namespace Go.Proofs.YtcjbjkbghgjmdaaGreatDoor
open Go Go.GW
theorem nn {t : Tr} (h : 0 < (allF t).ht) : t ≠ .nil := fun e => by subst e; simp [allF, zeroSm] at h
theorem fd112_2Xw24 (x0 : Int) (x1 : Int) (x2 : Int) (x3 : Int) (x4 : Int) (x5 : Int) (w : World) : (Instr.field 69 (.agg #[.int .i64 x0, .int .i64 x1, .int .i64 x2, .int .i64 x3, .int .i64 x4, .int .i64 x5]) 2).run Tryz.prog w = .ok (.int .i64 x2) w := by kernel_rfl

set_option maxRecDepth 10000 in
theorem weigh_r (Al Ar Ac : Option Addr) (c : Nat) (l r : Tr) (rs : List Int) (hid : Int) (wl : Wf l) (wr : Wf r) (n0 : rs ≠ []) (h0 : 0 ≤ hid ∧ hid ≤ 1048576) (hb : l.row.length + rs.length + r.row.length ≤ 1073741824) : Sp Tryz.prog 95 [.pointer Al, pcV rs hid Ac c, .pointer Ar] [] [TrF Al l, TrF Ar r, RdF runeD Ac c rs] (NP (l.row ++ (cellsOf rs hid ++ r.row))) := by
 have bl := wl.sm40 (by omega)
 have br := wr.sm40 (by omega)
 refine Sp.of (n := 113) ⟨_, Tryz.func95, rfl, rfl, rfl, rfl⟩ (Nat.le_of_ble_eq_true rfl) fun Ps As => WC_seq (WC_region (WL_main rfl (OW_box (cs := [_, _]) rfl rfl (by decide) fun b4 => Lq (q_assign rfl) (WL_nil (thenN (WC_seq (WC_region (Lq (q_move rfl) (WL_main rfl (OW_call0 (all_s Al l) (.cons rfl (.nil)) (by decide) (memc M0 mem0) fun u1_1 Lo fs hres => ?_))))))))))
 obtain ⟨rfl, rfl, rfl⟩ := hres
 refine Lq (q_part rfl (fd112_2Xw24 _ _ _ _ _ _)) (Lq (q_move rfl) (WL_main rfl (OW_call0 (all_s Ar r) (.cons rfl (.nil)) (by decide) (memc M1 mem0) fun u1_4 Lo fs hres => ?_)))
 obtain ⟨rfl, rfl, rfl⟩ := hres
 refine Lq (q_part rfl (fd112_2Xw24 _ _ _ _ _ _)) (Lq (q_assign rfl) (Lq (q_assign rfl) (WL_nil (thenN (WC_seq (WC_block (WC_seq (WC_region (Lq (q_move rfl) (Lq (q_move rfl) (Lq (q_add rfl rfl (wr64 (by omega))) (Lq (q_gtr rfl rfl) (Lq (q_assign rfl) (WL_nil (thenN ?_)))))))))))))))
 refine WC_fr [(27, _), (8, _), (7, _), (6, _), (4, _), (0, _), (2, _)] (.cons rfl (.cons rfl (.cons rfl (.cons rfl (.cons rfl (.cons rfl (.cons rfl (.nil _)))))))) (WC_cond rfl (fun h27 => ?_) (fun h27 => ?_))
 ·refine WC_seq (WC_region (Lq (q_move rfl) (WL_main rfl (OW_call0 (open_r Al l wl (nn (by have := wr.bd; simp only [decide_eq_true_eq] at h27; omega)) (by omega)) (.cons rfl (.nil)) (by decide) (memc M0 mem0) fun u3_1 Lo fs hres => ?_))))
  obtain ⟨B1, l1, s1, k1, C1, d1, D1, m1, rfl, rfl, rfl, wl1, wm1, n1, h1, r1, zl1, zm1⟩ := hres
  have e1 := congrArg List.length r1
  simp only [List.length_append, cellsOf_length, Tr.row, List.length_nil, List.length_take, List.length_drop] at e1
  refine Lq (q_move rfl) (Lq (q_extract (vs := [_, _, _]) rfl rfl) (Lq (q_extract (vs := [_, _, _]) rfl rfl) (Lq (q_extract (vs := [_, _, _]) rfl rfl) (WL_main rfl (OW_alloc (cs := [_, _]) ti102 rfl (by decide) fun b10 => Lq (q_assign rfl) (WL_main rfl (OW_storeN (cs' := [_, _]) (vs := [_, _]) ti102 rfl rfl rfl rfl rfl (Nat.le_of_ble_eq_true rfl) (.z) (Lq (q_assign rfl) (WL_nil (thenN (WC_fr [(11, _), (9, _), (10, _), (6, _), (4, _), (0, _), (2, _)] (.cons rfl (.cons rfl (.cons rfl (.cons rfl (.cons rfl (.cons rfl (.cons rfl (.nil _)))))))) ?_)))))))))))
  refine WC_seq (WC_seq (WC_region (Lq (q_move rfl) (WL_main rfl (OW_call0 (all_s B1 l1) (.cons rfl (.nil)) (by decide) (memc M0 mem0) fun u4_1 Lo fs hres => ?_)))))
  obtain ⟨rfl, rfl, rfl⟩ := hres
  refine Lq (q_part rfl (fd112_2Xw24 _ _ _ _ _ _)) (Lq (q_move rfl) (WL_main rfl (OW_call0 (all_s D1 m1) (.cons rfl (.nil)) (by decide) (memc M2 mem0) fun u4_4 Lo fs hres => ?_)))
  obtain ⟨rfl, rfl, rfl⟩ := hres
  refine Lq (q_part rfl (fd112_2Xw24 _ _ _ _ _ _)) (Lq (q_geq rfl rfl) (WL_nil (thenN (WC_fr [(44, _), (11, _), (9, _), (10, _), (6, _), (4, _), (0, _), (2, _)] (.cons rfl (.cons rfl (.cons rfl (.cons rfl (.cons rfl (.cons rfl (.cons rfl (.cons rfl (.nil _))))))))) (WC_cond rfl (fun h44 => ?_) (fun h44 => ?_))))))
  ·refine WC_seq (WC_draw _ _ [] (.c 0 0 (.c 1 0 (.c 2 0 (.c 3 0 (.c 4 0 (.c 5 2 (.c 6 2 (.c 7 0 .nil)))))))) mixed (fun _ _ _ _ h => h) (Sk (Sk (Sr))) (fun _ h => h) (by kernel_rfl) (by decide) fun ws Z0 => Qe rfl (q_move rfl) (Qe rfl (q_loadN (vs := [_, _]) Un102 rfl ti102 rfl own0 rfl rfl) (Qe rfl (q_move rfl) (Qe rfl (q_loadN (vs := [_, _]) Un102 rfl ti102 rfl (ownS (own0)) rfl rfl) (Qe rfl (q_move rfl) (WE_main rfl rfl (OW_call0 (knot_r D1 Ar Ac c m1 r rs hid wm1 wr n0 h0 (by omega)) (.cons rfl (.cons rfl (.cons rfl (.nil)))) (by decide) (memc M3 (memc M5 (memc M6 mem0))) fun u5_5 Lo fs hres => ?_)))))))
   obtain ⟨T2, t2, rfl, rfl, rfl, wt2, r2⟩ := hres
   have e2 := congrArg List.length r2
   simp only [List.length_append, cellsOf_length, Tr.row, List.length_nil, List.length_take, List.length_drop] at e2
   refine ⟨⟨(Sk (Sk (Sr))), M1⟩, ?_⟩
   refine WE_main rfl rfl (OW_call0 (knot_r B1 T2 C1 d1 l1 t2 s1 k1 wl1 wt2 n1 h1 (by omega)) (.cons rfl (.cons rfl (.cons rfl (.nil)))) (by decide) (memc M2 (memc M0 (memc M3 mem0))) fun u5_6 Lo fs hres => ?_)
   obtain ⟨T3, t3, rfl, rfl, rfl, wt3, r3⟩ := hres
   have e3 := congrArg List.length r3
   simp only [List.length_append, cellsOf_length, Tr.row, List.length_nil, List.length_take, List.length_drop] at e3
   refine ⟨⟨(Sk (Sk (Sr))), M2⟩, ?_⟩
   refine Qe rfl (q_assign rfl) (WE_end (WF_nil (thenN (WC_fr [(6, _), (11, _), (9, _), (10, _), (4, _), (0, _), (2, _)] (.cons rfl (.cons rfl (.cons rfl (.cons rfl (.cons rfl (.cons rfl (.cons rfl (.nil _)))))))) (WC_ret (thenRet (blockRet (thenRet ?_))))))))
   refine ⟨_, [], [_], fun Z w hs => .tmp rfl (.nil), ?_, fun Z w hs => hs.out (Sd (Sd (Sr))) (memc M0 T6)⟩
   exact ⟨_, _, rfl, rfl, rfl, wt3, by simp only [r1, r2, r3, List.append_assoc, Tr.row, List.nil_append, List.append_nil]⟩
  ·refine WC_skip (thenN (WC_seq (WC_region (Lq (q_move rfl) (WL_main rfl (OW_call0 (open_r D1 m1 wm1 (nn (by have := wl1.bd; simp only [decide_eq_false_iff_not] at h44; omega)) (by omega)) (.cons rfl (.nil)) (by decide) (memc M2 mem0) fun u6_1 Lo fs hres => ?_))))))
   obtain ⟨B4, l4, s4, k4, C4, d4, D4, m4, rfl, rfl, rfl, wl4, wm4, n4, h4, r4, zl4, zm4⟩ := hres
   have e4 := congrArg List.length r4
   simp only [List.length_append, cellsOf_length, Tr.row, List.length_nil, List.length_take, List.length_drop] at e4
   refine Lq (q_move rfl) (Lq (q_extract (vs := [_, _, _]) rfl rfl) (Lq (q_extract (vs := [_, _, _]) rfl rfl) (Lq (q_extract (vs := [_, _, _]) rfl rfl) (WL_main rfl (OW_alloc (cs := [_, _]) ti102 rfl (by decide) fun b13 => Lq (q_assign rfl) (WL_main rfl (OW_storeN (cs' := [_, _]) (vs := [_, _]) ti102 rfl rfl rfl rfl rfl (Nat.le_of_ble_eq_true rfl) (.z) (Lq (q_assign rfl) (WL_nil (thenN (WC_fr [(14, _), (12, _), (13, _), (9, _), (10, _), (6, _), (4, _), (0, _), (2, _)] (.cons rfl (.cons rfl (.cons rfl (.cons rfl (.cons rfl (.cons rfl (.cons rfl (.cons rfl (.cons rfl (.nil _)))))))))) ?_)))))))))))
   refine WC_seq (WC_draw _ _ [] (.c 0 0 (.c 1 0 (.c 2 0 (.c 4 0 (.c 5 0 (.c 6 0 (.c 7 0 (.c 3 2 (.c 8 2 (.c 9 2 (.c 10 0 .nil))))))))))) mixed (fun _ _ _ _ h => h) (Sk (Sk (Sk (Sr)))) (fun _ h => h) (by kernel_rfl) (by decide) fun ws Z0 => Qe rfl (q_move rfl) (Qe rfl (q_loadN (vs := [_, _]) Un102 rfl ti102 rfl (ownS (own0)) rfl rfl) (Qe rfl (q_move rfl) (Qe rfl (q_loadN (vs := [_, _]) Un102 rfl ti102 rfl own0 rfl rfl) (Qe rfl (q_move rfl) (Qe rfl (q_loadN (vs := [_, _]) Un102 rfl ti102 rfl (ownS (ownS (own0))) rfl rfl) (Qe rfl (q_move rfl) ?_)))))))
   refine WE_main rfl rfl (OW_call0 (knot_r B1 B4 C1 d1 l1 l4 s1 k1 wl1 wl4 n1 h1 (by omega)) (.cons rfl (.cons rfl (.cons rfl (.nil)))) (by decide) (memc M4 (memc M1 (memc M5 mem0))) fun u7_3 Lo fs hres => ?_)
   obtain ⟨T5, t5, rfl, rfl, rfl, wt5, r5⟩ := hres
   have e5 := congrArg List.length r5
   simp only [List.length_append, cellsOf_length, Tr.row, List.length_nil, List.length_take, List.length_drop] at e5
   refine ⟨⟨(Sk (Sk (Sk (Sr)))), M1⟩, ?_⟩
   refine WE_main rfl rfl (OW_call0 (knot_r D4 Ar Ac c m4 r rs hid wm4 wr n0 h0 (by omega)) (.cons rfl (.cons rfl (.cons rfl (.nil)))) (by decide) (memc M4 (memc M9 (memc M10 mem0))) fun u7_8 Lo fs hres => ?_)
   obtain ⟨T6, t6, rfl, rfl, rfl, wt6, r6⟩ := hres
   have e6 := congrArg List.length r6
   simp only [List.length_append, cellsOf_length, Tr.row, List.length_nil, List.length_take, List.length_drop] at e6
   refine ⟨⟨(Sk (Sk (Sk (Sr)))), M2⟩, ?_⟩
   refine WE_main rfl rfl (OW_call0 (knot_r T5 T6 C4 d4 t5 t6 s4 k4 wt5 wt6 n4 h4 (by omega)) (.cons rfl (.cons rfl (.cons rfl (.nil)))) (by decide) (memc M1 (memc M0 (memc M4 mem0))) fun u7_9 Lo fs hres => ?_)
   obtain ⟨T7, t7, rfl, rfl, rfl, wt7, r7⟩ := hres
   have e7 := congrArg List.length r7
   simp only [List.length_append, cellsOf_length, Tr.row, List.length_nil, List.length_take, List.length_drop] at e7
   refine ⟨⟨(Sk (Sk (Sk (Sr)))), M3⟩, ?_⟩
   refine Qe rfl (q_assign rfl) (WE_end (WF_nil (thenN (WC_fr [(6, _), (4, _), (0, _), (2, _)] (.cons rfl (.cons rfl (.cons rfl (.cons rfl (.nil _))))) (WC_ret (blockRet (thenRet ?_)))))))
   refine ⟨_, [], [_], fun Z w hs => .tmp rfl (.nil), ?_, fun Z w hs => hs.out (Sd (Sd (Sd (Sr)))) (memc M0 T10)⟩
   exact ⟨_, _, rfl, rfl, rfl, wt7, by simp only [r1, r4, r5, r6, r7, List.append_assoc, Tr.row, List.nil_append, List.append_nil]⟩
 ·refine WC_seq (WC_region (Lq (q_move rfl) (Lq (q_move rfl) (Lq (q_add rfl rfl (wr64 (by omega))) (Lq (q_gtr rfl rfl) (Lq (q_assign rfl) (WL_nil (thenN (WC_cond rfl (fun h68 => ?_) (fun h68 => ?_))))))))))
  ·refine WC_seq (WC_region (Lq (q_move rfl) (WL_main rfl (OW_call0 (open_r Ar r wr (nn (by have := wl.bd; simp only [decide_eq_true_eq] at h68; omega)) (by omega)) (.cons rfl (.nil)) (by decide) (memc M1 mem0) fun u9_1 Lo fs hres => ?_))))
   obtain ⟨B8, l8, s8, k8, C8, d8, D8, m8, rfl, rfl, rfl, wl8, wm8, n8, h8, r8, zl8, zm8⟩ := hres
   have e8 := congrArg List.length r8
   simp only [List.length_append, cellsOf_length, Tr.row, List.length_nil, List.length_take, List.length_drop] at e8
   refine Lq (q_move rfl) (Lq (q_extract (vs := [_, _, _]) rfl rfl) (Lq (q_extract (vs := [_, _, _]) rfl rfl) (Lq (q_extract (vs := [_, _, _]) rfl rfl) (WL_main rfl (OW_alloc (cs := [_, _]) ti102 rfl (by decide) fun b16 => Lq (q_assign rfl) (WL_main rfl (OW_storeN (cs' := [_, _]) (vs := [_, _]) ti102 rfl rfl rfl rfl rfl (Nat.le_of_ble_eq_true rfl) (.z) (Lq (q_assign rfl) (WL_nil (thenN (WC_fr [(17, _), (15, _), (16, _), (6, _), (4, _), (0, _), (2, _)] (.cons rfl (.cons rfl (.cons rfl (.cons rfl (.cons rfl (.cons rfl (.cons rfl (.nil _)))))))) ?_)))))))))))
   refine WC_seq (WC_seq (WC_region (Lq (q_move rfl) (WL_main rfl (OW_call0 (all_s D8 m8) (.cons rfl (.nil)) (by decide) (memc M2 mem0) fun u10_1 Lo fs hres => ?_)))))
   obtain ⟨rfl, rfl, rfl⟩ := hres
   refine Lq (q_part rfl (fd112_2Xw24 _ _ _ _ _ _)) (Lq (q_move rfl) (WL_main rfl (OW_call0 (all_s B8 l8) (.cons rfl (.nil)) (by decide) (memc M0 mem0) fun u10_4 Lo fs hres => ?_)))
   obtain ⟨rfl, rfl, rfl⟩ := hres
   refine Lq (q_part rfl (fd112_2Xw24 _ _ _ _ _ _)) (Lq (q_geq rfl rfl) (WL_nil (thenN (WC_fr [(85, _), (17, _), (15, _), (16, _), (6, _), (4, _), (0, _), (2, _)] (.cons rfl (.cons rfl (.cons rfl (.cons rfl (.cons rfl (.cons rfl (.cons rfl (.cons rfl (.nil _))))))))) (WC_cond rfl (fun h85 => ?_) (fun h85 => ?_))))))
   ·refine WC_seq (WC_draw _ _ [] (.c 0 0 (.c 1 0 (.c 2 0 (.c 4 0 (.c 5 0 (.c 3 2 (.c 6 2 (.c 7 0 .nil)))))))) mixed (fun _ _ _ _ h => h) (Sk (Sk (Sr))) (fun _ h => h) (by kernel_rfl) (by decide) fun ws Z0 => Qe rfl (q_move rfl) (Qe rfl (q_loadN (vs := [_, _]) Un102 rfl ti102 rfl (ownS (own0)) rfl rfl) (Qe rfl (q_move rfl) (Qe rfl (q_loadN (vs := [_, _]) Un102 rfl ti102 rfl own0 rfl rfl) (Qe rfl (q_move rfl) (WE_main rfl rfl (OW_call0 (knot_r Al B8 Ac c l l8 rs hid wl wl8 n0 h0 (by omega)) (.cons rfl (.cons rfl (.cons rfl (.nil)))) (by decide) (memc M4 (memc M1 (memc M6 mem0))) fun u11_3 Lo fs hres => ?_)))))))
    obtain ⟨T9, t9, rfl, rfl, rfl, wt9, r9⟩ := hres
    have e9 := congrArg List.length r9
    simp only [List.length_append, cellsOf_length, Tr.row, List.length_nil, List.length_take, List.length_drop] at e9
    refine ⟨⟨(Sk (Sk (Sr))), M1⟩, ?_⟩
    refine WE_main rfl rfl (OW_call0 (knot_r T9 D8 C8 d8 t9 m8 s8 k8 wt9 wm8 n8 h8 (by omega)) (.cons rfl (.cons rfl (.cons rfl (.nil)))) (by decide) (memc M0 (memc M4 (memc M3 mem0))) fun u11_6 Lo fs hres => ?_)
    obtain ⟨T10, t10, rfl, rfl, rfl, wt10, r10⟩ := hres
    have e10 := congrArg List.length r10
    simp only [List.length_append, cellsOf_length, Tr.row, List.length_nil, List.length_take, List.length_drop] at e10
    refine ⟨⟨(Sk (Sk (Sr))), M2⟩, ?_⟩
    refine Qe rfl (q_assign rfl) (WE_end (WF_nil (thenN (WC_fr [(6, _), (17, _), (15, _), (16, _), (4, _), (0, _), (2, _)] (.cons rfl (.cons rfl (.cons rfl (.cons rfl (.cons rfl (.cons rfl (.cons rfl (.nil _)))))))) (WC_ret (thenRet (blockRet (thenRet ?_))))))))
    refine ⟨_, [], [_], fun Z w hs => .tmp rfl (.nil), ?_, fun Z w hs => hs.out (Sd (Sd (Sr))) (memc M0 T6)⟩
    exact ⟨_, _, rfl, rfl, rfl, wt10, by simp only [r8, r9, r10, List.append_assoc, Tr.row, List.nil_append, List.append_nil]⟩
   ·refine WC_skip (thenN (WC_seq (WC_region (Lq (q_move rfl) (WL_main rfl (OW_call0 (open_r B8 l8 wl8 (nn (by have := wm8.bd; simp only [decide_eq_false_iff_not] at h85; omega)) (by omega)) (.cons rfl (.nil)) (by decide) (memc M0 mem0) fun u12_1 Lo fs hres => ?_))))))
    obtain ⟨B11, l11, s11, k11, C11, d11, D11, m11, rfl, rfl, rfl, wl11, wm11, n11, h11, r11, zl11, zm11⟩ := hres
    have e11 := congrArg List.length r11
    simp only [List.length_append, cellsOf_length, Tr.row, List.length_nil, List.length_take, List.length_drop] at e11
    refine Lq (q_move rfl) (Lq (q_extract (vs := [_, _, _]) rfl rfl) (Lq (q_extract (vs := [_, _, _]) rfl rfl) (Lq (q_extract (vs := [_, _, _]) rfl rfl) (WL_main rfl (OW_alloc (cs := [_, _]) ti102 rfl (by decide) fun b19 => Lq (q_assign rfl) (WL_main rfl (OW_storeN (cs' := [_, _]) (vs := [_, _]) ti102 rfl rfl rfl rfl rfl (Nat.le_of_ble_eq_true rfl) (.z) (Lq (q_assign rfl) (WL_nil (thenN (WC_fr [(20, _), (18, _), (19, _), (17, _), (16, _), (6, _), (4, _), (0, _), (2, _)] (.cons rfl (.cons rfl (.cons rfl (.cons rfl (.cons rfl (.cons rfl (.cons rfl (.cons rfl (.cons rfl (.nil _)))))))))) ?_)))))))))))
    refine WC_seq (WC_draw _ _ [] (.c 0 0 (.c 1 0 (.c 2 0 (.c 4 0 (.c 5 0 (.c 6 0 (.c 7 0 (.c 3 2 (.c 8 2 (.c 9 2 (.c 10 0 .nil))))))))))) mixed (fun _ _ _ _ h => h) (Sk (Sk (Sk (Sr)))) (fun _ h => h) (by kernel_rfl) (by decide) fun ws Z0 => Qe rfl (q_move rfl) (Qe rfl (q_loadN (vs := [_, _]) Un102 rfl ti102 rfl (ownS (ownS (own0))) rfl rfl) (Qe rfl (q_move rfl) (Qe rfl (q_loadN (vs := [_, _]) Un102 rfl ti102 rfl own0 rfl rfl) (Qe rfl (q_move rfl) (Qe rfl (q_loadN (vs := [_, _]) Un102 rfl ti102 rfl (ownS (own0)) rfl rfl) (Qe rfl (q_move rfl) ?_)))))))
    refine WE_main rfl rfl (OW_call0 (knot_r Al B11 Ac c l l11 rs hid wl wl11 n0 h0 (by omega)) (.cons rfl (.cons rfl (.cons rfl (.nil)))) (by decide) (memc M7 (memc M1 (memc M9 mem0))) fun u13_3 Lo fs hres => ?_)
    obtain ⟨T12, t12, rfl, rfl, rfl, wt12, r12⟩ := hres
    have e12 := congrArg List.length r12
    simp only [List.length_append, cellsOf_length, Tr.row, List.length_nil, List.length_take, List.length_drop] at e12
    refine ⟨⟨(Sk (Sk (Sk (Sr)))), M1⟩, ?_⟩
    refine WE_main rfl rfl (OW_call0 (knot_r D11 D8 C8 d8 m11 m8 s8 k8 wm11 wm8 n8 h8 (by omega)) (.cons rfl (.cons rfl (.cons rfl (.nil)))) (by decide) (memc M4 (memc M7 (memc M6 mem0))) fun u13_8 Lo fs hres => ?_)
    obtain ⟨T13, t13, rfl, rfl, rfl, wt13, r13⟩ := hres
    have e13 := congrArg List.length r13
    simp only [List.length_append, cellsOf_length, Tr.row, List.length_nil, List.length_take, List.length_drop] at e13
    refine ⟨⟨(Sk (Sk (Sk (Sr)))), M2⟩, ?_⟩
    refine WE_main rfl rfl (OW_call0 (knot_r T12 T13 C11 d11 t12 t13 s11 k11 wt12 wt13 n11 h11 (by omega)) (.cons rfl (.cons rfl (.cons rfl (.nil)))) (by decide) (memc M1 (memc M0 (memc M4 mem0))) fun u13_9 Lo fs hres => ?_)
    obtain ⟨T14, t14, rfl, rfl, rfl, wt14, r14⟩ := hres
    have e14 := congrArg List.length r14
    simp only [List.length_append, cellsOf_length, Tr.row, List.length_nil, List.length_take, List.length_drop] at e14
    refine ⟨⟨(Sk (Sk (Sk (Sr)))), M3⟩, ?_⟩
    refine Qe rfl (q_assign rfl) (WE_end (WF_nil (thenN (WC_fr [(6, _), (4, _), (0, _), (2, _)] (.cons rfl (.cons rfl (.cons rfl (.cons rfl (.nil _))))) (WC_ret (blockRet (thenRet ?_)))))))
    refine ⟨_, [], [_], fun Z w hs => .tmp rfl (.nil), ?_, fun Z w hs => hs.out (Sd (Sd (Sd (Sr)))) (memc M0 T10)⟩
    exact ⟨_, _, rfl, rfl, rfl, wt14, by simp only [r8, r11, r12, r13, r14, List.append_assoc, Tr.row, List.nil_append, List.append_nil]⟩
  ·refine WC_skip (blockN (thenN (WC_seq (WC_region (Lq (q_move rfl) (Lq (q_loadN (vs := [_, _]) Un102 rfl ti102 rfl own0 rfl rfl) (Lq (q_move rfl) (WL_main rfl (OW_call0 (knot_r Al Ar Ac c l r rs hid wl wr n0 h0 (by omega)) (.cons rfl (.cons rfl (.cons rfl (.nil)))) (by decide) (memc M0 (memc M1 (memc M2 mem0))) fun u14_3 Lo fs hres => ?_)))))))))
   obtain ⟨T15, t15, rfl, rfl, rfl, wt15, r15⟩ := hres
   have e15 := congrArg List.length r15
   simp only [List.length_append, cellsOf_length, Tr.row, List.length_nil, List.length_take, List.length_drop] at e15
   refine Lq (q_assign rfl) (WL_nil (thenN (WC_fr [(6, _)] (.cons rfl (.nil _)) (WC_ret ?_))))
   refine ⟨_, [], [_], fun Z w hs => .tmp rfl (.nil), ?_, fun Z w hs => hs.out (Sd (Sr)) (fun _ h => h)⟩
   exact ⟨_, _, rfl, rfl, rfl, wt15, by simp only [r15, List.append_assoc, Tr.row, List.nil_append, List.append_nil]⟩


set_option maxRecDepth 10000 in
theorem join_n (N : Nat) : ∀ (Al Ar Ac : Option Addr) (c : Nat) (l r : Tr) (rs : List Int) (hid : Int) (wl : Wf l) (wr : Wf r) (n0 : rs ≠ []) (h0 : 0 ≤ hid ∧ hid ≤ 1048576) (hb : l.row.length + rs.length + r.row.length ≤ 1073741824), l.size + r.size ≤ N → Sp Tryz.prog 76 [.pointer Al, pcV rs hid Ac c, .pointer Ar] [] [TrF Al l, TrF Ar r, RdF runeD Ac c rs] (NP (l.row ++ (cellsOf rs hid ++ r.row))) := by
 induction N using Nat.strongRecOn
 rename_i N ih
 intro Al Ar Ac c l r rs hid wl wr n0 h0 hb hN
 have bl := wl.sm40 (by omega)
 have br := wr.sm40 (by omega)
 refine Sp.of (n := 61) ⟨_, Tryz.func76, rfl, rfl, rfl, rfl⟩ (Nat.le_of_ble_eq_true rfl) fun Ps As => WC_seq (WC_region (WL_main rfl (OW_box (cs := [_, _]) rfl rfl (by decide) fun b4 => Lq (q_assign rfl) (WL_nil (thenN (WC_seq (WC_region (Lq (q_move rfl) (WL_main rfl (OW_call0 (all_s Al l) (.cons rfl (.nil)) (by decide) (memc M0 mem0) fun u1_1 Lo fs hres => ?_))))))))))
 obtain ⟨rfl, rfl, rfl⟩ := hres
 refine Lq (q_part rfl (fd112_2Xw24 _ _ _ _ _ _)) (Lq (q_move rfl) (WL_main rfl (OW_call0 (all_s Ar r) (.cons rfl (.nil)) (by decide) (memc M1 mem0) fun u1_4 Lo fs hres => ?_)))
 obtain ⟨rfl, rfl, rfl⟩ := hres
 refine Lq (q_part rfl (fd112_2Xw24 _ _ _ _ _ _)) (Lq (q_assign rfl) (Lq (q_assign rfl) (WL_nil (thenN (WC_seq (WC_block (WC_seq (WC_region (Lq (q_move rfl) (Lq (q_move rfl) (Lq (q_add rfl rfl (wr64 (by omega))) (Lq (q_gtr rfl rfl) (Lq (q_assign rfl) (WL_nil (thenN ?_)))))))))))))))
 refine WC_fr [(21, _), (8, _), (7, _), (6, _), (4, _), (0, _), (2, _)] (.cons rfl (.cons rfl (.cons rfl (.cons rfl (.cons rfl (.cons rfl (.cons rfl (.nil _)))))))) (WC_cond rfl (fun h21 => ?_) (fun h21 => ?_))
 ·refine WC_seq (WC_region (Lq (q_move rfl) (WL_main rfl (OW_call0 (open_r Al l wl (nn (by have := wr.bd; simp only [decide_eq_true_eq] at h21; omega)) (by omega)) (.cons rfl (.nil)) (by decide) (memc M0 mem0) fun u3_1 Lo fs hres => ?_))))
  obtain ⟨B16, l16, s16, k16, C16, d16, D16, m16, rfl, rfl, rfl, wl16, wm16, n16, h16, r16, zl16, zm16⟩ := hres
  have e16 := congrArg List.length r16
  simp only [List.length_append, cellsOf_length, Tr.row, List.length_nil, List.length_take, List.length_drop] at e16
  refine Lq (q_move rfl) (Lq (q_extract (vs := [_, _, _]) rfl rfl) (Lq (q_extract (vs := [_, _, _]) rfl rfl) (Lq (q_extract (vs := [_, _, _]) rfl rfl) (WL_main rfl (OW_alloc (cs := [_, _]) ti102 rfl (by decide) fun b10 => Lq (q_assign rfl) (WL_main rfl (OW_storeN (cs' := [_, _]) (vs := [_, _]) ti102 rfl rfl rfl rfl rfl (Nat.le_of_ble_eq_true rfl) (.z) (Lq (q_assign rfl) (WL_nil (thenN (WC_fr [(11, _), (9, _), (10, _), (6, _), (4, _), (0, _), (2, _)] (.cons rfl (.cons rfl (.cons rfl (.cons rfl (.cons rfl (.cons rfl (.cons rfl (.nil _)))))))) ?_)))))))))))
  refine WC_seq (WC_draw _ _ [] (.c 0 0 (.c 1 0 (.c 2 0 (.c 3 0 (.c 4 0 (.c 5 2 (.c 6 2 (.c 7 0 .nil)))))))) mixed (fun _ _ _ _ h => h) (Sk (Sk (Sr))) (fun _ h => h) (by kernel_rfl) (by decide) fun ws Z0 => Qe rfl (q_move rfl) (Qe rfl (q_loadN (vs := [_, _]) Un102 rfl ti102 rfl own0 rfl rfl) (Qe rfl (q_move rfl) (Qe rfl (q_loadN (vs := [_, _]) Un102 rfl ti102 rfl (ownS (own0)) rfl rfl) (Qe rfl (q_move rfl) ?_)))))
  refine WE_main rfl rfl (OW_call0 (ih (m16.size + r.size) (by omega) D16 Ar Ac c m16 r rs hid wm16 wr n0 h0 (by omega) (Nat.le_refl _)) (.cons rfl (.cons rfl (.cons rfl (.nil)))) (by decide) (memc M3 (memc M5 (memc M6 mem0))) fun u4_5 Lo fs hres => ?_)
  obtain ⟨T17, t17, rfl, rfl, rfl, wt17, r17⟩ := hres
  have e17 := congrArg List.length r17
  simp only [List.length_append, cellsOf_length, Tr.row, List.length_nil, List.length_take, List.length_drop] at e17
  refine ⟨⟨(Sk (Sk (Sr))), M1⟩, ?_⟩
  refine WE_main rfl rfl (OW_call0 (weigh_r B16 T17 C16 d16 l16 t17 s16 k16 wl16 wt17 n16 h16 (by omega)) (.cons rfl (.cons rfl (.cons rfl (.nil)))) (by decide) (memc M2 (memc M0 (memc M3 mem0))) fun u4_6 Lo fs hres => ?_)
  obtain ⟨T18, t18, rfl, rfl, rfl, wt18, r18⟩ := hres
  have e18 := congrArg List.length r18
  simp only [List.length_append, cellsOf_length, Tr.row, List.length_nil, List.length_take, List.length_drop] at e18
  refine ⟨⟨(Sk (Sk (Sr))), M2⟩, ?_⟩
  refine Qe rfl (q_assign rfl) (WE_end (WF_nil (thenN (WC_fr [(6, _), (4, _), (0, _), (2, _)] (.cons rfl (.cons rfl (.cons rfl (.cons rfl (.nil _))))) (WC_ret (blockRet (thenRet ?_)))))))
  refine ⟨_, [], [_], fun Z w hs => .tmp rfl (.nil), ?_, fun Z w hs => hs.out (Sd (Sd (Sr))) (memc M0 T6)⟩
  exact ⟨_, _, rfl, rfl, rfl, wt18, by simp only [r16, r17, r18, List.append_assoc, Tr.row, List.nil_append, List.append_nil]⟩
 ·refine WC_seq (WC_region (Lq (q_move rfl) (Lq (q_move rfl) (Lq (q_add rfl rfl (wr64 (by omega))) (Lq (q_gtr rfl rfl) (Lq (q_assign rfl) (WL_nil (thenN (WC_cond rfl (fun h39 => ?_) (fun h39 => ?_))))))))))
  ·refine WC_seq (WC_region (Lq (q_move rfl) (WL_main rfl (OW_call0 (open_r Ar r wr (nn (by have := wl.bd; simp only [decide_eq_true_eq] at h39; omega)) (by omega)) (.cons rfl (.nil)) (by decide) (memc M1 mem0) fun u6_1 Lo fs hres => ?_))))
   obtain ⟨B19, l19, s19, k19, C19, d19, D19, m19, rfl, rfl, rfl, wl19, wm19, n19, h19, r19, zl19, zm19⟩ := hres
   have e19 := congrArg List.length r19
   simp only [List.length_append, cellsOf_length, Tr.row, List.length_nil, List.length_take, List.length_drop] at e19
   refine Lq (q_move rfl) (Lq (q_extract (vs := [_, _, _]) rfl rfl) (Lq (q_extract (vs := [_, _, _]) rfl rfl) (Lq (q_extract (vs := [_, _, _]) rfl rfl) (WL_main rfl (OW_alloc (cs := [_, _]) ti102 rfl (by decide) fun b13 => Lq (q_assign rfl) (WL_main rfl (OW_storeN (cs' := [_, _]) (vs := [_, _]) ti102 rfl rfl rfl rfl rfl (Nat.le_of_ble_eq_true rfl) (.z) (Lq (q_assign rfl) (WL_nil (thenN (WC_fr [(14, _), (12, _), (13, _), (6, _), (4, _), (0, _), (2, _)] (.cons rfl (.cons rfl (.cons rfl (.cons rfl (.cons rfl (.cons rfl (.cons rfl (.nil _)))))))) ?_)))))))))))
   refine WC_seq (WC_draw _ _ [] (.c 0 0 (.c 1 0 (.c 2 0 (.c 4 0 (.c 5 0 (.c 3 2 (.c 6 2 (.c 7 0 .nil)))))))) mixed (fun _ _ _ _ h => h) (Sk (Sk (Sr))) (fun _ h => h) (by kernel_rfl) (by decide) fun ws Z0 => Qe rfl (q_move rfl) (Qe rfl (q_loadN (vs := [_, _]) Un102 rfl ti102 rfl (ownS (own0)) rfl rfl) (Qe rfl (q_move rfl) (Qe rfl (q_loadN (vs := [_, _]) Un102 rfl ti102 rfl own0 rfl rfl) (Qe rfl (q_move rfl) (WE_main rfl rfl (OW_call0 (ih (l.size + l19.size) (by omega) Al B19 Ac c l l19 rs hid wl wl19 n0 h0 (by omega) (Nat.le_refl _)) (.cons rfl (.cons rfl (.cons rfl (.nil)))) (by decide) (memc M4 (memc M1 (memc M6 mem0))) fun u7_3 Lo fs hres => ?_)))))))
   obtain ⟨T20, t20, rfl, rfl, rfl, wt20, r20⟩ := hres
   have e20 := congrArg List.length r20
   simp only [List.length_append, cellsOf_length, Tr.row, List.length_nil, List.length_take, List.length_drop] at e20
   refine ⟨⟨(Sk (Sk (Sr))), M1⟩, ?_⟩
   refine WE_main rfl rfl (OW_call0 (weigh_r T20 D19 C19 d19 t20 m19 s19 k19 wt20 wm19 n19 h19 (by omega)) (.cons rfl (.cons rfl (.cons rfl (.nil)))) (by decide) (memc M0 (memc M4 (memc M3 mem0))) fun u7_6 Lo fs hres => ?_)
   obtain ⟨T21, t21, rfl, rfl, rfl, wt21, r21⟩ := hres
   have e21 := congrArg List.length r21
   simp only [List.length_append, cellsOf_length, Tr.row, List.length_nil, List.length_take, List.length_drop] at e21
   refine ⟨⟨(Sk (Sk (Sr))), M2⟩, ?_⟩
   refine Qe rfl (q_assign rfl) (WE_end (WF_nil (thenN (WC_fr [(6, _), (4, _), (0, _), (2, _)] (.cons rfl (.cons rfl (.cons rfl (.cons rfl (.nil _))))) (WC_ret (blockRet (thenRet ?_)))))))
   refine ⟨_, [], [_], fun Z w hs => .tmp rfl (.nil), ?_, fun Z w hs => hs.out (Sd (Sd (Sr))) (memc M0 T6)⟩
   exact ⟨_, _, rfl, rfl, rfl, wt21, by simp only [r19, r20, r21, List.append_assoc, Tr.row, List.nil_append, List.append_nil]⟩
  ·refine WC_skip (blockN (thenN (WC_seq (WC_region (Lq (q_move rfl) (Lq (q_loadN (vs := [_, _]) Un102 rfl ti102 rfl own0 rfl rfl) (Lq (q_move rfl) (WL_main rfl (OW_call0 (knot_r Al Ar Ac c l r rs hid wl wr n0 h0 (by omega)) (.cons rfl (.cons rfl (.cons rfl (.nil)))) (by decide) (memc M0 (memc M1 (memc M2 mem0))) fun u8_3 Lo fs hres => ?_)))))))))
   obtain ⟨T22, t22, rfl, rfl, rfl, wt22, r22⟩ := hres
   have e22 := congrArg List.length r22
   simp only [List.length_append, cellsOf_length, Tr.row, List.length_nil, List.length_take, List.length_drop] at e22
   refine Lq (q_assign rfl) (WL_nil (thenN (WC_fr [(6, _)] (.cons rfl (.nil _)) (WC_ret ?_))))
   refine ⟨_, [], [_], fun Z w hs => .tmp rfl (.nil), ?_, fun Z w hs => hs.out (Sd (Sr)) (fun _ h => h)⟩
   exact ⟨_, _, rfl, rfl, rfl, wt22, by simp only [r22, List.append_assoc, Tr.row, List.nil_append, List.append_nil]⟩

theorem join_r (Al Ar Ac : Option Addr) (c : Nat) (l r : Tr) (rs : List Int) (hid : Int) (wl : Wf l) (wr : Wf r) (n0 : rs ≠ []) (h0 : 0 ≤ hid ∧ hid ≤ 1048576) (hb : l.row.length + rs.length + r.row.length ≤ 1073741824) : Sp Tryz.prog 76 [.pointer Al, pcV rs hid Ac c, .pointer Ar] [] [TrF Al l, TrF Ar r, RdF runeD Ac c rs] (NP (l.row ++ (cellsOf rs hid ++ r.row))) := join_n _ Al Ar Ac c l r rs hid wl wr n0 h0 hb (Nat.le_refl _)
end Go.Proofs.YtcjbjkbghgjmdaaGreatDoor
/- The rules by which this claim's walks go: a slice that is cut, with its elements. -/
namespace Go.GW
open Go
section
variable {P : Program} {n : Nat} {R : Post} {l : Fr} {Ps Ps' : List Part} {As : List Fact} {ops : Array Oper} {rest : List Oper} {ty : TypeId} {pos : String} {aft : Array Edge} {g : Option (Nat × Bool)} {K : Nx} {d : Nat} {dd : Option Tmp}
theorem q_cutHiE {T E : TypeId} {x hi' : Operand} {A : Option Addr} {len cap m : Nat} {i : Int} {z : Option Value} {sz by_ : Nat} (hm : i.toNat = m) (hu : P.underlying T = some (.slice E)) (ht : ti P E = some (z, sz, by_)) (hx : evs l x = some (.slice A len cap)) (hi : evs l hi' = some (.int .i64 i)) (h0 : 0 ≤ i) (h1 : i ≤ cap) :
    QR P l Ps As ⟨dd, .slice T x none (some hi') none, ty, pos, aft, g⟩ (.slice (cutA A 0 cap sz) m cap) := by subst hm; exact q_cutHi hu ht hx hi h0 h1
theorem q_cutLoE {T E : TypeId} {x lo : Operand} {A : Option Addr} {len cap m j : Nat} {i : Int} {z : Option Value} {sz by_ : Nat} (hj : i.toNat = j) (hm : len - j = m) (hu : P.underlying T = some (.slice E)) (ht : ti P E = some (z, sz, by_)) (hx : evs l x = some (.slice A len cap)) (hi : evs l lo = some (.int .i64 i)) (h0 : 0 ≤ i) (h1 : i ≤ len) :
    QR P l Ps As ⟨dd, .slice T x (some lo) none none, ty, pos, aft, g⟩ (.slice (cutA A j cap sz) m (cap - j)) := by subst hm; subst hj; exact q_cutLo hu ht hx hi h0 h1
theorem q_cutLoHiE {T E : TypeId} {x lo hi' : Operand} {A : Option Addr} {len cap k m : Nat} {i j : Int} {z : Option Value} {sz by_ : Nat} (hk : i.toNat = k) (hm : j.toNat - k = m) (hu : P.underlying T = some (.slice E)) (ht : ti P E = some (z, sz, by_)) (hx : evs l x = some (.slice A len cap)) (hl : evs l lo = some (.int .i64 i)) (hi : evs l hi' = some (.int .i64 j)) (h0 : 0 ≤ i) (hij : i ≤ j) (h1 : j ≤ cap) :
    QR P l Ps As ⟨dd, .slice T x (some lo) (some hi') none, ty, pos, aft, g⟩ (.slice (cutA A k cap sz) m (cap - k)) := by subst hm; subst hk; exact q_cutLoHi hu ht hx hl hi h0 hij h1
theorem WC_cutHi {α : Type} {e : De α} {c : Code} {A : Option Addr} {cap : Nat} {xs : List α} (k : Nat) (hA : RdF e A cap xs ∈ As) (h1 : k ≤ xs.length) (h : WC P n c R l Ps (RdF e (cutA A 0 cap e.sz) cap (xs.take k) :: As)) : WC P n c R l Ps As :=
  WC_fact (A := RdF e (cutA A 0 cap e.sz) cap (xs.take k)) (fun Z w hs => by
    have h0 : RdS e Z w A cap xs := hs.facts _ hA
    have := RdS.cut h0 (lo := 0) (hi := k) (m := cap) (Nat.zero_le _) h1 (Nat.le_trans h1 h0.1) (Nat.le_refl _)
    simp only [Nat.sub_zero, List.drop_zero] at this
    exact this) h
theorem WC_cutLo {α : Type} {e : De α} {c : Code} {A : Option Addr} {cap : Nat} {xs : List α} (k : Nat) (hA : RdF e A cap xs ∈ As) (h1 : k ≤ xs.length) (h : WC P n c R l Ps (RdF e (cutA A k cap e.sz) (cap - k) (xs.drop k) :: As)) : WC P n c R l Ps As :=
  WC_fact (A := RdF e (cutA A k cap e.sz) (cap - k) (xs.drop k)) (fun Z w hs => by
    have h0 : RdS e Z w A cap xs := hs.facts _ hA
    have := RdS.cut h0 (lo := k) (hi := xs.length) (m := cap) h1 (Nat.le_refl _) h0.1 (Nat.le_refl _)
    rw [List.take_length] at this
    exact this) h
theorem WC_cutLoHi {α : Type} {e : De α} {c : Code} {A : Option Addr} {cap : Nat} {xs : List α} (k m : Nat) (hA : RdF e A cap xs ∈ As) (h0 : k ≤ m) (h1 : m ≤ xs.length) (h : WC P n c R l Ps (RdF e (cutA A k cap e.sz) (cap - k) ((xs.take m).drop k) :: As)) : WC P n c R l Ps As :=
  WC_fact (A := RdF e (cutA A k cap e.sz) (cap - k) ((xs.take m).drop k)) (fun Z w hs => by
    have h2 : RdS e Z w A cap xs := hs.facts _ hA
    exact RdS.cut h2 h0 h1 (Nat.le_trans h1 h2.1) (Nat.le_refl _)) h
theorem WC_cap {α : Type} {e : De α} {c : Code} {A : Option Addr} {cap : Nat} {xs : List α} (hA : RdF e A cap xs ∈ As) (h : xs.length ≤ cap → WC P n c R l Ps As) : WC P n c R l Ps As := fun Z w a hs ha => h ((hs.facts _ hA : RdS e Z w A cap xs).1) Z w a hs ha
/-- An element of a slice whose address is known. -/
theorem WC_elemK {α : Type} {e : De α} {b q cap : Nat} {xs : List α} {k : Nat} {u : α} {β : Type} {mk : β → List Value} {Fs : β → List Fact} {c : Code} (hA : RdF e (some ⟨b, q, none⟩) cap xs ∈ As) (hu : xs[k]? = some u) (ho : ∀ Z w cs, e.rep Z w u cs → ∃ y, cs = mk y ∧ ∀ B ∈ Fs y, B.holds Z w)
    (h : ∀ y, WC P n c R l Ps (FzA b (q + k * e.sz) (mk y) :: (Fs y ++ As))) : WC P n c R l Ps As :=
  WC_elem hA hu ho fun b' q' y e => by cases e; exact h y
theorem WC_repsApp {α : Type} {e : De α} {c : Code} {xs ys : List α} {css dss : List (List Value)} (h1 : RepsF e xs css ∈ As) (h2 : RepsF e ys dss ∈ As) (h : WC P n c R l Ps (RepsF e (xs ++ ys) (css ++ dss) :: As)) : WC P n c R l Ps As :=
  WC_fact (A := RepsF e (xs ++ ys) (css ++ dss)) (fun Z w hs => Reps.append (hs.facts _ h1 : Reps (e.rep Z w) xs css) (hs.facts _ h2 : Reps (e.rep Z w) ys dss)) h
end
end Go.GW
/- Walks: rope, popLast, popFirst. -/
namespace Go.Proofs.YtcjbjkbghgjmdaaGreatDoor
open Go Go.GW
theorem WC_some {P : Program} {n : Nat} {R : Post} {l : Fr} {Ps : List Part} {As : List Fact} {c : Code} {A : Option Addr} {t : Tr} (hA : TrF A t ∈ As) (ht : t ≠ .nil) (h : ∀ b : Nat, A = some ⟨b, 0, none⟩ → WC P n c R l Ps As) : WC P n c R l Ps As := fun Z w a hs ha => by
 cases t with
 | nil => exact absurd rfl ht
 | nd s lt rs hid rt plus =>
  obtain ⟨b, Al, Ar, Ac, cc, e, _⟩ : trRep Z w (.nd s lt rs hid rt plus) A := hs.facts _ hA
  exact h b e Z w a hs ha
def LastP (row : List Ce) : Value → List Part → List Fact → Prop := fun v Lo fs => ∃ (A : Option Addr) (t : Tr) (rs : List Int) (hid : Int) (Ac : Option Addr) (c : Nat), v = .tuple #[.pointer A, pcV rs hid Ac c] ∧ Lo = [] ∧ fs = [TrF A t, RdF runeD Ac c rs] ∧ Wf t ∧ rs ≠ [] ∧ (0 ≤ hid ∧ hid ≤ 1048576) ∧ row = t.row ++ cellsOf rs hid
def FirstP (row : List Ce) : Value → List Part → List Fact → Prop := fun v Lo fs => ∃ (A : Option Addr) (t : Tr) (rs : List Int) (hid : Int) (Ac : Option Addr) (c : Nat), v = .tuple #[pcV rs hid Ac c, .pointer A] ∧ Lo = [] ∧ fs = [TrF A t, RdF runeD Ac c rs] ∧ Wf t ∧ rs ≠ [] ∧ (0 ≤ hid ∧ hid ≤ 1048576) ∧ row = cellsOf rs hid ++ t.row

set_option maxRecDepth 10000 in
theorem popLast_n (N : Nat) : ∀ (A : Option Addr) (t : Tr) (wt : Wf t) (nt : t ≠ .nil) (hb : t.row.length ≤ 1073741824), t.size ≤ N → Sp Tryz.prog 77 [.pointer A] [] [TrF A t] (LastP t.row) := by
 induction N using Nat.strongRecOn
 rename_i N ih
 intro A t wt nt hb hN
 refine Sp.of (n := 29) ⟨_, Tryz.func77, rfl, rfl, rfl, rfl⟩ (Nat.le_of_ble_eq_true rfl) fun Ps As => WC_seq (WC_region (Lq (q_assign rfl) (WL_main rfl (OW_alloc (cs := [_, _]) ti102 rfl (by decide) fun b3 => WL_nil (thenN (WC_seq (WC_region (Lq (q_move rfl) (WL_main rfl (OW_call0 (open_r A t wt nt (by omega)) (.cons rfl (.nil)) (by decide) (memc M0 mem0) fun u1_1 Lo fs hres => ?_))))))))))
 obtain ⟨B1, l1, s1, k1, C1, d1, D1, m1, rfl, rfl, rfl, wl1, wm1, n1, h1, r1, zl1, zm1⟩ := hres
 have e1 := congrArg List.length r1
 simp only [List.length_append, cellsOf_length, Tr.row, List.length_nil, List.length_take, List.length_drop] at e1
 refine Lq (q_move rfl) (Lq (q_extract (vs := [_, _, _]) rfl rfl) (Lq (q_extract (vs := [_, _, _]) rfl rfl) (Lq (q_extract (vs := [_, _, _]) rfl rfl) (WL_main rfl (OW_alloc (cs := [_, _]) ti102 rfl (by decide) fun b5 => Lq (q_assign rfl) (WL_main rfl (OW_storeN (cs' := [_, _]) (vs := [_, _]) ti102 rfl rfl rfl rfl rfl (Nat.le_of_ble_eq_true rfl) (.z) (Lq (q_assign rfl) (WL_nil (thenN (WC_seq (WC_seq ?_))))))))))))
 by_cases hzm1 : m1 = .nil
 ·rw [hzm1]
  refine WC_nilT M2 fun e => ?_
  subst e
  refine WC_region (Lq (q_move rfl) (Lq (q_peql Un70 rfl rfl (by simp)) (WL_nil (thenN (WC_fr [(16, _), (6, _), (4, _), (5, _), (3, _), (2, _)] (.cons rfl (.cons rfl (.cons rfl (.cons rfl (.cons rfl (.cons rfl (.nil _))))))) (WC_true rfl rfl (WC_seq (WC_draw _ _ [3] (.c 0 0 (.c 1 0 (.c 2 0 (.c 3 3 .nil)))) mixed (fun _ _ _ _ h => h) (Sk (Sk (Sr))) (fun _ h => h) (by kernel_rfl) (by decide) fun ws Z0 => Qe rfl (q_move rfl) (Qe rfl (q_loadN (vs := [_, _]) Un102 rfl ti102 rfl own0 rfl rfl) (Qe rfl (q_assign rfl) ?_))))))))))
  refine WE_end (WF_last rfl rfl (OW_storeN (cs' := [_, _]) (vs := [_, _]) ti102 rfl rfl rfl rfl rfl (Nat.le_of_ble_eq_true rfl) (.s (.z)) (WF_nil (thenN (WC_ret (thenRet ?_))))))
  refine ⟨_, [], [_, _], fun Z w hs => .tmp rfl (RV_ownN hs Un102 rfl ti102 rfl (ownS (own0)) rfl (.nil)), ?_, fun Z w hs => hs.out (Sd (Sd (Sr))) (memc M1 (memc M2 T4))⟩
  exact ⟨_, _, _, _, _, _, rfl, rfl, rfl, wl1, n1, h1, by simp only [r1, hzm1, Tr.row, List.append_nil, List.nil_append]⟩
 ·refine WC_some M2 hzm1 fun _ e => ?_
  subst e
  refine WC_region (Lq (q_move rfl) (Lq (q_peql Un70 rfl rfl (by simp)) (WL_nil (thenN (WC_fr [(16, _), (6, _), (4, _), (5, _), (3, _), (2, _)] (.cons rfl (.cons rfl (.cons rfl (.cons rfl (.cons rfl (.cons rfl (.nil _))))))) (WC_false rfl rfl (WC_skip (thenN (WC_seq (WC_region (Lq (q_move rfl) (WL_main rfl (OW_call0 (ih m1.size (by omega) _ m1 wm1 hzm1 (by omega) (Nat.le_refl _)) (.cons rfl (.nil)) (by decide) (memc M2 mem0) fun u4_1 Lo fs hres => ?_)))))))))))))
  obtain ⟨A2, t2, s2, k2, C2, d2, rfl, rfl, rfl, wt2, n2, h2, r2⟩ := hres
  have e2 := congrArg List.length r2
  simp only [List.length_append, cellsOf_length] at e2
  refine Lq (q_move rfl) (Lq (q_extract (vs := [_, _]) rfl rfl) (Lq (q_extract (vs := [_, _]) rfl rfl) (WL_main rfl (OW_alloc (cs := [_, _]) ti102 rfl (by decide) fun b8 => Lq (q_assign rfl) (WL_main rfl (OW_storeN (cs' := [_, _]) (vs := [_, _]) ti102 rfl rfl rfl rfl rfl (Nat.le_of_ble_eq_true rfl) (.z) (WL_nil (thenN (WC_seq (WC_draw _ _ [6] (.c 0 0 (.c 1 0 (.c 2 0 (.c 4 0 (.c 3 2 (.c 5 0 (.c 6 3 .nil))))))) mixed (fun _ _ _ _ h => h) (Sk (Sk (Sk (Sr)))) (fun _ h => h) (by kernel_rfl) (by decide) fun ws Z0 => Qe rfl (q_move rfl) (Qe rfl (q_loadN (vs := [_, _]) Un102 rfl ti102 rfl (ownS (own0)) rfl rfl) ?_)))))))))))
  refine Qe rfl (q_move rfl) (Qe rfl (q_loadN (vs := [_, _]) Un102 rfl ti102 rfl own0 rfl rfl) (WE_main rfl rfl (OW_call0 (join_r B1 A2 C1 d1 l1 t2 s1 k1 wl1 wt2 n1 h1 (by omega)) (.cons rfl (.cons rfl (.cons rfl (.nil)))) (by decide) (memc M3 (memc M1 (memc M4 mem0))) fun u5_3 Lo fs hres => ?_)))
  obtain ⟨T3, t3, rfl, rfl, rfl, wt3, r3⟩ := hres
  have e3 := congrArg List.length r3
  simp only [List.length_append, cellsOf_length, Tr.row, List.length_nil, List.length_take, List.length_drop] at e3
  refine ⟨⟨(Sk (Sk (Sk (Sr)))), M1⟩, ?_⟩
  refine Qe rfl (q_assign rfl) (WE_end (WF_last rfl rfl (OW_storeN (cs' := [_, _]) (vs := [_, _]) ti102 rfl rfl rfl rfl rfl (Nat.le_of_ble_eq_true rfl) (.s (.s (.z))) (WF_nil (thenN (WC_fr [(2, _), (3, _)] (.cons rfl (.cons rfl (.nil _))) (WC_ret ?_)))))))
  refine ⟨_, [], [_, _], fun Z w hs => .tmp rfl (RV_ownN hs Un102 rfl ti102 rfl (ownS (ownS (own0))) rfl (.nil)), ?_, fun Z w hs => hs.out (Sd (Sd (Sd (Sr)))) (memc M0 (memc M3 T7))⟩
  exact ⟨_, _, _, _, _, _, rfl, rfl, rfl, wt3, n2, h2, by simp only [r1, r2, r3, List.append_assoc]⟩


set_option maxRecDepth 10000 in
theorem popFirst_n (N : Nat) : ∀ (A : Option Addr) (t : Tr) (wt : Wf t) (nt : t ≠ .nil) (hb : t.row.length ≤ 1073741824), t.size ≤ N → Sp Tryz.prog 78 [.pointer A] [] [TrF A t] (FirstP t.row) := by
 induction N using Nat.strongRecOn
 rename_i N ih
 intro A t wt nt hb hN
 refine Sp.of (n := 29) ⟨_, Tryz.func78, rfl, rfl, rfl, rfl⟩ (Nat.le_of_ble_eq_true rfl) fun Ps As => WC_seq (WC_region (WL_main rfl (OW_alloc (cs := [_, _]) ti102 rfl (by decide) fun b2 => Lq (q_assign rfl) (WL_nil (thenN (WC_seq (WC_region (Lq (q_move rfl) (WL_main rfl (OW_call0 (open_r A t wt nt (by omega)) (.cons rfl (.nil)) (by decide) (memc M0 mem0) fun u1_1 Lo fs hres => ?_))))))))))
 obtain ⟨B1, l1, s1, k1, C1, d1, D1, m1, rfl, rfl, rfl, wl1, wm1, n1, h1, r1, zl1, zm1⟩ := hres
 have e1 := congrArg List.length r1
 simp only [List.length_append, cellsOf_length, Tr.row, List.length_nil, List.length_take, List.length_drop] at e1
 refine Lq (q_move rfl) (Lq (q_extract (vs := [_, _, _]) rfl rfl) (Lq (q_extract (vs := [_, _, _]) rfl rfl) (Lq (q_extract (vs := [_, _, _]) rfl rfl) (WL_main rfl (OW_alloc (cs := [_, _]) ti102 rfl (by decide) fun b5 => Lq (q_assign rfl) (WL_main rfl (OW_storeN (cs' := [_, _]) (vs := [_, _]) ti102 rfl rfl rfl rfl rfl (Nat.le_of_ble_eq_true rfl) (.z) (Lq (q_assign rfl) (WL_nil (thenN (WC_seq (WC_seq ?_))))))))))))
 by_cases hzl1 : l1 = .nil
 ·rw [hzl1]
  refine WC_nilT M0 fun e => ?_
  subst e
  refine WC_region (Lq (q_move rfl) (Lq (q_peql Un70 rfl rfl (by simp)) (WL_nil (thenN (WC_fr [(16, _), (6, _), (4, _), (5, _), (3, _), (2, _)] (.cons rfl (.cons rfl (.cons rfl (.cons rfl (.cons rfl (.cons rfl (.nil _))))))) (WC_true rfl rfl (WC_seq (WC_region (Lq (q_loadN (vs := [_, _]) Un102 rfl ti102 rfl own0 rfl rfl) (Lq (q_move rfl) (WL_main rfl (OW_storeN (cs' := [_, _]) (vs := [_, _]) ti102 rfl rfl rfl rfl rfl (Nat.le_of_ble_eq_true rfl) (.s (.z)) (Lq (q_assign rfl) ?_)))))))))))))
  refine WL_nil (thenN (WC_ret (thenRet ?_)))
  refine ⟨_, [], [_, _], fun Z w hs => RV_ownN hs Un102 rfl ti102 rfl (ownS (own0)) rfl (.tmp rfl (.nil)), ?_, fun Z w hs => hs.out (Sd (Sd (Sr))) (memc M2 (memc M1 T3))⟩
  exact ⟨_, _, _, _, _, _, rfl, rfl, rfl, wm1, n1, h1, by simp only [r1, hzl1, Tr.row, List.append_nil, List.nil_append]⟩
 ·refine WC_some M0 hzl1 fun _ e => ?_
  subst e
  refine WC_region (Lq (q_move rfl) (Lq (q_peql Un70 rfl rfl (by simp)) (WL_nil (thenN (WC_fr [(16, _), (6, _), (4, _), (5, _), (3, _), (2, _)] (.cons rfl (.cons rfl (.cons rfl (.cons rfl (.cons rfl (.cons rfl (.nil _))))))) (WC_false rfl rfl (WC_skip (thenN (WC_seq (WC_region (Lq (q_move rfl) (WL_main rfl (OW_call0 (ih l1.size (by omega) _ l1 wl1 hzl1 (by omega) (Nat.le_refl _)) (.cons rfl (.nil)) (by decide) (memc M0 mem0) fun u4_1 Lo fs hres => ?_)))))))))))))
  obtain ⟨A2, t2, s2, k2, C2, d2, rfl, rfl, rfl, wt2, n2, h2, r2⟩ := hres
  have e2 := congrArg List.length r2
  simp only [List.length_append, cellsOf_length] at e2
  refine Lq (q_move rfl) (Lq (q_extract (vs := [_, _]) rfl rfl) (Lq (q_extract (vs := [_, _]) rfl rfl) (WL_main rfl (OW_alloc (cs := [_, _]) ti102 rfl (by decide) fun b7 => WL_main rfl (OW_storeN (cs' := [_, _]) (vs := [_, _]) ti102 rfl rfl rfl rfl rfl (Nat.le_of_ble_eq_true rfl) (.z) (Lq (q_assign rfl) (WL_nil (thenN (WC_seq (WC_draw _ _ [5] (.c 0 0 (.c 1 0 (.c 2 0 (.c 3 0 (.c 4 2 (.c 5 3 (.c 6 1 .nil))))))) mixed (fun _ _ _ _ h => h) (Sk (Sk (Sk (Sr)))) (fun _ h => h) (by kernel_rfl) (by decide) fun ws Z0 => Qe rfl (q_loadN (vs := [_, _]) Un102 rfl ti102 rfl own0 rfl rfl) (Qe rfl (q_move rfl) ?_)))))))))))
  refine Qe rfl (q_loadN (vs := [_, _]) Un102 rfl ti102 rfl (ownS (own0)) rfl rfl) (Qe rfl (q_move rfl) (WE_main rfl rfl (OW_call0 (join_r A2 D1 C1 d1 t2 m1 s1 k1 wt2 wm1 n1 h1 (by omega)) (.cons rfl (.cons rfl (.cons rfl (.nil)))) (by decide) (memc M1 (memc M5 (memc M4 mem0))) fun u5_4 Lo fs hres => ?_)))
  obtain ⟨T3, t3, rfl, rfl, rfl, wt3, r3⟩ := hres
  have e3 := congrArg List.length r3
  simp only [List.length_append, cellsOf_length, Tr.row, List.length_nil, List.length_take, List.length_drop] at e3
  refine ⟨⟨(Sk (Sk (Sk (Sr)))), M1⟩, ?_⟩
  refine WE_end (WF_last rfl rfl (OW_storeN (cs' := [_, _]) (vs := [_, _]) ti102 rfl rfl rfl rfl rfl (Nat.le_of_ble_eq_true rfl) (.s (.s (.z))) (WF_p rfl (q_assign rfl) (by decide) (WF_nil (thenN (WC_fr [(3, _), (2, _)] (.cons rfl (.cons rfl (.nil _))) (WC_ret ?_)))))))
  refine ⟨_, [], [_, _], fun Z w hs => RV_ownN hs Un102 rfl ti102 rfl (ownS (ownS (own0))) rfl (.tmp rfl (.nil)), ?_, fun Z w hs => hs.out (Sd (Sd (Sd (Sr)))) (memc M0 (memc M3 T7))⟩
  exact ⟨_, _, _, _, _, _, rfl, rfl, rfl, wt3, n2, h2, by simp only [r1, r2, r3, List.append_assoc]⟩

theorem popLast_r (A : Option Addr) (t : Tr) (wt : Wf t) (nt : t ≠ .nil) (hb : t.row.length ≤ 1073741824) : Sp Tryz.prog 77 [.pointer A] [] [TrF A t] (LastP t.row) := popLast_n _ A t wt nt hb (Nat.le_refl _)
theorem popFirst_r (A : Option Addr) (t : Tr) (wt : Wf t) (nt : t ≠ .nil) (hb : t.row.length ≤ 1073741824) : Sp Tryz.prog 78 [.pointer A] [] [TrF A t] (FirstP t.row) := popFirst_n _ A t wt nt hb (Nat.le_refl _)
end Go.Proofs.YtcjbjkbghgjmdaaGreatDoor
