/- The rules by which this claim's walks go: a frame as a short list, owned blocks in parts, frozen facts; control flow. -/
import Derived.Tactics2
import Derived.WalkKit
import Derived.Laws.Cells
import Derived.KernelRfl
set_option linter.unusedVariables false
set_option linter.unusedSimpArgs false
namespace Go.GW
open Go

abbrev Fr := List (Nat × Value)
/-- The value of a slot that is known. -/
def lk : Fr → Nat → Option Value
  | [], _ => none
  | (k, v) :: l, t => bif Nat.beq t k then some v else lk l t
def evs (l : Fr) : Operand → Option Value
  | .tmp t => lk l t
  | .const v => some v
  | .global g => some (.pointer (some ⟨g, 0, none⟩))
  | .func f => some (.func (.func f) #[] #[])
structure Ag (n : Nat) (l : Fr) (a : Act) : Prop where
  size : a.tmps.size = n
  defers : a.defers = []
  get : ∀ t v, lk l t = some v → a.tmps.getD t undef = v
theorem Ag.eval {n : Nat} {l : Fr} {a : Act} (h : Ag n l a) {x : Operand} {v : Value} (hx : evs l x = some v) : a.eval x = v := by
  cases x with
  | tmp t => exact h.get t v hx
  | const c => exact Option.some.inj hx
  | global g => exact Option.some.inj hx
  | func f => exact Option.some.inj hx
theorem lk_cons (l : Fr) (k t : Nat) (v : Value) : lk ((k, v) :: l) t = if t = k then some v else lk l t := by
  show (bif Nat.beq t k then some v else lk l t) = _
  by_cases h : t = k
  · subst h; simp
  · have : Nat.beq t k = false := by
      cases hh : Nat.beq t k with
      | false => rfl
      | true => exact absurd (Nat.eq_of_beq_eq_true hh) h
    rw [this, if_neg h]; rfl
theorem Ag.put {n : Nat} {l : Fr} {a : Act} (h : Ag n l a) {d : Nat} (hd : d < n) (v : Value) : Ag n ((d, v) :: l) (a.put (some d) v) := by
  refine ⟨by simp [Act.put, h.size], h.defers, fun t u ht => ?_⟩
  rw [lk_cons] at ht
  simp only [Act.put, Array.getD_eq_getD_getElem?, Array.getElem?_setIfInBounds]
  by_cases e : t = d
  · subst e
    rw [if_pos rfl] at ht
    rw [if_pos rfl]
    have : t < a.tmps.size := by rw [h.size]; exact hd
    simp [this]; exact Option.some.inj ht
  · rw [if_neg e] at ht
    rw [if_neg (fun q => e q.symm)]
    simpa [Array.getD_eq_getD_getElem?] using h.get t u ht
theorem Ag.putN {n : Nat} {l : Fr} {a : Act} (h : Ag n l a) (v : Value) : Ag n l (a.put none v) := h
/-- Part of what is known. -/
def Sub (l' l : Fr) : Prop := ∀ p ∈ l', lk l p.1 = some p.2
theorem Sub.nil (l : Fr) : Sub [] l := fun _ h => by cases h
theorem Sub.cons {l' l : Fr} {k : Nat} {v : Value} (h : lk l k = some v) (hs : Sub l' l) : Sub ((k, v) :: l') l := fun p hp => by
  rcases List.mem_cons.1 hp with rfl | hp
  · exact h
  · exact hs p hp
theorem lk_mem : ∀ {l : Fr} {t : Nat} {v : Value}, lk l t = some v → (t, v) ∈ l
  | [], t, v, h => by simp [lk] at h
  | (k, u) :: l, t, v, h => by
    rw [lk_cons] at h
    by_cases e : t = k
    · rw [if_pos e] at h; cases h; subst e; exact List.mem_cons_self
    · rw [if_neg e] at h; exact List.mem_cons_of_mem _ (lk_mem h)
theorem Ag.sub {n : Nat} {l l' : Fr} {a : Act} (h : Ag n l a) (hs : Sub l' l) : Ag n l' a :=
  ⟨h.size, h.defers, fun t v ht => h.get t v (hs _ (lk_mem ht))⟩

abbrev Part := List (Nat × Obj)
structure Fact where
  holds : (Nat → Prop) → World → Prop
  stable : ∀ {Z Z' : Nat → Prop} {w w' : World}, (∀ b, Z b → Z' b) → (∀ b, Z b → w'.heap[b]? = w.heap[b]?) → w'.os = w.os → w'.tape = w.tape → w'.output = w.output → holds Z w → holds Z' w'

/-- What is known of the world: Z are the blocks that are never written any more; the parts are blocks of our own. -/
structure St (Z : Nat → Prop) (w : World) (Ps : List Part) (As : List Fact) : Prop where
  zlt : ∀ b, Z b → b < w.heap.size
  own : ∀ q ∈ Ps.flatten, w.heap[q.1]? = some q.2 ∧ ¬ Z q.1
  nodup : (Ps.flatten.map Prod.fst).Nodup
  facts : ∀ A ∈ As, A.holds Z w

theorem St.drew {Z : Nat → Prop} {w : World} {Ps : List Part} {As : List Fact} (h : St Z w Ps As) (n : Nat) : St Z { w with drawn := n } Ps As :=
  ⟨h.zlt, h.own, h.nodup, fun A hA => A.stable (w := w) (w' := { w with drawn := n }) (fun _ hb => hb) (fun _ _ => rfl) rfl rfl rfl (h.facts A hA)⟩
theorem St.subFacts {Z : Nat → Prop} {w : World} {Ps : List Part} {As As' : List Fact} (h : St Z w Ps As) (hs : ∀ A ∈ As', A ∈ As) : St Z w Ps As' :=
  ⟨h.zlt, h.own, h.nodup, fun A hA => h.facts A (hs A hA)⟩
theorem St.addFact {Z : Nat → Prop} {w : World} {Ps : List Part} {As : List Fact} (h : St Z w Ps As) {A : Fact} (hA : A.holds Z w) : St Z w Ps (A :: As) :=
  ⟨h.zlt, h.own, h.nodup, fun B hB => by rcases List.mem_cons.1 hB with rfl | hB; exact hA; exact h.facts B hB⟩
theorem flatten_sublist {α : Type} : ∀ {l l' : List (List α)}, l'.Sublist l → l'.flatten.Sublist l.flatten
  | _, _, .slnil => List.Sublist.refl _
  | _, _, .cons a h => by rw [List.flatten_cons]; exact (flatten_sublist h).trans (List.sublist_append_right _ _)
  | _, _, .cons_cons a h => by rw [List.flatten_cons, List.flatten_cons]; exact List.Sublist.append (List.Sublist.refl _) (flatten_sublist h)
theorem St.subParts {Z : Nat → Prop} {w : World} {Ps Ps' : List Part} {As : List Fact} (h : St Z w Ps As) (hs : Ps'.Sublist Ps) : St Z w Ps' As := by
  have h1 := flatten_sublist hs
  exact ⟨h.zlt, fun q hq => h.own q (h1.subset hq), (h1.map Prod.fst).nodup h.nodup, h.facts⟩
theorem St.permParts {Z : Nat → Prop} {w : World} {Ps Ps' : List Part} {As : List Fact} (h : St Z w Ps As) (hp : Ps'.flatten.Perm Ps.flatten) : St Z w Ps' As :=
  ⟨h.zlt, fun q hq => h.own q (hp.subset hq), (hp.map Prod.fst).nodup_iff.2 h.nodup, h.facts⟩

/-! Posts are told on exits, frames, parts and facts. -/
abbrev Post := Exit → Fr → List Part → List Fact → Prop
abbrev Nx := Fr → List Part → List Fact → Prop
def liftN (n : Nat) (K : Nx) : Act → World → Prop := fun a w => ∃ l Z Ps As, Ag n l a ∧ St Z w Ps As ∧ K l Ps As
def liftP (n : Nat) (R : Post) : Exit → Act → World → Prop := fun e a w => ∃ l Z Ps As, Ag n l a ∧ St Z w Ps As ∧ R e l Ps As
def thenR (K : Nx) (R : Post) : Post := fun e l Ps As => match e with | .normal => K l Ps As | e => R e l Ps As
def blockR (id : Nat) (R : Post) : Post := fun e l Ps As => match e with
  | .exit id' => if id' = id then R .normal l Ps As else R (.exit id') l Ps As
  | e => R e l Ps As

section
variable {P : Program} {n : Nat} {R : Post} {l : Fr} {Ps : List Part} {As : List Fact}

def WC (P : Program) (n : Nat) (c : Code) (R : Post) (l : Fr) (Ps : List Part) (As : List Fact) : Prop :=
  ∀ Z w a, St Z w Ps As → Ag n l a → c.wp P (liftP n R) a w

theorem WC.mono {c : Code} {R' : Post} (h : WC P n c R l Ps As) (hr : ∀ e l Ps As, R e l Ps As → R' e l Ps As) : WC P n c R' l Ps As :=
  fun Z w a hs ha => wp_mono (h Z w a hs ha) fun e a w ⟨l, Z, Ps, As, h1, h2, h3⟩ => ⟨l, Z, Ps, As, h1, h2, hr _ _ _ _ h3⟩
theorem WC_seq {x y : Code} (h : WC P n x (thenR (WC P n y R) R) l Ps As) : WC P n (.seq x y) R l Ps As := by
  intro Z w a hs ha
  refine wp_seq (wp_mono (h Z w a hs ha) ?_)
  rintro e a w ⟨l, Z, Ps, As, h1, h2, h3⟩
  cases e with
  | normal => exact h3 Z w a h2 h1
  | _ => exact ⟨l, Z, Ps, As, h1, h2, h3⟩
theorem WC_skip (h : R .normal l Ps As) : WC P n .skip R l Ps As := fun Z w a hs ha => wp_skip ⟨l, Z, Ps, As, ha, hs, h⟩
theorem WC_label {k : Nat} (h : R .normal l Ps As) : WC P n (.label k) R l Ps As := fun Z w a hs ha => wp_label ⟨l, Z, Ps, As, ha, hs, h⟩
theorem WC_ret (h : R .ret l Ps As) : WC P n .ret R l Ps As := fun Z w a hs ha => wp_ret ⟨l, Z, Ps, As, ha, hs, h⟩
theorem WC_exit {id : Nat} (h : R (.exit id) l Ps As) : WC P n (.exit id) R l Ps As := fun Z w a hs ha => wp_exit ⟨l, Z, Ps, As, ha, hs, h⟩
theorem WC_block {id : Nat} {c : Code} (h : WC P n c (blockR id R) l Ps As) : WC P n (.block id c) R l Ps As := by
  intro Z w a hs ha
  refine wp_block (wp_mono (h Z w a hs ha) ?_)
  rintro e a w ⟨l, Z, Ps, As, h1, h2, h3⟩
  cases e with
  | exit id' =>
    unfold blockR at h3
    unfold Exit.inBlock
    by_cases hid : id' = id
    · simp only [hid, if_true] at h3 ⊢; exact ⟨l, Z, Ps, As, h1, h2, h3⟩
    · simp only [hid, if_false] at h3 ⊢; exact ⟨l, Z, Ps, As, h1, h2, h3⟩
  | _ => exact ⟨l, Z, Ps, As, h1, h2, h3⟩
theorem WC_cond {c : Operand} {x y : Code} {b : Bool} (hc : evs l c = some (.bool b)) (h1 : b = true → WC P n x R l Ps As) (h2 : b = false → WC P n y R l Ps As) : WC P n (.cond c x y) R l Ps As := by
  intro Z w a hs ha
  refine wp_cond_split (ha.eval hc) (fun hb => h1 hb Z w a hs ha) (fun hb => h2 hb Z w a hs ha)
theorem WC_true {c : Operand} {x y : Code} {b : Bool} (hc : evs l c = some (.bool b)) (hb : b = true) (h : WC P n x R l Ps As) : WC P n (.cond c x y) R l Ps As :=
  WC_cond hc (fun _ => h) (fun h' => by rw [hb] at h'; cases h')
theorem WC_false {c : Operand} {x y : Code} {b : Bool} (hc : evs l c = some (.bool b)) (hb : b = false) (h : WC P n y R l Ps As) : WC P n (.cond c x y) R l Ps As :=
  WC_cond hc (fun h' => by rw [hb] at h'; cases h') (fun _ => h)
/-- A case that both ways share: what holds at the meeting point. -/
theorem WC_join {c : Code} (K : Nx) (h1 : WC P n c (thenR K R) l Ps As) {d : Code} (h2 : ∀ l Ps As, K l Ps As → WC P n d R l Ps As) : WC P n (.seq c d) R l Ps As :=
  WC_seq (h1.mono fun e l Ps As h => by cases e <;> first | exact h2 _ _ _ h | exact h)
theorem WC_sub {c : Code} {l' : Fr} {Ps' : List Part} {As' : List Fact} (hl : Sub l' l) (hp : Ps'.Sublist Ps) (ha : ∀ A ∈ As', A ∈ As) (h : WC P n c R l' Ps' As') : WC P n c R l Ps As :=
  fun Z w a hs hg => h Z w a ((hs.subParts hp).subFacts ha) (hg.sub hl)
theorem WC_fr {c : Code} (l' : Fr) (hl : Sub l' l) (h : WC P n c R l' Ps As) : WC P n c R l Ps As :=
  fun Z w a hs hg => h Z w a hs (hg.sub hl)
theorem WC_loop {α : Type} (μ : α → Nat) (I : α → Fr → List Part → List Fact → Prop) {c : Code} (x : α) (h0 : I x l Ps As)
    (round : ∀ x l Ps As, I x l Ps As → WC P n c (thenR (fun l' Ps' As' => ∃ x', μ x' < μ x ∧ I x' l' Ps' As') R) l Ps As) : WC P n (.loop c) R l Ps As := by
  intro Z w a hs ha b k cs
  have key : ∀ m x l Ps As Z w a, μ x = m → I x l Ps As → St Z w Ps As → Ag n l a →
      ∃ e a' w', liftP n R e a' w' ∧ Arrives P (lone (b.at a (.code c :: .inLoop c :: k)) cs w) b k cs e a' w' := by
    intro m
    induction m using Nat.strongRecOn with
    | _ m ih =>
      intro x l Ps As Z w a hm hI hs ha
      obtain ⟨e, a₁, w₁, hq, harr⟩ := round x l Ps As hI Z w a hs ha b (.inLoop c :: k) cs
      obtain ⟨l1, Z1, Ps1, As1, g1, g2, g3⟩ := hq
      cases e with
      | normal =>
        obtain ⟨x', hlt, hI'⟩ := g3
        obtain ⟨e₂, a₂, w₂, hq₂, harr₂⟩ := ih (μ x') (hm ▸ hlt) x' l1 Ps1 As1 Z1 w₁ a₁ rfl hI' g2 g1
        exact ⟨e₂, a₂, w₂, hq₂, .of_steps (Steps.trans harr (.one step_inLoop)) harr₂⟩
      | exit id => exact ⟨_, a₁, w₁, ⟨l1, Z1, Ps1, As1, g1, g2, g3⟩, .pass (x := .inLoop c) rfl (fun _ _ => .inl (by simp)) harr⟩
      | goto l => exact ⟨_, a₁, w₁, ⟨l1, Z1, Ps1, As1, g1, g2, g3⟩, .pass (x := .inLoop c) rfl (fun _ _ => .inl (by simp)) harr⟩
      | ret => exact ⟨_, a₁, w₁, ⟨l1, Z1, Ps1, As1, g1, g2, g3⟩, .pass (x := .inLoop c) rfl (fun _ _ => .inl (by simp)) harr⟩
      | panic ch => exact ⟨_, a₁, w₁, ⟨l1, Z1, Ps1, As1, g1, g2, g3⟩, .pass (x := .inLoop c) rfl (fun _ _ => .inl (by simp)) harr⟩
      | outgrown => exact ⟨_, a₁, w₁, ⟨l1, Z1, Ps1, As1, g1, g2, g3⟩, .pass (x := .inLoop c) rfl (fun _ _ => .inl (by simp)) harr⟩
  obtain ⟨e, a', w', hq, harr⟩ := key _ x l Ps As Z w a rfl h0 hs ha
  exact ⟨e, a', w', hq, .of_steps (.one step_loop) harr⟩

/-! ### Regions whose operations come in the order of the text -/
def WL (P : Program) (n : Nat) (ops : Array Oper) (R : Post) (rest : List Oper) (l : Fr) (Ps : List Part) (As : List Fact) : Prop :=
  ∀ Z w a, St Z w Ps As → Ag n l a → wpList P ops (liftP n R) rest a w
/-- A quiet operation: it yields a value and changes nothing. -/
def QR (P : Program) (l : Fr) (Ps : List Part) (As : List Fact) (o : Oper) (v : Value) : Prop :=
  ∀ Z w (ρ : Operand → Value), St Z w Ps As → (∀ x v, evs l x = some v → ρ x = v) → (execOp ρ o).run P w = .ok (.value v) w
/-- Any operation. -/
def OW (P : Program) (n : Nat) (R : Post) (l : Fr) (Ps : List Part) (As : List Fact) (o : Oper) (K : Nx) : Prop :=
  ∀ Z w a, St Z w Ps As → Ag n l a → o.wp P a w (liftN n K) (liftP n R)
variable {ops : Array Oper} {rest : List Oper} {o : Oper}

theorem WC_region {id : Nat} {ops : List Oper} (h : WL P n ops.toArray R ops l Ps As) : WC P n (.region id ops.toArray false) R l Ps As :=
  fun Z w a hs ha => wp_region_lit (h Z w a hs ha)
theorem WL_nil (h : R .normal l Ps As) : WL P n ops R [] l Ps As := fun Z w a hs ha => wpList_nil ⟨l, Z, Ps, As, ha, hs, h⟩
theorem Oper.wp_mono' {a : Act} {w : World} {K K' : Act → World → Prop} {Q : Exit → Act → World → Prop} (hk : ∀ a w, K a w → K' a w) (h : o.wp P a w K Q) : o.wp P a w K' Q := Oper.wp_mono hk h
theorem WL_main (hg : o.guard = none) (h : OW P n R l Ps As o (WL P n ops R rest)) : WL P n ops R (o :: rest) l Ps As := by
  intro Z w a hs ha
  refine wpList_plain hg fun K hK => ?_
  exact Oper.wp_mono (fun a w ⟨l, Z, Ps, As, h1, h2, h3⟩ => hK a w (h3 Z w a h2 h1)) (h Z w a hs ha)
theorem WL_q {d : Nat} {v : Value} {op : Op} {ty : TypeId} {pos : String} {aft : Array Edge} (hq : QR P l Ps As ⟨some d, op, ty, pos, aft, none⟩ v) (hd : d < n) (h : WL P n ops R rest ((d, v) :: l) Ps As) : WL P n ops R (⟨some d, op, ty, pos, aft, none⟩ :: rest) l Ps As := by
  intro Z w a hs ha
  refine wpList_plain rfl fun K hK => ?_
  unfold Oper.wp
  rw [hq Z w a.eval hs fun x v hx => ha.eval hx]
  exact hK _ _ (h Z w _ hs (ha.put hd v))
/-- The value of a guard's slot. -/
theorem yielded_of {ops : Array Oper} {a : Act} (ha : Ag n l a) {j t : Nat} {ot : Oper} {b : Bool} (hj : ops[j]? = some ot) (hd : ot.dst = some t) (hv : lk l t = some (.bool b)) : yielded ops a.tmps j = some b := by
  have h1 := ha.get t _ hv
  unfold yielded
  rw [hj]
  simp only [Option.bind_some, hd]
  rw [Array.getD_eq_getD_getElem?] at h1
  cases h2 : a.tmps[t]? with
  | none => rw [h2] at h1; simp [undef] at h1
  | some u => rw [h2] at h1; simp at h1; subst h1; rfl
theorem yielded_undef {ops : Array Oper} {a : Act} (ha : Ag n l a) {j t : Nat} {ot : Oper} (hj : ops[j]? = some ot) (hd : ot.dst = some t) (hv : lk l t = some undef) : yielded ops a.tmps j = none := by
  have h1 := ha.get t _ hv
  unfold yielded
  rw [hj]
  simp only [Option.bind_some, hd]
  rw [Array.getD_eq_getD_getElem?] at h1
  cases h2 : a.tmps[t]? with
  | none => rfl
  | some u => rw [h2] at h1; simp at h1; subst h1; rfl
theorem WL_gq {d j t : Nat} {v : Value} {op : Op} {ty : TypeId} {pos : String} {aft : Array Edge} {b : Bool} {ot : Oper} (hj : ops[j]? = some ot) (hdt : ot.dst = some t) (hv : lk l t = some (.bool b))
    {b' : Bool} (hb : b = b') (hq : QR P l Ps As ⟨some d, op, ty, pos, aft, some (j, b')⟩ v) (hd : d < n) (h : WL P n ops R rest ((d, v) :: l) Ps As) : WL P n ops R (⟨some d, op, ty, pos, aft, some (j, b')⟩ :: rest) l Ps As := by
  intro Z w a hs ha
  refine wpList_step fun K hK => ?_
  have hy := yielded_of ha hj hdt hv
  rw [if_pos (by simp [Region.wanted, hy, hb])]
  unfold Oper.wp
  rw [hq Z w a.eval hs fun x v hx => ha.eval hx]
  exact hK _ _ (h Z w _ hs (ha.put hd v))
theorem WL_gmain {d j t : Nat} {op : Op} {ty : TypeId} {pos : String} {aft : Array Edge} {b : Bool} {ot : Oper} (hj : ops[j]? = some ot) (hdt : ot.dst = some t) (hv : lk l t = some (.bool b))
    {b' : Bool} (hb : b = b') (h : OW P n R l Ps As ⟨some d, op, ty, pos, aft, some (j, b')⟩ (WL P n ops R rest)) : WL P n ops R (⟨some d, op, ty, pos, aft, some (j, b')⟩ :: rest) l Ps As := by
  intro Z w a hs ha
  refine wpList_step fun K hK => ?_
  have hy := yielded_of ha hj hdt hv
  rw [if_pos (by simp [Region.wanted, hy, hb])]
  exact Oper.wp_mono (fun a w ⟨l, Z, Ps, As, h1, h2, h3⟩ => hK a w (h3 Z w a h2 h1)) (h Z w a hs ha)
theorem WL_gno {d j t : Nat} {op : Op} {ty : TypeId} {pos : String} {aft : Array Edge} {b b' : Bool} {ot : Oper} (hj : ops[j]? = some ot) (hdt : ot.dst = some t) (hv : lk l t = some (.bool b))
    (hb : b = !b') (hd : d < n) (h : WL P n ops R rest ((d, undef) :: l) Ps As) : WL P n ops R (⟨some d, op, ty, pos, aft, some (j, b')⟩ :: rest) l Ps As := by
  intro Z w a hs ha
  refine wpList_step fun K hK => ?_
  have hy := yielded_of ha hj hdt hv
  rw [if_neg (by simp [Region.wanted, hy, hb])]
  exact hK _ _ (h Z w _ hs (ha.put hd undef))
theorem WL_gun {d j t : Nat} {op : Op} {ty : TypeId} {pos : String} {aft : Array Edge} {b' : Bool} {ot : Oper} (hj : ops[j]? = some ot) (hdt : ot.dst = some t) (hv : lk l t = some undef)
    (hd : d < n) (h : WL P n ops R rest ((d, undef) :: l) Ps As) : WL P n ops R (⟨some d, op, ty, pos, aft, some (j, b')⟩ :: rest) l Ps As := by
  intro Z w a hs ha
  refine wpList_step fun K hK => ?_
  have hy := yielded_undef ha hj hdt hv
  rw [if_neg (by simp [Region.wanted, hy])]
  exact hK _ _ (h Z w _ hs (ha.put hd undef))
end

/-! ### Functions -/
/-- The results, out of the frame and the world. -/
inductive RV (P : Program) (l : Fr) (w : World) : List ResultVar → List Value → Prop
  | nil : RV P l w [] []
  | tmp {t : Nat} {v : Value} {rs : List ResultVar} {vs : List Value} (h : lk l t = some v) (hr : RV P l w rs vs) : RV P l w (.tmp t :: rs) (v :: vs)
  | cell {t : Nat} {T : TypeId} {a : Addr} {v : Value} {rs : List ResultVar} {vs : List Value} (h : lk l t = some (.pointer (some a))) (hl : (loadVar T a).run P w = .ok v w) (hr : RV P l w rs vs) : RV P l w (.cell t T :: rs) (v :: vs)
def tup : List Value → Value
  | [v] => v
  | vs => .tuple vs.toArray
theorem RV_run {P : Program} {l : Fr} {w : World} {a : Act} {n : Nat} (ha : Ag n l a) {rs : List ResultVar} {vs : List Value} (h : RV P l w rs vs)
    (f : ResultVar → Sem Value) (h1 : ∀ t, f (.tmp t) = pure (a.tmps.getD t undef)) (h2 : ∀ b T, f (.cell b T) = (do loadVar T (← asAddr (a.tmps.getD b undef)))) :
    (rs.mapM f).run P w = .ok vs w := by
  induction h with
  | nil => rfl
  | tmp h hr ih =>
    rw [List.mapM_cons, h1]
    simp only [Sem.run_bind, Sem.run_pure, Result.andThen_ok, ih, ha.get _ _ h]
  | cell h hl hr ih =>
    rw [List.mapM_cons, h2, ha.get _ _ h]
    have h9 : ∀ (q : Addr) w, (asAddr (Value.pointer (some q))).run P w = .ok q w := fun _ _ => rfl
    simp only [Sem.run_bind, Sem.run_pure, Result.andThen_ok, h9, hl, ih]
theorem results_of {P : Program} {l : Fr} {w : World} {a : Act} {n : Nat} {fn : Func} (ha : Ag n l a) {vs : List Value} (h : RV P l w fn.results.toList vs) :
    (results fn a.tmps).run P w = .ok (tup vs) w := by
  unfold results
  rw [Sem.run_bind, Array.mapM_eq_mapM_toList, Sem.run_map, RV_run ha h _ (fun _ => rfl) (fun _ _ => rfl)]
  simp only [Result.andThen_ok, Sem.run_pure]
  congr 1
  unfold tup
  rcases vs with _ | ⟨v, _ | ⟨u, r⟩⟩ <;> simp

/-- A function can be called: it has a body. -/
structure Enters (P : Program) (k : FuncId) (c : Code) (rs : List ResultVar) (n : Nat) : Prop where
  ex : ∃ fn, P.funcs[k]? = some fn ∧ fn.body = some c ∧ fn.results.toList = rs ∧ fn.ntmps = n ∧ (fn.name == "runtime.NumGoroutine") = false
def argsFr : List Value → Nat → Fr
  | [], _ => []
  | v :: vs, k => (k, v) :: argsFr vs (k + 1)
theorem lk_argsFr : ∀ (vs : List Value) (k t : Nat) (v : Value), lk (argsFr vs k) t = some v → k ≤ t ∧ vs[t - k]? = some v
  | [], k, t, v, h => by simp [argsFr, lk] at h
  | u :: vs, k, t, v, h => by
    unfold argsFr at h
    rw [lk_cons] at h
    by_cases e : t = k
    · rw [if_pos e] at h; subst e; simp; exact Option.some.inj h
    · rw [if_neg e] at h
      obtain ⟨h1, h2⟩ := lk_argsFr vs (k + 1) t v h
      refine ⟨by omega, ?_⟩
      have : t - k = (t - (k + 1)) + 1 := by omega
      rw [this]; simpa using h2

/-- The contract of a function: parts handed in, facts asked for, what is told of its result. -/
structure Sp (P : Program) (k : FuncId) (args : List Value) (Lin : List Part) (pre : List Fact) (res : Value → List Part → List Fact → Prop) : Prop where
  enters : ∃ c rs n, Enters P k c rs n
  calls : ∀ Z w Ps As, St Z w (Lin ++ Ps) (pre ++ As) → Calls P k args.toArray w fun e w' => ∃ v, e = .returned v ∧ ∃ Z' Lo fs, res v Lo fs ∧ St Z' w' (Lo ++ Ps) (fs ++ (pre ++ As))
/-- What a body must come to. -/
def fin (P : Program) (rs : List ResultVar) (res : Value → List Part → List Fact → Prop) (Ps : List Part) (As : List Fact) : Post := fun e l Ps' As' => match e with
  | .normal | .ret => ∃ vs Lo fs, (∀ Z w, St Z w Ps' As' → RV P l w rs vs) ∧ res (tup vs) Lo fs ∧ (∀ Z w, St Z w Ps' As' → ∃ Z', St Z' w (Lo ++ Ps) (fs ++ As))
  | _ => False
theorem Sp.of {P : Program} {k : FuncId} {args : List Value} {Lin : List Part} {pre : List Fact} {res : Value → List Part → List Fact → Prop} {c : Code} {rs : List ResultVar} {n : Nat}
    (he : Enters P k c rs n) (hn : args.length ≤ n) (h : ∀ Ps As, WC P n c (fin P rs res Ps (pre ++ As)) (argsFr args 0) (Lin ++ Ps) (pre ++ As)) : Sp P k args Lin pre res := by
  refine ⟨⟨c, rs, n, he⟩, fun Z w Ps As hs => ?_⟩
  obtain ⟨fn, h1, h2, h3, h4, h5⟩ := he.ex
  refine calls_of_wp h1 h2 (wp_mono (h Ps As Z w _ hs ⟨?_, rfl, ?_⟩) ?_)
  · simp [h4]; omega
  · intro t v ht
    obtain ⟨_, h7⟩ := lk_argsFr args 0 t v ht
    have h8 : t < args.length := by
      rcases Nat.lt_or_ge t args.length with h | h
      · exact h
      · simp [List.getElem?_eq_none h] at h7
    simp only [Nat.sub_zero] at h7
    rw [Array.getD_eq_getD_getElem?, Array.getElem?_append_left (by simpa using h8)]
    simp [h7]
  · rintro e a w' ⟨l, Z', Ps', As', g1, g2, g3⟩
    cases e with
    | normal =>
      obtain ⟨vs, Lo, fs, k1, k2, k3⟩ := g3
      obtain ⟨Z2, k4⟩ := k3 Z' w' g2
      exact ⟨g1.defers, tup vs, results_of g1 (h3 ▸ k1 Z' w' g2), _, rfl, Z2, Lo, fs, k2, k4⟩
    | ret =>
      obtain ⟨vs, Lo, fs, k1, k2, k3⟩ := g3
      obtain ⟨Z2, k4⟩ := k3 Z' w' g2
      exact ⟨g1.defers, tup vs, results_of g1 (h3 ▸ k1 Z' w' g2), _, rfl, Z2, Lo, fs, k2, k4⟩
    | _ => exact g3.elim
theorem Sp.mono {P : Program} {k : FuncId} {args : List Value} {Lin : List Part} {pre : List Fact} {res res' : Value → List Part → List Fact → Prop} (h : Sp P k args Lin pre res) (hr : ∀ v Lo fs, res v Lo fs → res' v Lo fs) : Sp P k args Lin pre res' :=
  ⟨h.enters, fun Z w Ps As hs => (h.calls Z w Ps As hs).mono fun e w' ⟨v, he, Z', Lo, fs, h1, h2⟩ => ⟨v, he, Z', Lo, fs, hr _ _ _ h1, h2⟩⟩

section
variable {P : Program} {n : Nat} {R : Post} {l : Fr} {Ps : List Part} {As : List Fact}
/-- Operands' values. -/
inductive Evs (l : Fr) : List Operand → List Value → Prop
  | nil : Evs l [] []
  | cons {x : Operand} {v : Value} {xs : List Operand} {vs : List Value} (h : evs l x = some v) (hr : Evs l xs vs) : Evs l (x :: xs) (v :: vs)
theorem Evs.map {l : Fr} {xs : List Operand} {vs : List Value} (h : Evs l xs vs) {ρ : Operand → Value} (hρ : ∀ x v, evs l x = some v → ρ x = v) : xs.map ρ = vs := by
  induction h with
  | nil => rfl
  | cons h hr ih => simp [hρ _ _ h, ih]
theorem run_callFunc {k : FuncId} (he : ∃ c rs n, Enters P k c rs n) (args : Array Value) (w : World) : (callFunc k args).run P w = .ok (.enter k args) w := by
  obtain ⟨c, rs, n, fn, h1, h2, h3, h4, h5⟩ := he
  have h6 : fn.name ≠ "runtime.NumGoroutine" := by simpa using h5
  simp [callFunc, h1, h6, h2]
/-- A call of a function by its contract. -/
theorem OW_call {k : FuncId} {d : Nat} {xs : List Operand} {ts : Array TypeId} {ty : TypeId} {pos : String} {aft : Array Edge} {g : Option (Nat × Bool)} {args : List Value} {Lin Ps' : List Part} {pre : List Fact} {res : Value → List Part → List Fact → Prop} {K : Nx}
    (hsp : Sp P k args Lin pre res) (hxs : Evs l xs args) (hd : d < n) (hP : ∀ {Z w}, St Z w Ps As → St Z w (Lin ++ Ps') (pre ++ As))
    (h : ∀ v Lo fs, res v Lo fs → K ((d, v) :: l) (Lo ++ Ps') (fs ++ As)) :
    OW P n R l Ps As ⟨some d, .call ⟨.value (.func k), xs.toArray, ts⟩, ty, pos, aft, g⟩ K := by
  intro Z w a hs ha
  have hrun : (execOp a.eval ⟨some d, .call ⟨.value (.func k), xs.toArray, ts⟩, ty, pos, aft, g⟩).run P w = .ok (.enter k args.toArray) w := by
    have h1 := hxs.map fun x v hx => ha.eval hx
    have h2 := run_callFunc hsp.enters args.toArray w
    simp only [execOp, resolve, Deferred.ofValue, invoke, Act.eval, List.map_toArray, h1, Sem.run_bind, Sem.run_pure, Result.andThen_ok]
    simpa using h2
  unfold Oper.wp
  rw [hrun, Oper.upon_enter]
  refine (hsp.calls Z w Ps' As (hP hs)).mono ?_
  rintro e w' ⟨v, rfl, Z', Lo, fs, h1, h2⟩
  refine ⟨(d, v) :: l, Z', Lo ++ Ps', fs ++ As, ha.put hd v, h2.subFacts ?_, h v Lo fs h1⟩
  intro A hA
  rcases List.mem_append.1 hA with h | h
  · exact List.mem_append.2 (.inl h)
  · exact List.mem_append.2 (.inr (List.mem_append.2 (.inr h)))
end
end Go.GW
