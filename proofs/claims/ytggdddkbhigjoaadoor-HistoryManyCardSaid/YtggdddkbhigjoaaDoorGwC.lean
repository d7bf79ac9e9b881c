/- The rules by which this claim's walks go: operations that make or write memory; slices that are read; slices of our own. -/
import Derived.Test.YtggdddkbhigjoaaDoorGwB
import Derived.Maps.AppendAt
import Derived.Laws.AppendOwnNone
set_option linter.unusedVariables false
set_option linter.unusedSimpArgs false
namespace Go.GW
open Go

/-! ### The state, when memory is made or written -/
theorem alloc_old (w : World) (o : Obj) {b : Nat} (h : b < w.heap.size) : (w.alloc o).heap[b]? = w.heap[b]? := by
  show (w.heap.push o)[b]? = _
  rw [Array.getElem?_push, if_neg (by omega)]
theorem alloc_new (w : World) (o : Obj) : (w.alloc o).heap[w.heap.size]? = some o := by
  show (w.heap.push o)[w.heap.size]? = _
  simp
theorem St.lt {Z : Nat → Prop} {w : World} {Ps : List Part} {As : List Fact} (h : St Z w Ps As) {q : Nat × Obj} (hq : q ∈ Ps.flatten) : q.1 < w.heap.size :=
  (Array.getElem?_eq_some_iff.1 (h.own q hq).1).1
/-- A step that leaves all blocks but those of one part as they were, and makes new ones. -/
theorem St.turn {Z : Nat → Prop} {w w' : World} {Ps : List Part} {p p' : Part} {As : List Fact} (h : St Z w (p :: Ps) As) (os : w'.os = w.os) (tape : w'.tape = w.tape) (output : w'.output = w.output) (size : w.heap.size ≤ w'.heap.size)
    (hk : ∀ b, b < w.heap.size → (∀ o, (b, o) ∉ p) → w'.heap[b]? = w.heap[b]?)
    (hp : ∀ q ∈ p', w'.heap[q.1]? = some q.2 ∧ ((∃ o, (q.1, o) ∈ p) ∨ w.heap.size ≤ q.1)) (hn : (p'.map Prod.fst).Nodup) : St Z w' (p' :: Ps) As := by
  have hz : ∀ b, Z b → w'.heap[b]? = w.heap[b]? := fun b hb => hk b (h.zlt b hb) fun o ho => (h.own (b, o) (by simp [ho])).2 hb
  have hnd := h.nodup
  rw [List.flatten_cons, List.map_append, List.nodup_append] at hnd
  refine ⟨fun b hb => Nat.lt_of_lt_of_le (h.zlt b hb) size, fun q hq => ?_, ?_, fun A hA => A.stable (fun _ hb => hb) hz os tape output (h.facts A hA)⟩
  · rw [List.flatten_cons] at hq
    rcases List.mem_append.1 hq with hq | hq
    · obtain ⟨h1, h2⟩ := hp q hq
      refine ⟨h1, fun hb => ?_⟩
      rcases h2 with ⟨o, ho⟩ | h2
      · exact (h.own (q.1, o) (by simp [ho])).2 hb
      · exact absurd (h.zlt _ hb) (by omega)
    · have h3 : q ∈ (p :: Ps).flatten := by rw [List.flatten_cons]; exact List.mem_append_right _ hq
      obtain ⟨h1, h2⟩ := h.own q h3
      refine ⟨?_, h2⟩
      rw [hk q.1 (h.lt h3) fun o ho => ?_]
      · exact h1
      · exact hnd.2.2 q.1 (List.mem_map.2 ⟨(q.1, o), ho, rfl⟩) q.1 (List.mem_map.2 ⟨q, hq, rfl⟩) rfl
  · rw [List.flatten_cons, List.map_append, List.nodup_append]
    refine ⟨hn, hnd.2.1, fun a ha b hb e => ?_⟩
    subst e
    obtain ⟨q, hq, rfl⟩ := List.mem_map.1 ha
    obtain ⟨q2, hq2, e2⟩ := List.mem_map.1 hb
    rcases (hp q hq).2 with ⟨o, ho⟩ | h2
    · exact hnd.2.2 q.1 (List.mem_map.2 ⟨(q.1, o), ho, rfl⟩) q.1 (List.mem_map.2 ⟨q2, hq2, e2⟩) rfl
    · have h3 : q2 ∈ (p :: Ps).flatten := by rw [List.flatten_cons]; exact List.mem_append_right _ hq2
      have := h.lt h3
      omega
theorem St.nilPart {Z : Nat → Prop} {w : World} {Ps : List Part} {As : List Fact} (h : St Z w Ps As) : St Z w ([] :: Ps) As := h.permParts (by simp)
theorem St.alloc {Z : Nat → Prop} {w : World} {Ps : List Part} {As : List Fact} (h : St Z w Ps As) (o : Obj) : St Z (w.alloc o) ([(w.heap.size, o)] :: Ps) As := by
  refine h.nilPart.turn rfl rfl rfl (by simp) (fun b hb _ => alloc_old w o hb) (fun q hq => ?_) (by simp)
  simp only [List.mem_singleton] at hq
  subst hq
  exact ⟨alloc_new w o, .inr (Nat.le_refl _)⟩
/-- A part is given up: it is never written any more. -/
theorem St.freeze {Z : Nat → Prop} {w : World} {Ps : List Part} {p : Part} {As : List Fact} (h : St Z w (p :: Ps) As) : St (fun b => Z b ∨ ∃ o, (b, o) ∈ p) w Ps As := by
  have hnd := h.nodup
  rw [List.flatten_cons, List.map_append, List.nodup_append] at hnd
  refine ⟨fun b hb => ?_, fun q hq => ?_, hnd.2.1, fun A hA => A.stable (fun _ hb => .inl hb) (fun _ _ => rfl) rfl rfl rfl (h.facts A hA)⟩
  · rcases hb with hb | ⟨o, ho⟩
    · exact h.zlt b hb
    · exact h.lt (q := (b, o)) (by simp [ho])
  · have h3 : q ∈ (p :: Ps).flatten := by rw [List.flatten_cons]; exact List.mem_append_right _ hq
    refine ⟨(h.own q h3).1, fun hb => ?_⟩
    rcases hb with hb | ⟨o, ho⟩
    · exact (h.own q h3).2 hb
    · exact hnd.2.2 q.1 (List.mem_map.2 ⟨(q.1, o), ho, rfl⟩) q.1 (List.mem_map.2 ⟨q, hq, rfl⟩) rfl

/-- One part among several. -/
inductive SetAt : List Part → Part → Part → List Part → Prop
  | z {p p' : Part} {Ps : List Part} : SetAt (p :: Ps) p p' (p' :: Ps)
  | s {p p' r : Part} {Ps Ps' : List Part} (h : SetAt Ps p p' Ps') : SetAt (r :: Ps) p p' (r :: Ps')
theorem SetAt.perm {Ps Ps' : List Part} {p p' : Part} (h : SetAt Ps p p' Ps') : ∃ Qs, (p :: Qs).flatten.Perm Ps.flatten ∧ Ps'.flatten.Perm (p' :: Qs).flatten := by
  induction h with
  | z => exact ⟨_, List.Perm.refl _, List.Perm.refl _⟩
  | @s p p' r Ps Ps' h ih =>
    obtain ⟨Qs, h1, h2⟩ := ih
    refine ⟨r :: Qs, ?_, ?_⟩
    · simp only [List.flatten_cons] at h1 ⊢
      have := (List.perm_append_comm_assoc p r Qs.flatten).trans (h1.append_left r)
      exact this
    · simp only [List.flatten_cons] at h2 ⊢
      exact (h2.append_left r).trans (List.perm_append_comm_assoc r p' Qs.flatten)
theorem St.setAt {Z : Nat → Prop} {w w' : World} {Ps Ps' : List Part} {p p' : Part} {As : List Fact} (h : St Z w Ps As) (hp : SetAt Ps p p' Ps') (k : ∀ {Qs}, St Z w (p :: Qs) As → St Z w' (p' :: Qs) As) : St Z w' Ps' As := by
  obtain ⟨Qs, h1, h2⟩ := hp.perm
  exact (k (h.permParts h1)).permParts h2
/-- One part is taken out. -/
inductive DelAt : List Part → Part → List Part → Prop
  | z {p : Part} {Ps : List Part} : DelAt (p :: Ps) p Ps
  | s {p r : Part} {Ps Ps' : List Part} (h : DelAt Ps p Ps') : DelAt (r :: Ps) p (r :: Ps')
theorem DelAt.perm {Ps Ps' : List Part} {p : Part} (h : DelAt Ps p Ps') : (p :: Ps').flatten.Perm Ps.flatten := by
  induction h with
  | z => exact List.Perm.refl _
  | @s p r Ps Ps' h ih =>
    simp only [List.flatten_cons] at ih ⊢
    exact (List.perm_append_comm_assoc p r Ps'.flatten).trans (ih.append_left r)
/-- Cells written into a list of cells. -/
inductive SetL : List Value → Nat → Value → List Value → Prop
  | z {x v : Value} {cs : List Value} : SetL (x :: cs) 0 v (v :: cs)
  | s {x v : Value} {cs cs' : List Value} {k : Nat} (h : SetL cs k v cs') : SetL (x :: cs) (k + 1) v (x :: cs')
theorem SetL.eq {cs cs' : List Value} {k : Nat} {v : Value} (h : SetL cs k v cs') : k < cs.length ∧ cs' = cs.set k v := by
  induction h with
  | z => simp
  | s h ih => obtain ⟨h1, h2⟩ := ih; subst h2; simp; omega

theorem setCell_block {w : World} {b k : Nat} {cs : List Value} {T : TypeId} (h : w.heap[b]? = some (cellsO cs T)) (v : Value) : (w.setCell ⟨b, k, none⟩ v).heap[b]? = some (cellsO (cs.set k v) T) := by
  simp [World.setCell, h, Array.getElem?_modify, cellsO]
theorem setCell_other {w : World} {b b' k : Nat} (v : Value) (h : b' ≠ b) : (w.setCell ⟨b, k, none⟩ v).heap[b']? = w.heap[b']? := by
  simp only [World.setCell, Array.getElem?_modify]
  rw [if_neg (fun e => h e.symm)]
theorem St.setCell {Z : Nat → Prop} {w : World} {Ps : List Part} {As : List Fact} {b k : Nat} {cs : List Value} {T : TypeId} (h : St Z w ([(b, cellsO cs T)] :: Ps) As) (v : Value) : St Z (w.setCell ⟨b, k, none⟩ v) ([(b, cellsO (cs.set k v) T)] :: Ps) As := by
  have hb : w.heap[b]? = some (cellsO cs T) := (h.own (b, _) (by simp)).1
  refine h.turn rfl rfl rfl (by simp [World.setCell]) (fun b' hb' hn => setCell_other v (fun e => hn _ (by subst e; exact List.mem_singleton.2 rfl))) (fun q hq => ?_) (by simp)
  simp only [List.mem_singleton] at hq
  subst hq
  exact ⟨setCell_block hb v, .inl ⟨cellsO cs T, List.mem_singleton.2 rfl⟩⟩
theorem run_store1 {P : Program} {w : World} {b k : Nat} {cs : List Value} {T : TypeId} {v : Value} (h : w.heap[b]? = some (cellsO cs T)) (hk : k < cs.length) (hv : v.oneCell' = true) : (store ⟨b, k, none⟩ v).run P w = .ok () (w.setCell ⟨b, k, none⟩ v) := by
  rw [run_store P w _ v _ hv]
  have h1 : w.cell? ⟨b, k, none⟩ = some cs[k] := by simp [World.cell?, h, cellsO, hk]
  have h2 : w.frozen? ⟨b, k, none⟩ = false := by simp [World.frozen?, h, cellsO]
  rw [h1, h2]; rfl
def setAll : List Value → Nat → List Value → List Value
  | cs, _, [] => cs
  | cs, k, v :: vs => setAll (cs.set k v) (k + 1) vs
theorem setAll_length : ∀ (vs cs : List Value) (k : Nat), (setAll cs k vs).length = cs.length
  | [], _, _ => rfl
  | v :: vs, cs, k => by rw [setAll, setAll_length vs]; simp
theorem run_storeCells {P : Program} {b : Nat} {T : TypeId} {Z : Nat → Prop} {Ps : List Part} {As : List Fact} : ∀ (vs : List Value) (w : World) (cs : List Value) (o i : Nat), St Z w ([(b, cellsO cs T)] :: Ps) As → o + i + vs.length ≤ cs.length → (∀ v ∈ vs, v.oneCell' = true) →
    ∃ w', (storeCells ⟨b, o, none⟩ vs i).run P w = .ok () w' ∧ St Z w' ([(b, cellsO (setAll cs (o + i) vs) T)] :: Ps) As
  | [], w, cs, o, i, h, _, _ => ⟨w, rfl, h⟩
  | v :: vs, w, cs, o, i, h, hl, hv => by
    have hb : w.heap[b]? = some (cellsO cs T) := (h.own (b, _) (by simp)).1
    simp only [List.length_cons] at hl
    obtain ⟨w', h1, h2⟩ := run_storeCells vs (w.setCell ⟨b, o + i, none⟩ v) (cs.set (o + i) v) o (i + 1) (h.setCell v) (by simp; omega) (fun u hu => hv u (List.mem_cons_of_mem _ hu))
    refine ⟨w', ?_, h2⟩
    rw [storeCells, Sem.run_bind, add_none, run_store1 hb (by omega) (hv v List.mem_cons_self)]
    exact h1

section
variable {P : Program} {n : Nat} {R : Post} {l : Fr} {Ps Ps' : List Part} {As : List Fact} {ty : TypeId} {pos : String} {aft : Array Edge} {g : Option (Nat × Bool)} {K : Nx}
theorem OW_value {d : Nat} {o : Oper} (ho : o.dst = some d) (hd : d < n) (h : ∀ Z w (ρ : Operand → Value), St Z w Ps As → (∀ x v, evs l x = some v → ρ x = v) → ∃ v w' Z' Ps' As', (execOp ρ o).run P w = .ok (.value v) w' ∧ St Z' w' Ps' As' ∧ K ((d, v) :: l) Ps' As') : OW P n R l Ps As o K := by
  intro Z w a hs ha
  obtain ⟨v, w', Z', Ps', As', h1, h2, h3⟩ := h Z w a.eval hs fun x v hx => ha.eval hx
  unfold Oper.wp
  rw [h1]
  exact ⟨(d, v) :: l, Z', Ps', As', by rw [ho]; exact ha.put hd v, h2, h3⟩
theorem OW_skip {o : Oper} (ho : o.dst = none) (h : ∀ Z w (ρ : Operand → Value), St Z w Ps As → (∀ x v, evs l x = some v → ρ x = v) → ∃ w' Z' Ps' As', (execOp ρ o).run P w = .ok .skip w' ∧ St Z' w' Ps' As' ∧ K l Ps' As') : OW P n R l Ps As o K := by
  intro Z w a hs ha
  obtain ⟨w', Z', Ps', As', h1, h2, h3⟩ := h Z w a.eval hs fun x v hx => ha.eval hx
  unfold Oper.wp
  rw [h1]
  exact ⟨l, Z', Ps', As', by rw [ho]; exact ha, h2, h3⟩
theorem OW_box {d : Nat} {T : TypeId} {x : Operand} {v : Value} {cs : List Value} (hx : evs l x = some v) (hc : v.cells = cs.toArray) (hd : d < n)
    (h : ∀ b, K ((d, .pointer (some ⟨b, 0, none⟩)) :: l) ([(b, cellsO cs T)] :: Ps) As) : OW P n R l Ps As ⟨some d, .box T x, ty, pos, aft, g⟩ K :=
  OW_value rfl hd fun Z w ρ hs hρ => ⟨_, _, Z, _, As, by simp only [execOp, hρ _ _ hx]; rfl, by rw [hc]; exact hs.alloc _, h _⟩
theorem OW_alloc {d : Nat} {T : TypeId} {z : Value} {sz by_ : Nat} {cs : List Value} (ht : ti P T = some (some z, sz, by_)) (hc : z.cells = cs.toArray) (hd : d < n)
    (h : ∀ b, K ((d, .pointer (some ⟨b, 0, none⟩)) :: l) ([(b, cellsO cs T)] :: Ps) As) : OW P n R l Ps As ⟨some d, .alloc T, ty, pos, aft, g⟩ K :=
  OW_value rfl hd fun Z w ρ hs hρ => ⟨_, _, Z, _, As, by
    simp only [execOp, Instr.alloc, Sem.run_bind, run_zeroValue ht, Result.andThen_ok]; rfl, by rw [hc]; exact hs.alloc _, h _⟩
theorem OW_store1 {T : TypeId} {x y : Operand} {b o : Nat} {v : Value} {cs cs' : List Value} {T' : TypeId} {z : Option Value} {by_ : Nat} (ht : ti P T = some (z, 1, by_)) (hx : evs l x = some (.pointer (some ⟨b, o, none⟩))) (hy : evs l y = some v) (hv : v.oneCell' = true)
    (hc : SetL cs o v cs') (hp : SetAt Ps [(b, cellsO cs T')] [(b, cellsO cs' T')] Ps') (h : K l Ps' As) : OW P n R l Ps As ⟨none, .store T x y, ty, pos, aft, g⟩ K :=
  OW_skip rfl fun Z w ρ hs hρ => by
    obtain ⟨h1, h2⟩ := hc.eq
    have hb : w.heap[b]? = some (cellsO cs T') := by
      obtain ⟨Qs, h3, h4⟩ := hp.perm
      exact ((hs.permParts h3).own (b, _) (by simp)).1
    have hcell : v.cells = #[v] := by cases v <;> first | rfl | (simp [Value.oneCell'] at hv; done)
    refine ⟨w.setCell ⟨b, o, none⟩ v, Z, Ps', As, ?_, ?_, h⟩
    · simp only [execOp, hρ _ _ hx, hρ _ _ hy, Instr.storeAt, Instr.sureAddr, storeVar, Sem.run_bind, Sem.run_pure, Result.andThen_ok, run_sizeOf ht, hcell]
      simp [storeCells, add_none, run_store1 hb h1 hv]
    · subst h2; exact hs.setAt hp fun h => h.setCell v
theorem OW_storeN {T : TypeId} {x y : Operand} {b o sz : Nat} {vs cs cs' : List Value} {T' : TypeId} {z : Option Value} {by_ : Nat} (ht : ti P T = some (z, sz, by_)) (hx : evs l x = some (.pointer (some ⟨b, o, none⟩))) (hy : evs l y = some (.agg vs.toArray)) (hl : vs.length = sz) (hv : vs.all Value.oneCell' = true)
    (hc : setAll cs o vs = cs') (ho : o + vs.length ≤ cs.length) (hp : SetAt Ps [(b, cellsO cs T')] [(b, cellsO cs' T')] Ps') (h : K l Ps' As) : OW P n R l Ps As ⟨none, .store T x y, ty, pos, aft, g⟩ K :=
  OW_skip rfl fun Z w ρ hs hρ => by
    subst hc
    obtain ⟨Qs, h3, h4⟩ := hp.perm
    obtain ⟨w', h5, h6⟩ := run_storeCells (P := P) vs w cs o 0 (hs.permParts h3) (by omega) (fun v hv' => List.all_eq_true.1 hv v hv')
    refine ⟨w', Z, Ps', As, ?_, (by simpa using h6 : St Z w' ([(b, cellsO (setAll cs o vs) T')] :: Qs) As).permParts h4, h⟩
    simp only [execOp, hρ _ _ hx, hρ _ _ hy, Instr.storeAt, Instr.sureAddr, storeVar, Sem.run_bind, Sem.run_pure, Result.andThen_ok, run_sizeOf ht, Value.cells]
    simp only [List.size_toArray, hl, ne_eq, not_true_eq_false, if_false, List.toList_toArray]
    simp [h5]
end
end Go.GW
