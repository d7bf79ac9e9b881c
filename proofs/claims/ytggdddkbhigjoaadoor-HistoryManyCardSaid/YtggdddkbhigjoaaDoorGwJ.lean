/- The rules by which this claim's walks go: a block within a part written; three parts handed to a call; an entry of a map read behind a step. -/
import Derived.Test.YtggdddkbhigjoaaDoorGwI
set_option linter.unusedVariables false
set_option linter.unusedSimpArgs false
namespace Go.GW
open Go
section
variable {P : Program} {n : Nat} {R : Post} {l : Fr} {Ps Ps' : List Part} {As : List Fact} {ops : Array Oper} {rest : List Oper} {ty : TypeId} {pos : String} {aft : Array Edge} {g : Option (Nat × Bool)} {K : Nx} {d : Nat} {dd : Option Tmp}
theorem St.pick {Z : Nat → Prop} {w : World} {p : Part} (h : St Z w Ps As) (hd : DelAt Ps p Ps') : St Z w (p :: Ps') As := h.permParts hd.perm
theorem St.setCellP {Z : Nat → Prop} {w : World} {p : Part} {b i k : Nat} {cs : List Value} {T : TypeId} (h : St Z w (p :: Ps) As) (hi : p[i]? = some (b, cellsO cs T)) (v : Value) : St Z (w.setCell ⟨b, k, none⟩ v) (p.set i (b, cellsO (cs.set k v) T) :: Ps) As := by
  have hm : (b, cellsO cs T) ∈ p := List.mem_of_getElem? hi
  have hb : w.heap[b]? = some (cellsO cs T) := (h.own (b, _) (by simp [hm])).1
  have hnd := h.nodup
  rw [List.flatten_cons, List.map_append, List.nodup_append] at hnd
  have hlt : i < p.length := by
    rcases Nat.lt_or_ge i p.length with h | h
    · exact h
    · simp [List.getElem?_eq_none h] at hi
  have hpi : p[i] = (b, cellsO cs T) := by rw [List.getElem?_eq_getElem hlt] at hi; exact Option.some.inj hi
  have hfst : (p.set i (b, cellsO (cs.set k v) T)).map Prod.fst = p.map Prod.fst := by
    rw [List.map_set]
    apply List.ext_getElem
    · simp
    · intro j h1 h2
      rw [List.getElem_set]
      split
      · rename_i e; subst e; simp [hpi]
      · rfl
  refine h.turn rfl rfl rfl (by simp [World.setCell]) (fun b' hb' hn => setCell_other v (fun e => hn _ (by subst e; exact hm))) (fun q hq => ?_) (by rw [hfst]; exact hnd.1)
  obtain ⟨j, hj, rfl⟩ := List.mem_iff_getElem.1 hq
  rw [List.getElem_set]
  split
  · exact ⟨setCell_block hb v, .inl ⟨_, hm⟩⟩
  · rename_i hne
    have hj' : j < p.length := by simpa using hj
    have hmj : p[j] ∈ p := List.getElem_mem hj'
    refine ⟨?_, .inl ⟨_, hmj⟩⟩
    have h1 : p[j].1 ≠ b := fun e => by
      have h2 : (p.map Prod.fst)[j]'(by simpa using hj') = (p.map Prod.fst)[i]'(by simpa using hlt) := by simp [hpi, e]
      exact hne ((List.getElem_inj hnd.1).1 h2).symm
    rw [setCell_other v h1]
    exact (h.own _ (by simp [hmj])).1
theorem OW_storeP {T : TypeId} {x y : Operand} {b o i : Nat} {v : Value} {cs cs' : List Value} {T' : TypeId} {z : Option Value} {by_ : Nat} {p : Part} (ht : ti P T = some (z, 1, by_)) (hx : evs l x = some (.pointer (some ⟨b, o, none⟩))) (hy : evs l y = some v) (hv : v.oneCell' = true)
    (hi : p[i]? = some (b, cellsO cs T')) (hc : SetL cs o v cs') (hp : SetAt Ps p (p.set i (b, cellsO cs' T')) Ps') (h : K l Ps' As) : OW P n R l Ps As ⟨none, .store T x y, ty, pos, aft, g⟩ K :=
  OW_skip rfl fun Z w ρ hs hρ => by
    obtain ⟨h1, h2⟩ := hc.eq
    have hm : (b, cellsO cs T') ∈ p := List.mem_of_getElem? hi
    have hb : w.heap[b]? = some (cellsO cs T') := by
      obtain ⟨Qs, h3, h4⟩ := hp.perm
      exact ((hs.permParts h3).own (b, _) (by simp [hm])).1
    have hcell : v.cells = #[v] := by cases v <;> first | rfl | (simp [Value.oneCell'] at hv; done)
    refine ⟨w.setCell ⟨b, o, none⟩ v, Z, Ps', As, ?_, ?_, h⟩
    · simp only [execOp, hρ _ _ hx, hρ _ _ hy, Instr.storeAt, Instr.sureAddr, storeVar, Sem.run_bind, Sem.run_pure, Result.andThen_ok, run_sizeOf ht, hcell]
      simp [storeCells, add_none, run_store1 hb h1 hv]
    · subst h2; exact hs.setAt hp fun h => h.setCellP hi v
theorem OW_call2 {k : FuncId} {xs : List Operand} {ts : Array TypeId} {args : List Value} {p1 p2 : Part} {Q1 Q2 : List Part} {pre : List Fact} {res : Value → List Part → List Fact → Prop}
    (hsp : Sp P k args [p1, p2] pre res) (hxs : Evs l xs args) (hd : d < n) (h1 : DelAt Ps p1 Q1) (h2 : DelAt Q1 p2 Q2) (hpre : ∀ A ∈ pre, A ∈ As)
    (h : ∀ v Lo fs, res v Lo fs → K ((d, v) :: l) (Lo ++ Q2) (fs ++ As)) :
    OW P n R l Ps As ⟨some d, .call ⟨.value (.func k), xs.toArray, ts⟩, ty, pos, aft, g⟩ K :=
  OW_callP hsp hxs hd (by
    have e1 := h1.perm; have e2 := h2.perm
    simp only [List.flatten_cons, List.cons_append, List.nil_append] at e1 e2 ⊢
    exact (List.Perm.append_left p1 e2).trans e1) hpre h
theorem OW_call3 {k : FuncId} {xs : List Operand} {ts : Array TypeId} {args : List Value} {p1 p2 p3 : Part} {Q1 Q2 Q3 : List Part} {pre : List Fact} {res : Value → List Part → List Fact → Prop}
    (hsp : Sp P k args [p1, p2, p3] pre res) (hxs : Evs l xs args) (hd : d < n) (h1 : DelAt Ps p1 Q1) (h2 : DelAt Q1 p2 Q2) (h3 : DelAt Q2 p3 Q3) (hpre : ∀ A ∈ pre, A ∈ As)
    (h : ∀ v Lo fs, res v Lo fs → K ((d, v) :: l) (Lo ++ Q3) (fs ++ As)) :
    OW P n R l Ps As ⟨some d, .call ⟨.value (.func k), xs.toArray, ts⟩, ty, pos, aft, g⟩ K :=
  OW_callP hsp hxs hd (by
    have e1 := h1.perm; have e2 := h2.perm; have e3 := h3.perm
    simp only [List.flatten_cons, List.cons_append, List.nil_append] at e1 e2 e3 ⊢
    exact (List.Perm.append_left p1 ((List.Perm.append_left p2 e3).trans e2)).trans e1) hpre h
theorem q_lookN {T Kt E : TypeId} {x y : Operand} {m : Nat} {L : List MK} {c k : Int} {sz by_ : Nat} (hk : KeyT P Kt) (hg : mGet L c k = none) (hu : P.underlying T = some (.map Kt E)) (ht : ti P E = some (some (.pointer none), sz, by_)) (hx : evs l x = some (.map (some m))) (hy : evs l y = some (idV c k)) (hb : OwnAt Ps m (mapO L)) :
    QR P l Ps As ⟨dd, .lookup T x y false, ty, pos, aft, g⟩ (.pointer none) := by
  have := q_look (dd := dd) (As := As) (ty := ty) (pos := pos) (aft := aft) (g := g) hk hu ht hx hy hb
  rw [hg] at this; exact this
theorem q_lookS {T Kt E : TypeId} {x y : Operand} {m b : Nat} {L : List MK} {c k : Int} {sz by_ : Nat} (hk : KeyT P Kt) (hg : mGet L c k = some b) (hu : P.underlying T = some (.map Kt E)) (ht : ti P E = some (some (.pointer none), sz, by_)) (hx : evs l x = some (.map (some m))) (hy : evs l y = some (idV c k)) (hb : OwnAt Ps m (mapO L)) :
    QR P l Ps As ⟨dd, .lookup T x y false, ty, pos, aft, g⟩ (.pointer (some ⟨b, 0, none⟩)) := by
  have := q_look (dd := dd) (As := As) (ty := ty) (pos := pos) (aft := aft) (g := g) hk hu ht hx hy hb
  rw [hg] at this; exact this
/-- Ways that meet: what holds there. -/
theorem WC_meet {α : Type} (fr : α → Fr) (ps : α → List Part) (as : α → List Fact) (p : α → Prop) {c e : Code} (h1 : WC P n c (thenR (fun l Ps As => ∃ x, p x ∧ Sub (fr x) l ∧ (ps x).Sublist Ps ∧ ∀ A ∈ as x, A ∈ As) R) l Ps As) (h2 : ∀ x, p x → WC P n e R (fr x) (ps x) (as x)) : WC P n (.seq c e) R l Ps As :=
  WC_join (fun l Ps As => ∃ x, p x ∧ Sub (fr x) l ∧ (ps x).Sublist Ps ∧ ∀ A ∈ as x, A ∈ As) h1 fun l Ps As ⟨x, hp, hl, hP, hA⟩ => WC_sub hl hP hA (h2 x hp)
theorem WC_pick {c : Code} {p : Part} (hd : DelAt Ps p Ps') (k : WC P n c R l (p :: Ps') As) : WC P n c R l Ps As := fun Z w a hs ha => k Z w a (hs.pick hd) ha
theorem WL_pick {p : Part} (hd : DelAt Ps p Ps') (k : WL P n ops R rest l (p :: Ps') As) : WL P n ops R rest l Ps As := fun Z w a hs ha => k Z w a (hs.pick hd) ha
theorem WC_glue {c : Code} {p q : Part} (k : WC P n c R l ((q ++ p) :: Ps) As) : WC P n c R l (p :: q :: Ps) As := fun Z w a hs ha => k Z w a (hs.permParts (by
  simp only [List.flatten_cons, List.append_assoc]
  exact List.perm_append_comm_assoc q p _)) ha
/-- A slice of one element, given up. -/
theorem St.freeze1 {α : Type} {e : De α} {T : TypeId} {b : Nat} {cs : List Value} {u : α} {Z : Nat → Prop} {w : World} (hs : St Z w Ps As) (hp : DelAt Ps [(b, cellsO cs T)] Ps') (hr : e.rep Z w u cs) : ∃ Z', St Z' w Ps' (RdF e (some ⟨b, 0, none⟩) 1 [u] :: As) := by
  have hl := e.len hr
  have hrow : Row T e.sz (.slice (some ⟨b, 0, none⟩) 1 1) 1 [cs].flatten [(b, cellsO cs T)] := by
    refine ⟨by simp [hl], .inr ⟨b, 1, [], rfl, by simp, by simp [hl], Nat.le_refl _, by simp [maxLen]⟩⟩
  obtain ⟨A, cap, Z', h1, h2⟩ := (hs.addFact (A := RepsF e [u] [cs]) (.cons hr .nil)).freezeRow hp hrow rfl (.head _)
  obtain ⟨rfl, _, rfl⟩ := Value.slice.inj h1
  exact ⟨Z', h2.subFacts fun A hA => by
    rcases List.mem_cons.1 hA with rfl | hA
    · exact .head _
    · exact .tail _ (.tail _ hA)⟩
theorem WE_freeze1 {α : Type} {e : De α} {T : TypeId} {b : Nat} {cs : List Value} {u : α} {ws : World} {Z0 : Nat → Prop} {Ps0 : List Part} {As0 : List Fact} {r : List (Nat × Nat)} (hp : DelAt Ps [(b, cellsO cs T)] Ps') (hr : ∀ Z w, St Z w Ps As → e.rep Z w u cs)
    (k : WE P n ops R ws Z0 Ps0 As0 r l Ps' (RdF e (some ⟨b, 0, none⟩) 1 [u] :: As)) : WE P n ops R ws Z0 Ps0 As0 r l Ps As := fun h0 Z w a hs ha => by
  obtain ⟨Z', h2⟩ := hs.freeze1 hp (hr Z w hs)
  exact k h0 Z' w a h2 ha
theorem WL_freeze1 {α : Type} {e : De α} {T : TypeId} {b : Nat} {cs : List Value} {u : α} (hp : DelAt Ps [(b, cellsO cs T)] Ps') (hr : ∀ Z w, St Z w Ps As → e.rep Z w u cs)
    (k : WL P n ops R rest l Ps' (RdF e (some ⟨b, 0, none⟩) 1 [u] :: As)) : WL P n ops R rest l Ps As := fun Z w a hs ha => by
  obtain ⟨Z', h2⟩ := hs.freeze1 hp (hr Z w hs)
  exact k Z' w a h2 ha
theorem WC_freeze1 {c : Code} {α : Type} {e : De α} {T : TypeId} {b : Nat} {cs : List Value} {u : α} (hp : DelAt Ps [(b, cellsO cs T)] Ps') (hr : ∀ Z w, St Z w Ps As → e.rep Z w u cs)
    (k : WC P n c R l Ps' (RdF e (some ⟨b, 0, none⟩) 1 [u] :: As)) : WC P n c R l Ps As := fun Z w a hs ha => by
  obtain ⟨Z', h2⟩ := hs.freeze1 hp (hr Z w hs)
  exact k Z' w a h2 ha
/-- The entry that a step has handed out. -/
theorem q_entryM {x : Operand} {m r j : Nat} {L : List MK} {y : MK} {seen : Array Nat} (hx : evs l x = some (.pointer (some ⟨r, 0, none⟩))) (hb : OwnAt Ps m (mapO L)) (hr : OwnAt Ps r (.mapIter (some m) L.length (seen.push j) L.length)) (hj : L[j]? = some y) :
    QR P l Ps As ⟨dd, .entry x, ty, pos, aft, g⟩ (.tuple #[idV y.c y.n, .pointer (some ⟨y.b, 0, none⟩)]) := fun Z w ρ hs hρ => by
  have e1 := hs.block hr
  have e2 := hs.block hb
  have hg := mkEs_get L 0 j y hj
  simp only [Nat.zero_add] at hg
  have hborn : ∀ (L : List MK) (i : Nat), (mkEs L i).map (·.born) = List.range' i L.length := by
    intro L
    induction L with
    | nil => intro i; rfl
    | cons a L ih => intro i; simp [mkEs, ih (i + 1), List.range'_succ]
  have := run_entry_at (P := P) w r m L.length seen (mkEs L 0).toArray L.length ⟨idV y.c y.n, .pointer (some ⟨y.b, 0, none⟩), j⟩ e1 e2 (by simpa using List.mem_of_getElem? hg) (by
    show ((mkEs L 0).map (·.born)).Nodup
    rw [hborn]; exact List.nodup_range')
  simp only [execOp, hρ _ _ hx]
  rw [Sem.run_bind, this]; rfl
/-- Facts of a list's elements, all at once. -/
def AllF {α : Type} (xs : List α) (f : α → Fact) : Fact where
  holds Z w := ∀ x ∈ xs, (f x).holds Z w
  stable hz hh h1 h2 h3 h := fun x hx => (f x).stable hz hh h1 h2 h3 (h x hx)
theorem WC_all {α : Type} {c : Code} {xs : List α} {f : α → Fact} (x : α) (hA : AllF xs f ∈ As) (hx : x ∈ xs) (h : WC P n c R l Ps (f x :: As)) : WC P n c R l Ps As := WC_fact (fun Z w hs => hs.facts _ hA x hx) h
theorem WL_all {α : Type} {xs : List α} {f : α → Fact} (x : α) (hA : AllF xs f ∈ As) (hx : x ∈ xs) (h : WL P n ops R rest l Ps (f x :: As)) : WL P n ops R rest l Ps As := WL_fact (fun Z w hs => hs.facts _ hA x hx) h
end
end Go.GW
