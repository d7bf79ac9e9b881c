/- The rules by which this claim's walks go: single operations that change nothing. -/
import Derived.Test.YtggdddkbhigjoaaDoorGwA
import Derived.WideLaws
import Derived.Laws.Unary
set_option linter.unusedVariables false
set_option linter.unusedSimpArgs false
namespace Go.GW
open Go

def agg? : TypeDesc → Bool
  | .struct _ | .array _ _ => true
  | _ => false
def ti (P : Program) (T : TypeId) : Option (Option Value × Nat × Nat) := (P.info? T).map fun i => (i.zero, i.size, i.bytes)
theorem run_underlying' {P : Program} {T : TypeId} {d : TypeDesc} (h : P.underlying T = some d) (w : World) : (underlying T).run P w = .ok d w := run_underlying h w
theorem run_sizeOf {P : Program} {T : TypeId} {z : Option Value} {sz by_ : Nat} (h : ti P T = some (z, sz, by_)) (w : World) : (sizeOf T).run P w = .ok sz w := by
  unfold ti at h
  cases hi : P.info? T with
  | none => rw [hi] at h; cases h
  | some i =>
    rw [hi] at h
    simp only [Option.map_some, Option.some.injEq, Prod.mk.injEq] at h
    simp [sizeOf, typeInfo, hi, h.2.1]
theorem run_zeroValue {P : Program} {T : TypeId} {z : Value} {sz by_ : Nat} (h : ti P T = some (some z, sz, by_)) (w : World) : (zeroValue T).run P w = .ok z w := by
  unfold ti at h
  cases hi : P.info? T with
  | none => rw [hi] at h; cases h
  | some i =>
    rw [hi] at h
    simp only [Option.map_some, Option.some.injEq, Prod.mk.injEq] at h
    simp [zeroValue, typeInfo, hi, h.1]
theorem run_isAgg {P : Program} {T : TypeId} {d : TypeDesc} (h : P.underlying T = some d) (w : World) : (isAgg T).run P w = .ok (agg? d) w := by
  unfold isAgg
  rw [Sem.run_bind, run_underlying h]
  cases d <;> rfl
theorem add_none (b o k : Nat) : (⟨b, o, none⟩ : Addr).add k = ⟨b, o + k, none⟩ := by unfold Addr.add; split <;> simp_all

/-- Cells of a block that stand one behind the other. -/
def CellsAt (w : World) (b q : Nat) (cs : List Value) : Prop := ∃ full T fr, w.heap[b]? = some (.cells full T fr) ∧ ∀ j v, cs[j]? = some v → full[q + j]? = some v
theorem CellsAt.cell {w : World} {b q : Nat} {cs : List Value} (h : CellsAt w b q cs) {j : Nat} {v : Value} (hj : cs[j]? = some v) : w.cell? ⟨b, q + j, none⟩ = some v := by
  obtain ⟨full, T, fr, h1, h2⟩ := h
  simp [World.cell?, h1, h2 j v hj]
theorem CellsAt.part {w : World} {b q : Nat} {cs cs' : List Value} (h : CellsAt w b q cs) (k : Nat) (hc : ∀ j v, cs'[j]? = some v → cs[k + j]? = some v) : CellsAt w b (q + k) cs' := by
  obtain ⟨full, T, fr, h1, h2⟩ := h
  exact ⟨full, T, fr, h1, fun j v hv => by rw [Nat.add_assoc]; exact h2 _ _ (hc j v hv)⟩
theorem run_loadCells' {P : Program} {w : World} {b q : Nat} {cs : List Value} (h : CellsAt w b q cs) : (loadCells ⟨b, q, none⟩ cs.length).run P w = .ok cs.toArray w := by
  have := run_loadCells_list (P := P) (w := w) ⟨b, q, none⟩ cs (fun j v hv => by rw [add_none]; exact h.cell hv)
  simpa using this
theorem run_loadVar1 {P : Program} {w : World} {T : TypeId} {d : TypeDesc} {b q : Nat} {v : Value} (hu : P.underlying T = some d) (hd : agg? d = false) (h : w.cell? ⟨b, q, none⟩ = some v) :
    (loadVar T ⟨b, q, none⟩).run P w = .ok v w := by
  unfold loadVar
  rw [Sem.run_bind, run_isAgg hu, hd]
  simp [h]
theorem run_loadVarN {P : Program} {w : World} {T : TypeId} {d : TypeDesc} {b q : Nat} {z : Option Value} {sz by_ : Nat} {cs : List Value} (hu : P.underlying T = some d) (hd : agg? d = true) (ht : ti P T = some (z, sz, by_)) (hs : cs.length = sz) (h : CellsAt w b q cs) :
    (loadVar T ⟨b, q, none⟩).run P w = .ok (.agg cs.toArray) w := by
  subst hs
  unfold loadVar
  rw [Sem.run_bind, run_isAgg hu, hd]
  simp only [Result.andThen_ok, if_true, Sem.run_bind, run_sizeOf ht, run_loadCells' h, Sem.run_pure]

/-! ### Parts and facts -/
/-- A block of our own, with its cells. -/
abbrev cellsO (cs : List Value) (T : TypeId) : Obj := .cells cs.toArray T (0, 0)
def OwnAt (Ps : List Part) (b : Nat) (o : Obj) : Prop := (b, o) ∈ Ps.flatten
theorem own0 {b : Nat} {o : Obj} {p : Part} {Ps : List Part} : OwnAt (((b, o) :: p) :: Ps) b o := by simp [OwnAt]
theorem ownS {b : Nat} {o : Obj} {p : Part} {Ps : List Part} (h : OwnAt Ps b o) : OwnAt (p :: Ps) b o := by
  unfold OwnAt; rw [List.flatten_cons]; exact List.mem_append_right _ h
theorem ownI {b : Nat} {o : Obj} {p : Part} {Ps : List Part} (h : (b, o) ∈ p) : OwnAt (p :: Ps) b o := by
  unfold OwnAt; rw [List.flatten_cons]; exact List.mem_append_left _ h
theorem St.block {Z : Nat → Prop} {w : World} {Ps : List Part} {As : List Fact} (h : St Z w Ps As) {b : Nat} {o : Obj} (hb : OwnAt Ps b o) : w.heap[b]? = some o := (h.own _ hb).1
theorem St.cells {Z : Nat → Prop} {w : World} {Ps : List Part} {As : List Fact} (h : St Z w Ps As) {b : Nat} {cs : List Value} {T : TypeId} (hb : OwnAt Ps b (cellsO cs T)) : CellsAt w b 0 cs :=
  ⟨_, _, _, h.block hb, fun j v hv => by simpa using hv⟩
/-- Cells that are never written any more. -/
def FzA (b q : Nat) (cs : List Value) : Fact where
  holds Z w := Z b ∧ CellsAt w b q cs
  stable hz hh _ _ _ h := ⟨hz _ h.1, by
    obtain ⟨full, T, fr, h1, h2⟩ := h.2
    exact ⟨full, T, fr, (hh _ h.1).trans h1, h2⟩⟩

section
variable {P : Program} {l : Fr} {Ps : List Part} {As : List Fact} {d : Option Tmp} {ty : TypeId} {pos : String} {aft : Array Edge} {g : Option (Nat × Bool)}
theorem q_move {x : Operand} {v : Value} (h : evs l x = some v) : QR P l Ps As ⟨d, .move x, ty, pos, aft, g⟩ v := fun Z w ρ hs hρ => by
  simp only [execOp, hρ _ _ h]; rfl
theorem q_assign {x : Operand} {v : Value} (h : evs l x = some v) : QR P l Ps As ⟨d, .assign x, ty, pos, aft, g⟩ v := fun Z w ρ hs hρ => by
  simp only [execOp, hρ _ _ h]; rfl
theorem q_pickT {c x y : Operand} {b : Bool} {v : Value} (hc : evs l c = some (.bool b)) (hb : b = true) (h : evs l x = some v) : QR P l Ps As ⟨d, .pick c x y, ty, pos, aft, g⟩ v := fun Z w ρ hs hρ => by
  simp [execOp, hρ _ _ hc, hρ _ _ h, asBool, hb]
theorem q_pickF {c x y : Operand} {b : Bool} {v : Value} (hc : evs l c = some (.bool b)) (hb : b = false) (h : evs l y = some v) : QR P l Ps As ⟨d, .pick c x y, ty, pos, aft, g⟩ v := fun Z w ρ hs hρ => by
  simp [execOp, hρ _ _ hc, hρ _ _ h, asBool, hb]
theorem q_nil {x : Operand} {a : Addr} (h : evs l x = some (.pointer (some a))) : QR P l Ps As ⟨d, .nilCheck x, ty, pos, aft, g⟩ (.pointer (some a)) := fun Z w ρ hs hρ => by
  simp [execOp, hρ _ _ h]
theorem q_field {s : TypeId} {x : Operand} {f b o o' : Nat} {fs : Array Field} {fl : Field} {z : Option Value} {sz by_ : Nat} (hu : P.underlying s = some (.struct fs)) (hf : fs[f]? = some fl) (ht : ti P fl.type = some (z, sz + 1, by_))
    (h : evs l x = some (.pointer (some ⟨b, o, none⟩))) (ho : o + fl.offset = o') : QR P l Ps As ⟨d, .fieldAddr s x f, ty, pos, aft, g⟩ (.pointer (some ⟨b, o', none⟩)) := fun Z w ρ hs hρ => by
  subst ho
  simp only [execOp, hρ _ _ h, Instr.fieldAt, Instr.sureAddr, fieldPlace, Sem.run_bind, run_underlying hu, Result.andThen_ok, hf, Sem.run_pure, run_sizeOf ht, add_none]
  simp
/-- A load of one cell; of several. -/
theorem q_load1 {T : TypeId} {x : Operand} {dd : TypeDesc} {b o : Nat} {cs : List Value} {v : Value} {T' : TypeId} (hu : P.underlying T = some dd) (hd : agg? dd = false) (h : evs l x = some (.pointer (some ⟨b, o, none⟩)))
    (hb : OwnAt Ps b (cellsO cs T')) (hv : cs[o]? = some v) : QR P l Ps As ⟨d, .load T x, ty, pos, aft, g⟩ v := fun Z w ρ hs hρ => by
  have h1 := (hs.cells hb).cell hv
  rw [Nat.zero_add] at h1
  simp only [execOp, hρ _ _ h, Instr.loadAt, Instr.sureAddr, Sem.run_bind, Sem.run_pure, Result.andThen_ok, run_loadVar1 hu hd h1]
theorem q_loadN {T : TypeId} {x : Operand} {dd : TypeDesc} {b o : Nat} {cs vs : List Value} {T' : TypeId} {z : Option Value} {sz by_ : Nat} (hu : P.underlying T = some dd) (hd : agg? dd = true) (ht : ti P T = some (z, sz, by_)) (h : evs l x = some (.pointer (some ⟨b, o, none⟩)))
    (hb : OwnAt Ps b (cellsO cs T')) (hv : (cs.drop o).take sz = vs) (hl : vs.length = sz) : QR P l Ps As ⟨d, .load T x, ty, pos, aft, g⟩ (.agg vs.toArray) := fun Z w ρ hs hρ => by
  have h1 : CellsAt w b (0 + o) vs := (hs.cells hb).part o (fun j v hj => by
    rw [← hv, List.getElem?_take] at hj
    split at hj
    · rw [List.getElem?_drop] at hj; exact hj
    · cases hj)
  rw [Nat.zero_add] at h1
  simp only [execOp, hρ _ _ h, Instr.loadAt, Instr.sureAddr, Sem.run_bind, Sem.run_pure, Result.andThen_ok, run_loadVarN hu hd ht hl h1]
theorem q_loadF1 {T : TypeId} {x : Operand} {dd : TypeDesc} {b o q j : Nat} {cs : List Value} {v : Value} (hu : P.underlying T = some dd) (hd : agg? dd = false) (h : evs l x = some (.pointer (some ⟨b, o, none⟩)))
    (hA : FzA b q cs ∈ As) (ho : o = q + j) (hv : cs[j]? = some v) : QR P l Ps As ⟨d, .load T x, ty, pos, aft, g⟩ v := fun Z w ρ hs hρ => by
  subst ho
  have h1 := (hs.facts _ hA).2.cell hv
  simp only [execOp, hρ _ _ h, Instr.loadAt, Instr.sureAddr, Sem.run_bind, Sem.run_pure, Result.andThen_ok, run_loadVar1 hu hd h1]
theorem q_loadFN {T : TypeId} {x : Operand} {dd : TypeDesc} {b o q k : Nat} {cs vs : List Value} {z : Option Value} {sz by_ : Nat} (hu : P.underlying T = some dd) (hd : agg? dd = true) (ht : ti P T = some (z, sz, by_)) (h : evs l x = some (.pointer (some ⟨b, o, none⟩)))
    (hA : FzA b q cs ∈ As) (ho : o = q + k) (hv : (cs.drop k).take sz = vs) (hl : vs.length = sz) : QR P l Ps As ⟨d, .load T x, ty, pos, aft, g⟩ (.agg vs.toArray) := fun Z w ρ hs hρ => by
  subst ho
  have h1 : CellsAt w b (q + k) vs := (hs.facts _ hA).2.part k (fun j v hj => by
    rw [← hv, List.getElem?_take] at hj
    split at hj
    · rw [List.getElem?_drop] at hj; exact hj
    · cases hj)
  simp only [execOp, hρ _ _ h, Instr.loadAt, Instr.sureAddr, Sem.run_bind, Sem.run_pure, Result.andThen_ok, run_loadVarN hu hd ht hl h1]
theorem q_extract {x : Operand} {i : Nat} {vs : List Value} {v : Value} (h : evs l x = some (.tuple vs.toArray)) (hv : vs[i]? = some v) : QR P l Ps As ⟨d, .extract x i, ty, pos, aft, g⟩ v := fun Z w ρ hs hρ => by
  simp [execOp, hρ _ _ h, Instr.extract, hv]
theorem q_not {x : Operand} {t : TypeId} {b : Bool} (h : evs l x = some (.bool b)) : QR P l Ps As ⟨d, .unOp .not t x, ty, pos, aft, g⟩ (.bool (!b)) := fun Z w ρ hs hρ => by
  simp [execOp, hρ _ _ h, Op.unary]
/-! Whole numbers. -/
variable {t t2 : TypeId} {x y : Operand} {k : IntKind} {a b c : Int}
theorem q_add (hx : evs l x = some (.int k a)) (hy : evs l y = some (.int k b)) (hw : k.wrap (a + b) = c) : QR P l Ps As ⟨d, .binOp .add t x y t2, ty, pos, aft, g⟩ (.int k c) := fun Z w ρ hs hρ => by
  subst hw; simp [execOp, hρ _ _ hx, hρ _ _ hy, go_sem, Op.intArith]
theorem q_sub (hx : evs l x = some (.int k a)) (hy : evs l y = some (.int k b)) (hw : k.wrap (a - b) = c) : QR P l Ps As ⟨d, .binOp .sub t x y t2, ty, pos, aft, g⟩ (.int k c) := fun Z w ρ hs hρ => by
  subst hw; simp [execOp, hρ _ _ hx, hρ _ _ hy, go_sem, Op.intArith]
theorem q_mul (hx : evs l x = some (.int k a)) (hy : evs l y = some (.int k b)) (hw : k.wrap (a * b) = c) : QR P l Ps As ⟨d, .binOp .mul t x y t2, ty, pos, aft, g⟩ (.int k c) := fun Z w ρ hs hρ => by
  subst hw; simp [execOp, hρ _ _ hx, hρ _ _ hy, go_sem, Op.intArith]
theorem q_eql (hx : evs l x = some (.int k a)) (hy : evs l y = some (.int k b)) : QR P l Ps As ⟨d, .binOp .eql t x y t2, ty, pos, aft, g⟩ (.bool (a == b)) := fun Z w ρ hs hρ => by
  simp [execOp, hρ _ _ hx, hρ _ _ hy, go_sem]
theorem q_neq (hx : evs l x = some (.int k a)) (hy : evs l y = some (.int k b)) : QR P l Ps As ⟨d, .binOp .neq t x y t2, ty, pos, aft, g⟩ (.bool (a != b)) := fun Z w ρ hs hρ => by
  simp [execOp, hρ _ _ hx, hρ _ _ hy, go_sem]
theorem q_lss (hx : evs l x = some (.int k a)) (hy : evs l y = some (.int k b)) : QR P l Ps As ⟨d, .binOp .lss t x y t2, ty, pos, aft, g⟩ (.bool (decide (a < b))) := fun Z w ρ hs hρ => by
  simp [execOp, hρ _ _ hx, hρ _ _ hy, go_sem]
theorem q_leq (hx : evs l x = some (.int k a)) (hy : evs l y = some (.int k b)) : QR P l Ps As ⟨d, .binOp .leq t x y t2, ty, pos, aft, g⟩ (.bool (decide (a ≤ b))) := fun Z w ρ hs hρ => by
  simp [execOp, hρ _ _ hx, hρ _ _ hy, go_sem]
theorem q_gtr (hx : evs l x = some (.int k a)) (hy : evs l y = some (.int k b)) : QR P l Ps As ⟨d, .binOp .gtr t x y t2, ty, pos, aft, g⟩ (.bool (decide (b < a))) := fun Z w ρ hs hρ => by
  simp [execOp, hρ _ _ hx, hρ _ _ hy, go_sem]
theorem q_geq (hx : evs l x = some (.int k a)) (hy : evs l y = some (.int k b)) : QR P l Ps As ⟨d, .binOp .geq t x y t2, ty, pos, aft, g⟩ (.bool (decide (b ≤ a))) := fun Z w ρ hs hρ => by
  simp [execOp, hρ _ _ hx, hρ _ _ hy, go_sem]
theorem wr64 {x : Int} (h : -9223372036854775808 ≤ x ∧ x ≤ 9223372036854775807) : IntKind.i64.wrap x = x := by
  rw [IntKind.wrap_i64]; omega
end
end Go.GW
