/- The rules by which this claim's walks go: texts that are cut and ranged over, slices that are cut, made slices, maps by ids. -/
import Derived.Test.YtggdddkbhigjoaaDoorGwF
import Derived.Laws.MakeOwn
import Derived.Maps.RangeRun
set_option linter.unusedVariables false
set_option linter.unusedSimpArgs false
namespace Go.GW
open Go

section
variable {P : Program} {n : Nat} {R : Post} {l : Fr} {Ps Ps' : List Part} {As : List Fact} {ops : Array Oper} {rest : List Oper} {ty : TypeId} {pos : String} {aft : Array Edge} {g : Option (Nat × Bool)} {K : Nx} {d : Nat} {dd : Option Tmp}
/-! ### Texts -/
theorem q_sliceSlo {T : TypeId} {x lo : Operand} {s : ByteArray} {i : Int} (hu : P.underlying T = some .string) (hx : evs l x = some (.string s)) (hi : evs l lo = some (.int .i64 i)) (h0 : 0 ≤ i) (h1 : i ≤ s.size) :
    QR P l Ps As ⟨dd, .slice T x (some lo) none none, ty, pos, aft, g⟩ (.string (s.extract i.toNat s.size)) := fun Z w ρ hs hρ => by
  simp [execOp, Instr.sliceAt, Instr.slice, Instr.sliceBounds, Instr.sliceBound, asIntOf, run_underlying hu, hρ _ _ hx, hρ _ _ hi, h0, h1]
theorem q_sliceShi {T : TypeId} {x hi' : Operand} {s : ByteArray} {i : Int} (hu : P.underlying T = some .string) (hx : evs l x = some (.string s)) (hi : evs l hi' = some (.int .i64 i)) (h0 : 0 ≤ i) (h1 : i ≤ s.size) :
    QR P l Ps As ⟨dd, .slice T x none (some hi') none, ty, pos, aft, g⟩ (.string (s.extract 0 i.toNat)) := fun Z w ρ hs hρ => by
  simp [execOp, Instr.sliceAt, Instr.slice, Instr.sliceBounds, Instr.sliceBound, asIntOf, run_underlying hu, hρ _ _ hx, hρ _ _ hi, h0, h1]
theorem St.setBlock {Z : Nat → Prop} {w : World} {b : Nat} {o o' : Obj} (h : St Z w ([(b, o)] :: Ps) As) : St Z { w with heap := w.heap.setIfInBounds b o' } ([(b, o')] :: Ps) As := by
  have hb : w.heap[b]? = some o := (h.own (b, _) (by simp)).1
  have hlt : b < w.heap.size := (Array.getElem?_eq_some_iff.1 hb).1
  refine h.turn rfl rfl rfl (by simp) (fun b' hb' hn => ?_) (fun q hq => ?_) (by simp)
  · have hne : b ≠ b' := fun e => hn o (by subst e; exact List.mem_singleton.2 rfl)
    simp [Array.getElem?_setIfInBounds, hne]
  · simp only [List.mem_singleton] at hq
    subst hq
    refine ⟨by simp [Array.getElem?_setIfInBounds, hlt], .inl ⟨o, List.mem_singleton.2 rfl⟩⟩
theorem OW_rangeS {T : TypeId} {x : Operand} {s : ByteArray} (hu : P.underlying T = some .string) (hx : evs l x = some (.string s)) (hd : d < n)
    (h : ∀ b, K ((d, .pointer (some ⟨b, 0, none⟩)) :: l) ([(b, .stringIter s 0)] :: Ps) As) : OW P n R l Ps As ⟨some d, .range T x, ty, pos, aft, g⟩ K :=
  OW_value rfl hd fun Z w ρ hs hρ => ⟨_, w.alloc (.stringIter s 0), Z, _, As, by
    simp only [execOp, hρ _ _ hx, Instr.range, Sem.run_bind, run_underlying hu, Result.andThen_ok, Sem.run_pure, run_newObj]; rfl, hs.alloc _, h _⟩
theorem q_nextS0 {x : Operand} {s : ByteArray} {b p : Nat} (hx : evs l x = some (.pointer (some ⟨b, 0, none⟩))) (hb : OwnAt Ps b (.stringIter s p)) (hp : ¬ p < s.size) :
    QR P l Ps As ⟨dd, .next x true, ty, pos, aft, g⟩ (.tuple #[.bool false]) := fun Z w ρ hs hρ => by
  have h := hs.block hb
  simp [execOp, hρ _ _ hx, Instr.next, getObj, Sem.run, h, hp]
theorem OW_nextS0 {x : Operand} {s : ByteArray} {b p : Nat} (hx : evs l x = some (.pointer (some ⟨b, 0, none⟩))) (hb : OwnAt Ps b (.stringIter s p)) (hp : ¬ p < s.size) (hd : d < n)
    (h : K ((d, .tuple #[.bool false]) :: l) Ps As) : OW P n R l Ps As ⟨some d, .next x true, ty, pos, aft, g⟩ K :=
  OW_value rfl hd fun Z w ρ hs hρ => ⟨_, w, Z, Ps, As, q_nextS0 hx hb hp Z w ρ hs hρ, hs, h⟩
theorem OW_nextS1 {x : Operand} {s : ByteArray} {b p : Nat} (hx : evs l x = some (.pointer (some ⟨b, 0, none⟩))) (hp : p < s.size) (hP : SetAt Ps [(b, .stringIter s p)] [(b, .stringIter s (p + (Utf8.decode s p).2))] Ps') (hd : d < n)
    (h : K ((d, .tuple #[.bool true, .int .i64 p, .int .i32 (Utf8.decode s p).1]) :: l) Ps' As) : OW P n R l Ps As ⟨some d, .next x true, ty, pos, aft, g⟩ K :=
  OW_value rfl hd fun Z w ρ hs hρ => by
    have hb : w.heap[b]? = some (.stringIter s p) := by
      obtain ⟨Qs, h3, h4⟩ := hP.perm
      exact ((hs.permParts h3).own (b, _) (by simp)).1
    refine ⟨_, { w with heap := w.heap.setIfInBounds b (.stringIter s (p + (Utf8.decode s p).2)) }, Z, Ps', As, ?_, hs.setAt hP fun h => h.setBlock, h⟩
    simp [execOp, hρ _ _ hx, Instr.next, getObj, setObj, Sem.run, hb, hp, goInt]

/-! ### Slices that are cut -/
def cutA (A : Option Addr) (lo m sz : Nat) : Option Addr := if m = lo then A else A.map (·.add (lo * sz))
theorem run_slice {T E : TypeId} {A : Option Addr} {len cap lo hi m : Nat} {z : Option Value} {sz by_ : Nat} {w : World} {vl vh vm : Option Value} (hu : P.underlying T = some (.slice E)) (ht : ti P E = some (z, sz, by_))
    (hb : (Instr.sliceBounds true len cap vl vh vm).run P w = .ok (lo, hi, m) w) : (Instr.sliceAt T (.slice A len cap) vl vh vm).run P w = .ok (.slice (cutA A lo m sz) (hi - lo) (m - lo)) w := by
  simp only [Instr.sliceAt, Instr.slice, Sem.run_bind, run_underlying hu, Result.andThen_ok, hb, run_sizeOf ht, Sem.run_pure]
  rfl
theorem q_cutLo {T E : TypeId} {x lo : Operand} {A : Option Addr} {len cap : Nat} {i : Int} {z : Option Value} {sz by_ : Nat} (hu : P.underlying T = some (.slice E)) (ht : ti P E = some (z, sz, by_)) (hx : evs l x = some (.slice A len cap)) (hi : evs l lo = some (.int .i64 i)) (h0 : 0 ≤ i) (h1 : i ≤ len) :
    QR P l Ps As ⟨dd, .slice T x (some lo) none none, ty, pos, aft, g⟩ (.slice (cutA A i.toNat cap sz) (len - i.toNat) (cap - i.toNat)) := fun Z w ρ hs hρ => by
  have := run_slice (P := P) (A := A) (len := len) (cap := cap) (lo := i.toNat) (hi := len) (m := cap) (vl := some (.int .i64 i)) (vh := none) (vm := none) (w := w) hu ht (by simp [Instr.sliceBounds, Instr.sliceBound, asIntOf, h0, h1])
  simp only [execOp, hρ _ _ hx, hρ _ _ hi, Option.map_some, Option.map_none, Sem.run_bind, this, Result.andThen_ok, Sem.run_pure]
theorem q_cutHi {T E : TypeId} {x hi' : Operand} {A : Option Addr} {len cap : Nat} {i : Int} {z : Option Value} {sz by_ : Nat} (hu : P.underlying T = some (.slice E)) (ht : ti P E = some (z, sz, by_)) (hx : evs l x = some (.slice A len cap)) (hi : evs l hi' = some (.int .i64 i)) (h0 : 0 ≤ i) (h1 : i ≤ cap) :
    QR P l Ps As ⟨dd, .slice T x none (some hi') none, ty, pos, aft, g⟩ (.slice (cutA A 0 cap sz) i.toNat cap) := fun Z w ρ hs hρ => by
  have := run_slice (P := P) (A := A) (len := len) (cap := cap) (lo := 0) (hi := i.toNat) (m := cap) (vl := none) (vh := some (.int .i64 i)) (vm := none) (w := w) hu ht (by simp [Instr.sliceBounds, Instr.sliceBound, asIntOf, h0, h1])
  simp only [execOp, hρ _ _ hx, hρ _ _ hi, Option.map_some, Option.map_none, Sem.run_bind, this, Result.andThen_ok, Sem.run_pure, Nat.sub_zero]
theorem q_cutLoHi {T E : TypeId} {x lo hi' : Operand} {A : Option Addr} {len cap : Nat} {i j : Int} {z : Option Value} {sz by_ : Nat} (hu : P.underlying T = some (.slice E)) (ht : ti P E = some (z, sz, by_)) (hx : evs l x = some (.slice A len cap)) (hl : evs l lo = some (.int .i64 i)) (hi : evs l hi' = some (.int .i64 j)) (h0 : 0 ≤ i) (hij : i ≤ j) (h1 : j ≤ cap) :
    QR P l Ps As ⟨dd, .slice T x (some lo) (some hi') none, ty, pos, aft, g⟩ (.slice (cutA A i.toNat cap sz) (j.toNat - i.toNat) (cap - i.toNat)) := fun Z w ρ hs hρ => by
  have h2 : i ≤ j.toNat := by omega
  have h3 : 0 ≤ j := by omega
  have := run_slice (P := P) (A := A) (len := len) (cap := cap) (lo := i.toNat) (hi := j.toNat) (m := cap) (vl := some (.int .i64 i)) (vh := some (.int .i64 j)) (vm := none) (w := w) hu ht (by simp [Instr.sliceBounds, Instr.sliceBound, asIntOf, h0, h1, Int.toNat_of_nonneg h3, hij, h3])
  simp only [execOp, hρ _ _ hx, hρ _ _ hi, hρ _ _ hl, Option.map_some, Option.map_none, Sem.run_bind, this, Result.andThen_ok, Sem.run_pure]
theorem q_cutHiMax {T E : TypeId} {x hi' mx : Operand} {A : Option Addr} {len cap : Nat} {i j : Int} {z : Option Value} {sz by_ : Nat} (hu : P.underlying T = some (.slice E)) (ht : ti P E = some (z, sz, by_)) (hx : evs l x = some (.slice A len cap)) (hi : evs l hi' = some (.int .i64 i)) (hm : evs l mx = some (.int .i64 j)) (h0 : 0 ≤ i) (hij : i ≤ j) (h1 : j ≤ cap) :
    QR P l Ps As ⟨dd, .slice T x none (some hi') (some mx), ty, pos, aft, g⟩ (.slice (cutA A 0 j.toNat sz) i.toNat j.toNat) := fun Z w ρ hs hρ => by
  have h2 : i ≤ j.toNat := by omega
  have h3 : 0 ≤ j := by omega
  have := run_slice (P := P) (A := A) (len := len) (cap := cap) (lo := 0) (hi := i.toNat) (m := j.toNat) (vl := none) (vh := some (.int .i64 i)) (vm := some (.int .i64 j)) (w := w) hu ht (by simp [Instr.sliceBounds, Instr.sliceBound, asIntOf, h0, h1, Int.toNat_of_nonneg h3, hij, h3])
  simp only [execOp, hρ _ _ hx, hρ _ _ hi, hρ _ _ hm, Option.map_some, Option.map_none, Sem.run_bind, this, Result.andThen_ok, Sem.run_pure, Nat.sub_zero]
theorem RdS.cut {α : Type} {e : De α} {Z : Nat → Prop} {w : World} {A : Option Addr} {cap : Nat} {xs : List α} (h : RdS e Z w A cap xs) {lo hi m : Nat} (h1 : lo ≤ hi) (h2 : hi ≤ xs.length) (h3 : hi ≤ m) (h4 : m ≤ cap) :
    RdS e Z w (cutA A lo m e.sz) (m - lo) ((xs.take hi).drop lo) := by
  obtain ⟨g1, g2, g3⟩ := h
  have hlen : ((xs.take hi).drop lo).length = hi - lo := by simp; omega
  refine ⟨by omega, by omega, ?_⟩
  rcases g3 with ⟨rfl, g3⟩ | ⟨b, q, css, rfl, g4, g5, g6⟩
  · refine .inl ⟨by simp, fun hA => ?_⟩
    unfold cutA at hA
    split at hA
    · omega
    · rcases A with _ | a
      · have := g3 rfl; omega
      · simp at hA
  · unfold cutA
    split
    · rename_i he
      refine .inr ⟨b, q, [], rfl, g4, ?_, ?_⟩
      · have : (xs.take hi).drop lo = [] := List.length_eq_zero_iff.1 (by omega)
        rw [this]; exact .nil
      · obtain ⟨full, T, fr, k1, k2⟩ := g6
        exact ⟨full, T, fr, k1, fun j v hv => by simp at hv⟩
    · refine .inr ⟨b, q + lo * e.sz, (css.take hi).drop lo, by simp [add_none], g4, (g5.take hi).drop lo, ?_⟩
      refine g6.part (lo * e.sz) fun j v hv => ?_
      have hlens := g5.lens
      have hlens' : ∀ cs ∈ css.take hi, cs.length = e.sz := fun cs hcs => hlens cs (List.mem_of_mem_take hcs)
      rw [flat_drop hlens', List.getElem?_drop] at hv
      have hpre : (css.take hi).flatten <+: css.flatten := by
        conv => rhs; rw [← List.take_append_drop hi css]
        rw [List.flatten_append]
        exact List.prefix_append _ _
      obtain ⟨t, ht⟩ := hpre
      rw [← ht, List.getElem?_append_left ?_]
      · exact hv
      · rcases Nat.lt_or_ge (lo * e.sz + j) (css.take hi).flatten.length with h | h
        · exact h
        · rw [List.getElem?_eq_none h] at hv; cases hv
theorem WC_cut {α : Type} {e : De α} {c : Code} {A : Option Addr} {cap : Nat} {xs : List α} (lo hi m : Nat) (hA : RdF e A cap xs ∈ As) (h1 : lo ≤ hi) (h2 : hi ≤ xs.length) (h3 : hi ≤ m) (h4 : m ≤ cap) (h : WC P n c R l Ps (RdF e (cutA A lo m e.sz) (m - lo) ((xs.take hi).drop lo) :: As)) : WC P n c R l Ps As :=
  WC_fact (fun Z w hs => RdS.cut (hs.facts _ hA) h1 h2 h3 h4) h
theorem WL_cut {α : Type} {e : De α} {A : Option Addr} {cap : Nat} {xs : List α} (lo hi m : Nat) (hA : RdF e A cap xs ∈ As) (h1 : lo ≤ hi) (h2 : hi ≤ xs.length) (h3 : hi ≤ m) (h4 : m ≤ cap) (h : WL P n ops R rest l Ps (RdF e (cutA A lo m e.sz) (m - lo) ((xs.take hi).drop lo) :: As)) : WL P n ops R rest l Ps As :=
  WL_fact (fun Z w hs => RdS.cut (hs.facts _ hA) h1 h2 h3 h4) h
theorem WC_capLe {α : Type} {e : De α} {c : Code} {A : Option Addr} {cap : Nat} {xs : List α} (hA : RdF e A cap xs ∈ As) (h : xs.length ≤ cap → cap ≤ maxLen → WC P n c R l Ps As) : WC P n c R l Ps As :=
  fun Z w a hs ha => by
    have h1 : RdS e Z w A cap xs := hs.facts _ hA
    exact h h1.1 h1.2.1 Z w a hs ha

/-! ### A made slice -/
theorem madeCells_rep {v : Value} {k : Nat} : (madeCells #[v] k).toList = List.replicate k v := by
  apply List.ext_getElem
  · simp [madeCells]
  · intro i h1 h2
    simp [madeCells, Nat.mod_one]
theorem OW_make1 {T E : TypeId} {x y : Operand} {zv : Value} {by_ k : Nat} (hu : P.underlying T = some (.slice E)) (ht : ti P E = some (some zv, 1, by_)) (hz : zv.cells = #[zv]) (hx : evs l x = some (.int .i64 k)) (hy : evs l y = some (.int .i64 k)) (hk : k * by_ ≤ 281474976710656) (hm : k ≤ maxLen) (hd : d < n)
    (h : ∀ b, K ((d, .slice (some ⟨b, 0, none⟩) k k) :: l) ([(b, cellsO (List.replicate k zv) E)] :: Ps) As) : OW P n R l Ps As ⟨some d, .makeSlice T x y, ty, pos, aft, g⟩ K :=
  OW_value rfl hd fun Z w ρ hs hρ => by
    unfold ti at ht
    cases hi : P.info? E with
    | none => rw [hi] at ht; cases ht
    | some i =>
      rw [hi] at ht
      simp only [Option.map_some, Option.some.injEq, Prod.mk.injEq] at ht
      have hm' := hm
      simp only [maxLen] at hm'
      have hb' : (i.bytes : Int) * (k : Int) ≤ 281474976710656 := by
        have h1 : ((i.bytes * k : Nat) : Int) ≤ 281474976710656 := by rw [ht.2.2, Nat.mul_comm]; omega
        rwa [Int.natCast_mul] at h1
      have hr := run_make (P := P) w T E i zv hu hi ht.1 .i64 .i64 k k (by omega) (by omega) hb' (by omega)
      refine ⟨_, w.alloc (cellsO (List.replicate k zv) E), Z, _, As, ?_, hs.alloc _, h w.heap.size⟩
      simp only [execOp, hρ _ _ hx, hρ _ _ hy, Sem.run_bind, hr, Result.andThen_ok, Sem.run_pure, Int.toNat_natCast]
      have : madeCells zv.cells (k * i.size) = (List.replicate k zv).toArray := by
        apply Array.ext'
        rw [hz, ht.2.1, Nat.mul_one, madeCells_rep]
      rw [this]
end
end Go.GW
