/- The rules by which this claim's walks go: slices that are read, slices of our own, append, len, slicing. -/
import Derived.Test.YtggdddkbhigjoaaDoorGwC
import Derived.Laws.Slices
set_option linter.unusedVariables false
set_option linter.unusedSimpArgs false
namespace Go.GW
open Go

/-- How an element lies in its cells. -/
structure De (α : Type) where
  sz : Nat
  rep : (Nat → Prop) → World → α → List Value → Prop
  len : ∀ {Z w x cs}, rep Z w x cs → cs.length = sz
  one : ∀ {Z w x cs}, rep Z w x cs → cs.all Value.oneCell' = true
  stable : ∀ {x cs} {Z Z' : Nat → Prop} {w w' : World}, (∀ b, Z b → Z' b) → (∀ b, Z b → w'.heap[b]? = w.heap[b]?) → w'.os = w.os → w'.tape = w.tape → w'.output = w.output → rep Z w x cs → rep Z' w' x cs
/-- Elements and their cells, one by one. -/
inductive Reps {α : Type} (r : α → List Value → Prop) : List α → List (List Value) → Prop
  | nil : Reps r [] []
  | cons {x : α} {cs : List Value} {xs : List α} {css : List (List Value)} (h : r x cs) (hr : Reps r xs css) : Reps r (x :: xs) (cs :: css)
section
variable {α : Type} {r r' : α → List Value → Prop} {xs ys : List α} {css dss : List (List Value)}
theorem Reps.mono (h : Reps r xs css) (hr : ∀ x cs, r x cs → r' x cs) : Reps r' xs css := by
  induction h with
  | nil => exact .nil
  | cons h _ ih => exact .cons (hr _ _ h) ih
theorem Reps.length (h : Reps r xs css) : css.length = xs.length := by
  induction h with
  | nil => rfl
  | cons _ _ ih => simp [ih]
theorem Reps.append (h : Reps r xs css) (h' : Reps r ys dss) : Reps r (xs ++ ys) (css ++ dss) := by
  induction h with
  | nil => exact h'
  | cons h _ ih => exact .cons h ih
theorem Reps.at (h : Reps r xs css) : ∀ (i : Nat) (x : α), xs[i]? = some x → ∃ cs, css[i]? = some cs ∧ r x cs := by
  induction h with
  | nil => intro i x hi; simp at hi
  | @cons y cs ys css h _ ih =>
    intro i x hi
    cases i with
    | zero => simp at hi; subst hi; exact ⟨cs, by simp, h⟩
    | succ i => simpa using ih i x (by simpa using hi)
theorem Reps.set (h : Reps r xs css) : ∀ (i : Nat) (x : α) (cs : List Value), r x cs → Reps r (xs.set i x) (css.set i cs) := by
  induction h with
  | nil => intro i x cs hx; simp; exact .nil
  | @cons y ds ys css h hr ih =>
    intro i x cs hx
    cases i with
    | zero => exact .cons hx hr
    | succ i => exact .cons h (ih i x cs hx)
theorem Reps.drop (h : Reps r xs css) : ∀ k, Reps r (xs.drop k) (css.drop k) := by
  induction h with
  | nil => intro k; simp; exact .nil
  | cons h hr ih => intro k; cases k with | zero => exact .cons h hr | succ k => simpa using ih k
theorem Reps.take (h : Reps r xs css) : ∀ k, Reps r (xs.take k) (css.take k) := by
  induction h with
  | nil => intro k; simp; exact .nil
  | cons h hr ih => intro k; cases k with | zero => simp; exact .nil | succ k => simpa using Reps.cons h (ih k)
theorem flat_len {sz : Nat} : ∀ {css : List (List Value)}, (∀ cs ∈ css, cs.length = sz) → css.flatten.length = css.length * sz
  | [], _ => by simp
  | cs :: css, h => by
    rw [List.flatten_cons, List.length_append, h cs List.mem_cons_self, flat_len (fun c hc => h c (List.mem_cons_of_mem _ hc)), List.length_cons, Nat.add_mul]; omega
theorem flat_at {sz : Nat} : ∀ {css : List (List Value)} (h : ∀ cs ∈ css, cs.length = sz) (i : Nat) (cs : List Value), css[i]? = some cs → ∀ j v, cs[j]? = some v → css.flatten[i * sz + j]? = some v
  | [], _, i, cs, hi, j, v, hj => by simp at hi
  | c :: css, h, 0, cs, hi, j, v, hj => by
    simp at hi; subst hi
    have hlt : j < c.length := by
      rcases Nat.lt_or_ge j c.length with h | h
      · exact h
      · simp [List.getElem?_eq_none h] at hj
    rw [List.flatten_cons, Nat.zero_mul, Nat.zero_add, List.getElem?_append_left hlt]; exact hj
  | c :: css, h, i + 1, cs, hi, j, v, hj => by
    rw [List.flatten_cons, List.getElem?_append_right (by rw [h c List.mem_cons_self, Nat.add_mul]; omega), h c List.mem_cons_self]
    have : (i + 1) * sz + j - sz = i * sz + j := by rw [Nat.add_mul]; omega
    rw [this]
    exact flat_at (fun c hc => h c (List.mem_cons_of_mem _ hc)) i cs (by simpa using hi) j v hj
theorem flat_drop {sz : Nat} : ∀ {css : List (List Value)} (h : ∀ cs ∈ css, cs.length = sz) (k : Nat), (css.drop k).flatten = css.flatten.drop (k * sz)
  | [], _, k => by simp
  | c :: css, h, 0 => by simp
  | c :: css, h, k + 1 => by
    have h1 : c.drop ((k + 1) * sz) = [] := List.drop_eq_nil_of_le (by rw [h c List.mem_cons_self, Nat.add_mul]; omega)
    rw [List.drop_succ_cons, flat_drop (fun c hc => h c (List.mem_cons_of_mem _ hc)), List.flatten_cons, List.drop_append, h1, List.nil_append, h c List.mem_cons_self]
    congr 1; rw [Nat.add_mul]; omega
end
theorem Reps.lens {α : Type} {e : De α} {Z : Nat → Prop} {w : World} {xs : List α} {css : List (List Value)} (h : Reps (e.rep Z w) xs css) : ∀ cs ∈ css, cs.length = e.sz := by
  induction h with
  | nil => intro cs hc; cases hc
  | cons h _ ih => intro cs hc; rcases List.mem_cons.1 hc with rfl | hc; exact e.len h; exact ih cs hc
theorem Reps.ones {α : Type} {e : De α} {Z : Nat → Prop} {w : World} {xs : List α} {css : List (List Value)} (h : Reps (e.rep Z w) xs css) : ∀ v ∈ css.flatten, v.oneCell' = true := by
  induction h with
  | nil => intro v hv; simp at hv
  | cons h _ ih =>
    intro v hv
    rw [List.flatten_cons] at hv
    rcases List.mem_append.1 hv with hv | hv
    · exact List.all_eq_true.1 (e.one h) v hv
    · exact ih v hv

/-- A slice that is read and never written any more. -/
def RdS {α : Type} (e : De α) (Z : Nat → Prop) (w : World) (A : Option Addr) (cap : Nat) (xs : List α) : Prop :=
  xs.length ≤ cap ∧ cap ≤ maxLen ∧ ((xs = [] ∧ (A = none → cap = 0)) ∨ ∃ b q css, A = some ⟨b, q, none⟩ ∧ Z b ∧ Reps (e.rep Z w) xs css ∧ CellsAt w b q css.flatten)
theorem CellsAt.keep {w w' : World} {b q : Nat} {cs : List Value} (h : CellsAt w b q cs) (hh : w'.heap[b]? = w.heap[b]?) : CellsAt w' b q cs := by
  obtain ⟨full, T, fr, h1, h2⟩ := h
  exact ⟨full, T, fr, hh.trans h1, h2⟩
def RdF {α : Type} (e : De α) (A : Option Addr) (cap : Nat) (xs : List α) : Fact where
  holds Z w := RdS e Z w A cap xs
  stable hz hh h1 h2 h3 h := by
    obtain ⟨g1, g2, g3 | ⟨b, q, css, g3, g4, g5, g6⟩⟩ := h
    · exact ⟨g1, g2, .inl g3⟩
    · exact ⟨g1, g2, .inr ⟨b, q, css, g3, hz _ g4, g5.mono fun x cs => e.stable hz hh h1 h2 h3, g6.keep (hh _ g4)⟩⟩
def RepF {α : Type} (e : De α) (x : α) (cs : List Value) : Fact where
  holds Z w := e.rep Z w x cs
  stable hz hh h1 h2 h3 h := e.stable hz hh h1 h2 h3 h
def RepsF {α : Type} (e : De α) (xs : List α) (css : List (List Value)) : Fact where
  holds Z w := Reps (e.rep Z w) xs css
  stable hz hh h1 h2 h3 h := h.mono fun x cs => e.stable hz hh h1 h2 h3
theorem RdS.nil {α : Type} (e : De α) (Z : Nat → Prop) (w : World) : RdS e Z w none 0 [] := ⟨by simp, by simp [maxLen], .inl ⟨rfl, fun _ => rfl⟩⟩

/-! Elements' kinds. -/
def De.int (k : IntKind) : De Int where
  sz := 1
  rep _ _ x cs := cs = [.int k x]
  len h := by subst h; rfl
  one h := by subst h; rfl
  stable _ _ _ _ _ h := h
def De.str : De ByteArray where
  sz := 1
  rep _ _ x cs := cs = [.string x]
  len h := by subst h; rfl
  one h := by subst h; rfl
  stable _ _ _ _ _ h := h
/-- An element that is a slice. -/
def De.sl {α : Type} (e : De α) : De (List α) where
  sz := 1
  rep Z w xs cs := ∃ A cap, cs = [.slice A xs.length cap] ∧ RdS e Z w A cap xs
  len h := by obtain ⟨A, cap, rfl, _⟩ := h; rfl
  one h := by obtain ⟨A, cap, rfl, _⟩ := h; rfl
  stable hz hh h1 h2 h3 h := by
    obtain ⟨A, cap, g1, g2⟩ := h
    exact ⟨A, cap, g1, (RdF e A cap _).stable hz hh h1 h2 h3 g2⟩

/-- A slice of our own: its part of memory. -/
def Row (T : TypeId) (sz : Nat) (v : Value) (n : Nat) (cs : List Value) (p : Part) : Prop :=
  cs.length = n * sz ∧ ((v = .slice none 0 0 ∧ n = 0 ∧ p = []) ∨
    ∃ b cap jk, v = .slice (some ⟨b, 0, none⟩) n cap ∧ p = [(b, cellsO (cs ++ jk) T)] ∧ (cs ++ jk).length = cap * sz ∧ n ≤ cap ∧ cap ≤ maxLen)
theorem Row.nil (T : TypeId) (sz : Nat) : Row T sz (.slice none 0 0) 0 [] [] := ⟨by simp, .inl ⟨rfl, rfl, rfl⟩⟩
theorem Row.slice {T : TypeId} {sz n : Nat} {v : Value} {cs : List Value} {p : Part} (h : Row T sz v n cs p) : ∃ A cap, v = .slice A n cap := by
  rcases h.2 with ⟨rfl, rfl, _⟩ | ⟨b, cap, jk, rfl, _⟩
  · exact ⟨none, 0, rfl⟩
  · exact ⟨_, cap, rfl⟩
theorem Row.owns {T : TypeId} {sz n : Nat} {v : Value} {cs : List Value} {p : Part} {Z : Nat → Prop} {w : World} {Ps : List Part} {As : List Fact} (h : Row T sz v n cs p) (hs : St Z w (p :: Ps) As) : w.ownsRow 0 T sz v n cs := by
  refine ⟨h.1, ?_⟩
  rcases h.2 with ⟨rfl, rfl, _⟩ | ⟨b, cap, jk, rfl, rfl, h1, h2, h3⟩
  · exact .inl ⟨rfl, rfl⟩
  · refine .inr ⟨b, cap, (cs ++ jk).toArray, rfl, Nat.zero_le _, (hs.own (b, cellsO (cs ++ jk) T) (by simp)).1, h2, h3, by simpa using h1, ?_⟩
    rw [List.toList_toArray, ← h.1, List.take_left]
theorem Row.freeze {α : Type} {e : De α} {T : TypeId} {v : Value} {n : Nat} {p : Part} {css : List (List Value)} {xs : List α} {Z : Nat → Prop} {w : World} {Ps : List Part} {As : List Fact} (h : Row T e.sz v n css.flatten p) (hn : n = xs.length) (hs : St Z w (p :: Ps) As) (hr : Reps (e.rep Z w) xs css) :
    ∃ A cap, v = .slice A xs.length cap ∧ RdS e (fun b => Z b ∨ ∃ o, (b, o) ∈ p) w A cap xs := by
  subst hn
  rcases h.2 with ⟨rfl, h1, _⟩ | ⟨b, cap, jk, rfl, rfl, h1, h2, h3⟩
  · have : xs = [] := List.length_eq_zero_iff.1 h1
    subst this
    exact ⟨none, 0, rfl, RdS.nil _ _ _⟩
  · refine ⟨_, cap, rfl, h2, h3, .inr ⟨b, 0, css, rfl, .inr ⟨_, List.mem_singleton.2 rfl⟩, hr.mono fun x cs => e.stable (fun _ hb => .inl hb) (fun _ _ => rfl) rfl rfl rfl, ?_⟩⟩
    refine ⟨_, _, _, (hs.own (b, cellsO (css.flatten ++ jk) T) (by simp)).1, fun j u hu => ?_⟩
    have hlt : j < css.flatten.length := by
      rcases Nat.lt_or_ge j css.flatten.length with h | h
      · exact h
      · simp [List.getElem?_eq_none h] at hu
    simp only [Nat.zero_add, List.getElem?_toArray]
    rw [List.getElem?_append_left hlt]; exact hu

section
variable {P : Program} {n : Nat} {R : Post} {l : Fr} {Ps Ps' : List Part} {As : List Fact} {ops : Array Oper} {rest : List Oper} {ty : TypeId} {pos : String} {aft : Array Edge} {g : Option (Nat × Bool)} {K : Nx} {d : Nat}
/-! Steps of the proof alone: what a fact says; a part given up; what isn't wanted any more. -/
theorem WL_pull {β : Type} {Fs : β → List Fact} {p : β → Prop} {A : Fact} (hA : A ∈ As) (hx : ∀ Z w, A.holds Z w → ∃ x, p x ∧ ∀ B ∈ Fs x, B.holds Z w) (h : ∀ x, p x → WL P n ops R rest l Ps (Fs x ++ As)) : WL P n ops R rest l Ps As := by
  intro Z w a hs ha
  obtain ⟨x, h1, h2⟩ := hx Z w (hs.facts A hA)
  exact h x h1 Z w a ⟨hs.zlt, hs.own, hs.nodup, fun B hB => by rcases List.mem_append.1 hB with h | h; exact h2 B h; exact hs.facts B h⟩ ha
theorem WC_pull {c : Code} {β : Type} {Fs : β → List Fact} {p : β → Prop} {A : Fact} (hA : A ∈ As) (hx : ∀ Z w, A.holds Z w → ∃ x, p x ∧ ∀ B ∈ Fs x, B.holds Z w) (h : ∀ x, p x → WC P n c R l Ps (Fs x ++ As)) : WC P n c R l Ps As := by
  intro Z w a hs ha
  obtain ⟨x, h1, h2⟩ := hx Z w (hs.facts A hA)
  exact h x h1 Z w a ⟨hs.zlt, hs.own, hs.nodup, fun B hB => by rcases List.mem_append.1 hB with h | h; exact h2 B h; exact hs.facts B h⟩ ha
theorem WL_fact {A : Fact} (hA : ∀ Z w, St Z w Ps As → A.holds Z w) (h : WL P n ops R rest l Ps (A :: As)) : WL P n ops R rest l Ps As := fun Z w a hs ha => h Z w a (hs.addFact (hA Z w hs)) ha
theorem WC_fact {c : Code} {A : Fact} (hA : ∀ Z w, St Z w Ps As → A.holds Z w) (h : WC P n c R l Ps (A :: As)) : WC P n c R l Ps As := fun Z w a hs ha => h Z w a (hs.addFact (hA Z w hs)) ha
theorem St.freezeRow {α : Type} {e : De α} {T : TypeId} {v : Value} {m : Nat} {p : Part} {css : List (List Value)} {xs : List α} {Z : Nat → Prop} {w : World} (hs : St Z w Ps As) (hp : DelAt Ps p Ps') (h : Row T e.sz v m css.flatten p) (hn : m = xs.length) (hr : RepsF e xs css ∈ As) :
    ∃ A cap Z', v = .slice A xs.length cap ∧ St Z' w Ps' (RdF e A cap xs :: As) := by
  have h1 := hs.permParts hp.perm
  obtain ⟨A, cap, h2, h3⟩ := h.freeze hn h1 (hs.facts _ hr)
  exact ⟨A, cap, _, h2, h1.freeze.addFact h3⟩
theorem WL_freeze {α : Type} {e : De α} {T : TypeId} {v : Value} {m : Nat} {p : Part} {css : List (List Value)} {xs : List α} (h : Row T e.sz v m css.flatten p) (hp : DelAt Ps p Ps') (hn : m = xs.length) (hr : RepsF e xs css ∈ As)
    (hk : ∀ A cap, v = .slice A xs.length cap → WL P n ops R rest l Ps' (RdF e A cap xs :: As)) : WL P n ops R rest l Ps As := fun Z w a hs ha => by
  obtain ⟨A, cap, Z', h1, h2⟩ := hs.freezeRow hp h hn hr
  exact hk A cap h1 Z' w a h2 ha
theorem WC_freeze {c : Code} {α : Type} {e : De α} {T : TypeId} {v : Value} {m : Nat} {p : Part} {css : List (List Value)} {xs : List α} (h : Row T e.sz v m css.flatten p) (hp : DelAt Ps p Ps') (hn : m = xs.length) (hr : RepsF e xs css ∈ As)
    (hk : ∀ A cap, v = .slice A xs.length cap → WC P n c R l Ps' (RdF e A cap xs :: As)) : WC P n c R l Ps As := fun Z w a hs ha => by
  obtain ⟨A, cap, Z', h1, h2⟩ := hs.freezeRow hp h hn hr
  exact hk A cap h1 Z' w a h2 ha
theorem WL_nilPart (h : WL P n ops R rest l ([] :: Ps) As) : WL P n ops R rest l Ps As := fun Z w a hs ha => h Z w a hs.nilPart ha
theorem WC_nilPart {c : Code} (h : WC P n c R l ([] :: Ps) As) : WC P n c R l Ps As := fun Z w a hs ha => h Z w a hs.nilPart ha

/-! ### len, an element, slicing -/
theorem q_len {x : Operand} {T E : TypeId} {A : Option Addr} {m c : Nat} {dd : Option Tmp} (hu : P.underlying T = some (.slice E)) (hx : evs l x = some (.slice A m c)) : QR P l Ps As ⟨dd, .call ⟨.builtin .len, #[x], #[T]⟩, ty, pos, aft, g⟩ (.int .i64 m) := fun Z w ρ hs hρ => by
  simp only [execOp, resolve, invoke, List.map_toArray, List.map_cons, List.map_nil, hρ _ _ hx, Sem.run_bind, Sem.run_pure, Result.andThen_ok]
  show ((do pure (Next.value (← Builtin.len_ #[T] ty #[.slice A m c])) : Sem Next)).run P w = _
  simp [Builtin.len_, run_underlying hu, goInt]
theorem q_lenS {x : Operand} {T : TypeId} {s : ByteArray} {dd : Option Tmp} (hu : P.underlying T = some .string) (hx : evs l x = some (.string s)) : QR P l Ps As ⟨dd, .call ⟨.builtin .len, #[x], #[T]⟩, ty, pos, aft, g⟩ (.int .i64 s.size) := fun Z w ρ hs hρ => by
  simp only [execOp, resolve, invoke, List.map_toArray, List.map_cons, List.map_nil, hρ _ _ hx, Sem.run_bind, Sem.run_pure, Result.andThen_ok]
  show ((do pure (Next.value (← Builtin.len_ #[T] ty #[.string s])) : Sem Next)).run P w = _
  simp [Builtin.len_, run_underlying hu, goInt]
theorem run_indexAt {T E : TypeId} {b q len cap : Nat} {i : Int} {z : Option Value} {sz by_ : Nat} {w : World} (hu : P.underlying T = some (.slice E)) (ht : ti P E = some (z, sz, by_)) (h0 : 0 ≤ i) (h1 : i < len) : (Instr.indexAt T (.slice (some ⟨b, q, none⟩) len cap) (.int .i64 i)).run P w = .ok (.pointer (some ⟨b, q + i.toNat * sz, none⟩)) w := by
  simp [Instr.indexAt, asIntOf, run_underlying hu, h0, h1, run_sizeOf ht, add_none]
/-- An element of an array. -/
theorem q_idxA {T E : TypeId} {x ix : Operand} {b o o' len : Nat} {k : IntKind} {i : Int} {z : Option Value} {sz by_ : Nat} {dd : Option Tmp} (hu : P.underlying T = some (.array len E)) (ht : ti P E = some (z, sz, by_)) (hx : evs l x = some (.pointer (some ⟨b, o, none⟩))) (hi : evs l ix = some (.int k i)) (h0 : 0 ≤ i) (h1 : i < len) (ho : o + i.toNat * sz = o') :
    QR P l Ps As ⟨dd, .indexAddr T x ix, ty, pos, aft, g⟩ (.pointer (some ⟨b, o', none⟩)) := fun Z w ρ hs hρ => by
  subst ho
  simp only [execOp, hρ _ _ hx, hρ _ _ hi]
  have : (Instr.indexAt T (.pointer (some ⟨b, o, none⟩)) (.int k i)).run P w = .ok (.pointer (some ⟨b, o + i.toNat * sz, none⟩)) w := by
    simp [Instr.indexAt, asIntOf, run_underlying hu, Instr.sureAddr, h0, h1, run_sizeOf ht, add_none]
  rw [Sem.run_bind, this]; rfl
/-- An element of a slice that is read. -/
theorem OW_idx {α : Type} {e : De α} {T E : TypeId} {x ix : Operand} {A : Option Addr} {cap : Nat} {xs : List α} {i : Int} {z : Option Value} {by_ : Nat} {u : α} {β : Type} {mk : β → List Value} {Fs : β → List Fact} (hu : P.underlying T = some (.slice E)) (ht : ti P E = some (z, e.sz, by_)) (hx : evs l x = some (.slice A xs.length cap)) (hi : evs l ix = some (.int .i64 i))
    (hA : RdF e A cap xs ∈ As) (h0 : 0 ≤ i) (hu' : xs[i.toNat]? = some u) (ho : ∀ Z w cs, e.rep Z w u cs → ∃ y, cs = mk y ∧ ∀ B ∈ Fs y, B.holds Z w) (hd : d < n)
    (h : ∀ b o y, K ((d, .pointer (some ⟨b, o, none⟩)) :: l) Ps (FzA b o (mk y) :: (Fs y ++ As))) : OW P n R l Ps As ⟨some d, .indexAddr T x ix, ty, pos, aft, g⟩ K :=
  OW_value rfl hd fun Z w ρ hs hρ => by
    have hlt : i.toNat < xs.length := by
      rcases Nat.lt_or_ge i.toNat xs.length with h | h
      · exact h
      · simp [List.getElem?_eq_none h] at hu'
    obtain ⟨g1, g2, g3 | ⟨b, q, css, rfl, g4, g5, g6⟩⟩ : RdS e Z w A cap xs := hs.facts _ hA
    · rw [g3.1] at hlt; simp at hlt
    · obtain ⟨cs, k1, k2⟩ := g5.at _ _ hu'
      obtain ⟨y, k3, k4⟩ := ho Z w cs k2
      subst k3
      refine ⟨_, w, Z, Ps, _, by simp only [execOp, hρ _ _ hx, hρ _ _ hi]; rw [Sem.run_bind, run_indexAt hu ht h0 (by omega)]; rfl, ?_, h b _ y⟩
      refine ⟨hs.zlt, hs.own, hs.nodup, fun B hB => ?_⟩
      rcases List.mem_cons.1 hB with rfl | hB
      · exact ⟨g4, g6.part (i.toNat * e.sz) (flat_at g5.lens _ _ k1)⟩
      · rcases List.mem_append.1 hB with hB | hB
        · exact k4 B hB
        · exact hs.facts B hB
/-- An element's address in a slice of our own. -/
theorem q_idxOwn {T E : TypeId} {x ix : Operand} {b len cap : Nat} {i : Int} {z : Option Value} {sz by_ : Nat} {dd : Option Tmp} (hu : P.underlying T = some (.slice E)) (ht : ti P E = some (z, sz, by_)) (hx : evs l x = some (.slice (some ⟨b, 0, none⟩) len cap)) (hi : evs l ix = some (.int .i64 i)) (h0 : 0 ≤ i) (h1 : i < len) :
    QR P l Ps As ⟨dd, .indexAddr T x ix, ty, pos, aft, g⟩ (.pointer (some ⟨b, i.toNat * sz, none⟩)) := fun Z w ρ hs hρ => by
  simp only [execOp, hρ _ _ hx, hρ _ _ hi]; rw [Sem.run_bind, run_indexAt hu ht h0 h1, Nat.zero_add]; rfl
theorem OW_storeC {T : TypeId} {x y : Operand} {b o : Nat} {v : Value} {cs : List Value} {T' : TypeId} {z : Option Value} {by_ : Nat} (ht : ti P T = some (z, 1, by_)) (hx : evs l x = some (.pointer (some ⟨b, o, none⟩))) (hy : evs l y = some v) (hv : v.oneCell' = true)
    (hc : o < cs.length) (hp : SetAt Ps [(b, cellsO cs T')] [(b, cellsO (cs.set o v) T')] Ps') (h : K l Ps' As) : OW P n R l Ps As ⟨none, .store T x y, ty, pos, aft, g⟩ K :=
  OW_skip rfl fun Z w ρ hs hρ => by
    have hb : w.heap[b]? = some (cellsO cs T') := by
      obtain ⟨Qs, h3, h4⟩ := hp.perm
      exact ((hs.permParts h3).own (b, _) (by simp)).1
    have hcell : v.cells = #[v] := by cases v <;> first | rfl | (simp [Value.oneCell'] at hv; done)
    refine ⟨w.setCell ⟨b, o, none⟩ v, Z, Ps', As, ?_, hs.setAt hp fun h => h.setCell v, h⟩
    simp only [execOp, hρ _ _ hx, hρ _ _ hy, Instr.storeAt, Instr.sureAddr, storeVar, Sem.run_bind, Sem.run_pure, Result.andThen_ok, run_sizeOf ht, hcell]
    simp [storeCells, add_none, run_store1 hb hc hv]

/-- min, max of whole numbers. -/
theorem q_min {x y : Operand} {T T2 : TypeId} {k : IntKind} {a b : Int} {dd : Option Tmp} (hx : evs l x = some (.int k a)) (hy : evs l y = some (.int k b)) : QR P l Ps As ⟨dd, .call ⟨.builtin .min, #[x, y], #[T, T2]⟩, ty, pos, aft, g⟩ (.int k (min a b)) := fun Z w ρ hs hρ => by
  have h2 : Builtin.min2 (.int k a) (.int k b) = pure (.int k (min a b)) := by
    simp only [Builtin.min2]; congr 2; omega
  simp only [execOp, resolve, invoke, List.map_toArray, List.map_cons, List.map_nil, hρ _ _ hx, hρ _ _ hy, Sem.run_bind, Sem.run_pure, Result.andThen_ok]
  show ((do pure (Next.value (← Builtin.min_ #[T, T2] ty #[.int k a, .int k b])) : Sem Next)).run P w = _
  simp only [Builtin.min_, List.foldlM_cons, List.foldlM_nil, h2, Sem.run_bind, Sem.run_pure, Result.andThen_ok]
theorem q_max {x y : Operand} {T T2 : TypeId} {k : IntKind} {a b : Int} {dd : Option Tmp} (hx : evs l x = some (.int k a)) (hy : evs l y = some (.int k b)) : QR P l Ps As ⟨dd, .call ⟨.builtin .max, #[x, y], #[T, T2]⟩, ty, pos, aft, g⟩ (.int k (max a b)) := fun Z w ρ hs hρ => by
  have h2 : Builtin.max2 (.int k a) (.int k b) = pure (.int k (max a b)) := by
    simp only [Builtin.max2]; congr 2; omega
  simp only [execOp, resolve, invoke, List.map_toArray, List.map_cons, List.map_nil, hρ _ _ hx, hρ _ _ hy, Sem.run_bind, Sem.run_pure, Result.andThen_ok]
  show ((do pure (Next.value (← Builtin.max_ #[T, T2] ty #[.int k a, .int k b])) : Sem Next)).run P w = _
  simp only [Builtin.max_, List.foldlM_cons, List.foldlM_nil, h2, Sem.run_bind, Sem.run_pure, Result.andThen_ok]
/-! ### append -/
theorem Row.of_owns {T : TypeId} {sz m : Nat} {v v' : Value} {cs : List Value} {p : Part} {Z : Nat → Prop} {w w' : World} (hs : St Z w (p :: Ps) As) {n0 : Nat} {cs0 : List Value} (hr : Row T sz v n0 cs0 p) (ho : w'.ownsRow 0 T sz v' m cs) (hg : w.grownBy w' v.ownBlock) (hw : v'.ownBlock = v.ownBlock ∨ v'.ownBlock = some w.heap.size) :
    ∃ p', Row T sz v' m cs p' ∧ St Z w' (p' :: Ps) As := by
  have hkeep : ∀ b, b < w.heap.size → (∀ o, (b, o) ∉ p) → w'.heap[b]? = w.heap[b]? := fun b hb hn => by
    refine hg.block b hb fun e => ?_
    rcases hr.2 with ⟨rfl, _, _⟩ | ⟨g, cap, jk, rfl, rfl, _⟩
    · simp [Value.ownBlock] at e
    · have e : b = g := by simpa [Value.ownBlock] using e
      subst e
      exact hn _ (List.mem_singleton.2 rfl)
  rcases ho.2 with ⟨rfl, rfl⟩ | ⟨b, cap, cur, rfl, _, hb, hnc, hcm, hsz, htk⟩
  · refine ⟨[], ⟨ho.1, .inl ⟨rfl, rfl, rfl⟩⟩, hs.turn hg.os hg.tape hg.output hg.size hkeep (by simp) (by simp)⟩
  · have hcur : cur.toList = cs ++ cur.toList.drop (m * sz) := by rw [← htk]; exact (List.take_append_drop _ _).symm
    refine ⟨[(b, cellsO (cs ++ cur.toList.drop (m * sz)) T)], ⟨ho.1, .inr ⟨b, cap, cur.toList.drop (m * sz), rfl, rfl, by rw [← hcur]; simpa using hsz, hnc, hcm⟩⟩, ?_⟩
    refine hs.turn hg.os hg.tape hg.output hg.size hkeep (fun q hq => ?_) (by simp)
    simp only [List.mem_singleton] at hq
    subst hq
    refine ⟨by rw [← hcur]; simpa [cellsO] using hb, ?_⟩
    rcases hw with hw | hw
    · rcases hr.2 with ⟨rfl, _, _⟩ | ⟨b', cap', jk', rfl, rfl, _⟩
      · simp [Value.ownBlock] at hw
      · have : b = b' := by simpa [Value.ownBlock] using hw
        subst this
        exact .inl ⟨_, List.mem_singleton.2 rfl⟩
    · have : b = w.heap.size := by simpa [Value.ownBlock] using hw
      exact .inr (by omega)
/-- append to a slice of our own; what is appended lies somewhere and stays there. -/
theorem run_append {T E : TypeId} {zv : Value} {sz by_ : Nat} {p : Part} {Z : Nat → Prop} {w : World} (hu : P.underlying T = some (.slice E)) (ht : ti P E = some (some zv, sz, by_)) (hz : zv.cells.size = sz) (hsz : 0 < sz) (hs : St Z w (p :: Ps) As) {v : Value} {k : Nat} {cs : List Value} (hr : Row E sz v k cs p)
    {ad : Addr} {m c : Nat} {news : List Value} (hl : news.length = m * sz) (hn : ∀ j u, news[j]? = some u → w.cell? (ad.add j) = some u) (h1 : ∀ u ∈ news, u.oneCell' = true) (h63 : (k + m) * by_ ≤ 140737488355328) (hmx : k + m ≤ maxLen) :
    ∃ v' w' p', (Builtin.append_ #[T, T] ty #[v, .slice (some ad) m c]).run P w = .ok v' w' ∧ Row E sz v' (k + m) (cs ++ news) p' ∧ St Z w' (p' :: Ps) As := by
  unfold ti at ht
  cases hi : P.info? E with
  | none => rw [hi] at ht; cases ht
  | some i =>
    rw [hi] at ht
    simp only [Option.map_some, Option.some.injEq, Prod.mk.injEq] at ht
    obtain ⟨v', w', g1, g2, g3, _, g5⟩ := run_append_own_at (P := P) w 0 T ty E i zv sz by_ hu hi ht.1 ht.2.1 ht.2.2 hz hsz v k cs (hr.owns hs) ad m c news hl hn h1 hmx h63 (Nat.zero_le _)
    obtain ⟨p', k1, k2⟩ := Row.of_owns hs hr g2 g3 g5
    exact ⟨v', w', p', g1, k1, k2⟩
theorem run_append_none {T E : TypeId} {z : Option Value} {sz by_ : Nat} {p : Part} {Z : Nat → Prop} {w : World} (hu : P.underlying T = some (.slice E)) (ht : ti P E = some (z, sz, by_)) (hs : St Z w (p :: Ps) As) {v : Value} {k : Nat} {cs : List Value} (hr : Row E sz v k cs p) :
    (Builtin.append_ #[T, T] ty #[v, .slice none 0 0]).run P w = .ok v w := by
  unfold ti at ht
  cases hi : P.info? E with
  | none => rw [hi] at ht; cases ht
  | some i => exact run_append_owned_none w 0 T ty E i sz hu hi v k cs (hr.owns hs)
theorem execOp_append {ρ : Operand → Value} {dd : Option Tmp} {x y : Operand} {T : TypeId} {u v : Value} (hx : ρ x = u) (hy : ρ y = v) : execOp ρ ⟨dd, .call ⟨.builtin .append, #[x, y], #[T, T]⟩, ty, pos, aft, g⟩ = (do pure (.value (← Builtin.append_ #[T, T] ty #[u, v]))) := by
  simp only [execOp, resolve, invoke, List.map_toArray, List.map_cons, List.map_nil, hx, hy]; rfl
/-- .. one element that has just been laid into a row of its own. -/
theorem OW_append1 {T E : TypeId} {x y : Operand} {zv : Value} {sz by_ k b c : Nat} {v : Value} {cs news : List Value} {T' : TypeId} {p : Part} {Qs : List Part} (hu : P.underlying T = some (.slice E)) (ht : ti P E = some (some zv, sz, by_)) (hz : zv.cells.size = sz) (hsz : 0 < sz) (hx : evs l x = some v) (hy : evs l y = some (.slice (some ⟨b, 0, none⟩) 1 c))
    (hr : Row E sz v k cs p) (hb : OwnAt Qs b (cellsO news T')) (hl : news.length = sz) (h1 : news.all Value.oneCell' = true) (h63 : (k + 1) * by_ ≤ 140737488355328) (hmx : k + 1 ≤ maxLen) (hd : d < n) (hQ : (p :: Qs).flatten.Perm Ps.flatten)
    (h : ∀ v' p', Row E sz v' (k + 1) (cs ++ news) p' → K ((d, v') :: l) (p' :: Qs) As) : OW P n R l Ps As ⟨some d, .call ⟨.builtin .append, #[x, y], #[T, T]⟩, ty, pos, aft, g⟩ K :=
  OW_value rfl hd fun Z w ρ hs hρ => by
    have hs' := hs.permParts hQ
    have hc : CellsAt w b 0 news := ⟨_, _, _, hs'.block (ownS hb), fun j v hv => by simpa using hv⟩
    obtain ⟨v', w', p', g1, g2, g3⟩ := run_append (ty := ty) (c := c) hu ht hz hsz hs' hr (ad := ⟨b, 0, none⟩) (m := 1) (news := news) (by simp [hl]) (fun j u hu => by rw [add_none]; exact hc.cell hu) (fun u hu => List.all_eq_true.1 h1 u hu) h63 hmx
    exact ⟨v', w', Z, _, As, by rw [execOp_append (hρ _ _ hx) (hρ _ _ hy), Sem.run_bind, g1]; rfl, g3, h v' p' g2⟩
/-- .. all of a slice that is read. -/
theorem OW_appendS {α : Type} {e : De α} {T E : TypeId} {x y : Operand} {zv : Value} {by_ k cap : Nat} {A : Option Addr} {v : Value} {cs : List Value} {ys : List α} {p : Part} {Qs : List Part} (hu : P.underlying T = some (.slice E)) (ht : ti P E = some (some zv, e.sz, by_)) (hz : zv.cells.size = e.sz) (hsz : 0 < e.sz) (hx : evs l x = some v) (hy : evs l y = some (.slice A ys.length cap))
    (hr : Row E e.sz v k cs p) (hA : RdF e A cap ys ∈ As) (h63 : (k + ys.length) * by_ ≤ 140737488355328) (hmx : k + ys.length ≤ maxLen) (hd : d < n) (hQ : (p :: Qs).flatten.Perm Ps.flatten)
    (h : ∀ v' p' css, Row E e.sz v' (k + ys.length) (cs ++ css.flatten) p' → K ((d, v') :: l) (p' :: Qs) (RepsF e ys css :: As)) : OW P n R l Ps As ⟨some d, .call ⟨.builtin .append, #[x, y], #[T, T]⟩, ty, pos, aft, g⟩ K :=
  OW_value rfl hd fun Z w ρ hs hρ => by
    have hs' := hs.permParts hQ
    obtain ⟨g1, g2, ⟨rfl, g3⟩ | ⟨b, q, css, rfl, g4, g5, g6⟩⟩ : RdS e Z w A cap ys := hs.facts _ hA
    · have hk : St Z w (p :: Qs) (RepsF e [] [] :: As) := hs'.addFact (A := RepsF e [] []) Reps.nil
      rcases A with _ | ad
      · have := g3 rfl; subst this
        exact ⟨v, w, Z, _, _, by rw [execOp_append (hρ _ _ hx) (hρ _ _ hy), Sem.run_bind]; erw [run_append_none hu ht hs' hr]; rfl, hk, h v p [] (by simpa using hr)⟩
      · obtain ⟨v', w', p', k1, k2, k3⟩ := run_append (ty := ty) (c := cap) hu ht hz hsz hk hr (ad := ad) (m := 0) (news := []) (by simp) (by simp) (by simp) h63 hmx
        exact ⟨v', w', Z, _, _, by rw [execOp_append (hρ _ _ hx) (hρ _ _ hy), Sem.run_bind]; erw [k1]; rfl, k3, h v' p' [] (by simpa using k2)⟩
    · obtain ⟨v', w', p', k1, k2, k3⟩ := run_append (ty := ty) (c := cap) hu ht hz hsz (hs'.addFact (A := RepsF e ys css) g5) hr (ad := ⟨b, q, none⟩) (m := ys.length) (news := css.flatten) (by rw [flat_len g5.lens, g5.length]) (fun j u hu => by rw [add_none]; exact g6.cell hu) (fun u hu => g5.ones u hu) h63 hmx
      exact ⟨v', w', Z, _, _, by rw [execOp_append (hρ _ _ hx) (hρ _ _ hy), Sem.run_bind, k1]; rfl, k3, h v' p' css k2⟩
theorem foldl_set : ∀ (L : List Value) (A : Array Value) (k : Nat), k + L.length ≤ A.size → (L.zipIdx k).foldl (fun cs (p : Value × Nat) => cs.setIfInBounds p.2 p.1) A = (A.toList.take k ++ (L ++ A.toList.drop (k + L.length))).toArray
  | [], A, k, _ => by simp
  | v :: L, A, k, h => by
    simp only [List.length_cons] at h
    rw [List.zipIdx_cons, List.foldl_cons, foldl_set L _ (k + 1) (by simp; omega)]
    apply Array.ext'
    simp only [Array.toList_setIfInBounds, List.length_cons]
    have hk : k < A.toList.length := by simp; omega
    rw [List.set_eq_take_append_cons_drop, if_pos hk]
    have e1 : (A.toList.take k).length = k := by simp; omega
    have e5 : (A.toList.take k ++ v :: A.toList.drop (k + 1)).take (k + 1) = A.toList.take k ++ [v] := by
      rw [List.take_append, e1, List.take_of_length_le (by rw [e1]; omega), show k + 1 - k = 1 from by omega]
      rfl
    have e6 : (A.toList.take k ++ v :: A.toList.drop (k + 1)).drop (k + 1 + L.length) = A.toList.drop (k + (L.length + 1)) := by
      rw [List.drop_append, e1, List.drop_eq_nil_of_le (by rw [e1]; omega), List.nil_append, show k + 1 + L.length - k = L.length + 1 from by omega, List.drop_succ_cons, List.drop_drop]
      congr 1; omega
    rw [e5, e6]
    simp
theorem fill_one {sz : Nat} {v : Value} {cells : Array Value} (h1 : v.cells.size = sz) (h2 : cells.size = sz) : Instr.fill (fun i => some (i * sz, sz)) cells [(0, v)] = some v.cells := by
  unfold Instr.fill
  simp only [Nat.zero_mul, Nat.zero_add, h1, h2, ne_eq, not_true_eq_false, decide_false, Bool.false_or, Nat.lt_irrefl, Instr.fill]
  simp only [gt_iff_lt, Nat.lt_irrefl, decide_false, Bool.false_eq_true, if_false]
  congr 1
  have h3 := foldl_set v.cells.toList cells 0 (by simp; omega)
  rw [← Array.foldl_toList, Array.toList_zipIdx]
  refine h3.trans ?_
  rw [List.drop_eq_nil_of_le (by simp; omega)]
  simp
/-- A literal slice of one element. -/
theorem OW_slice1 {T E : TypeId} {zv v : Value} {x : Operand} {sz by_ : Nat} {cs : List Value} (hu : P.underlying T = some (.slice E)) (ht : ti P E = some (some zv, sz, by_)) (hsz : 0 < sz) (hs2 : sz ≤ 1000) (hz : zv.cells.size = sz) (hx : evs l x = some v) (hc : v.cells = cs.toArray) (hl : cs.length = sz) (hd : d < n)
    (h : ∀ b, K ((d, .slice (some ⟨b, 0, none⟩) 1 1) :: l) ([(b, cellsO cs E)] :: Ps) As) : OW P n R l Ps As ⟨some d, .buildSlice T 1 #[(0, x)], ty, pos, aft, g⟩ K :=
  OW_value rfl hd fun Z w ρ hs hρ => by
    refine ⟨_, w.alloc (cellsO cs E), Z, _, As, ?_, hs.alloc _, h w.heap.size⟩
    have hrun : (Instr.buildSlice T 1 #[(0, v)]).run P w = .ok (.slice (some ⟨w.heap.size, 0, none⟩) 1 1) (w.alloc (cellsO cs E)) := by
      have hcs : v.cells.size = sz := by rw [hc]; simpa using hl
      unfold Instr.buildSlice
      simp only [Sem.run_bind, run_underlying hu, Result.andThen_ok, run_sizeOf ht]
      rw [if_neg (by simp; omega), if_neg (by omega)]
      simp only [Sem.run_bind, run_zeroValue ht, Result.andThen_ok, Sem.run_pure]
      rw [fill_one hcs (by simp), hc]
      simp only [Sem.run_bind, newRow, run_newObj, Result.andThen_ok, Sem.run_pure]
      rfl
    simp only [execOp, List.map_toArray, List.map_cons, List.map_nil, hρ _ _ hx, Sem.run_bind, hrun]; rfl
end
end Go.GW
