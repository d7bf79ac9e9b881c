/- The rules by which this claim's walks go: rows of our own with elements: read, written, made. -/
import Derived.Test.YtggdddkbhigjoaaDoorGwH
set_option linter.unusedVariables false
set_option linter.unusedSimpArgs false
namespace Go.GW
open Go
theorem flat_take {sz : Nat} {css : List (List Value)} (h : ∀ cs ∈ css, cs.length = sz) {i : Nat} {c : List Value} (hi : css[i]? = some c) (jk : List Value) : ((css.flatten ++ jk).drop (i * sz)).take sz = c := by
  have hlt : i < css.length := by
    rcases Nat.lt_or_ge i css.length with h | h
    · exact h
    · simp [List.getElem?_eq_none h] at hi
  have hc : css[i] = c := by rw [List.getElem?_eq_getElem hlt] at hi; exact Option.some.inj hi
  have hle : i * sz ≤ css.flatten.length := by rw [flat_len h]; exact Nat.mul_le_mul_right _ (by omega)
  rw [List.drop_append_of_le_length hle, ← flat_drop h, List.drop_eq_getElem_cons hlt, hc, List.flatten_cons, List.append_assoc]
  exact List.take_left' (h c (hc ▸ List.getElem_mem hlt))
theorem setAll_eq : ∀ (vs cs : List Value) (k : Nat), k + vs.length ≤ cs.length → setAll cs k vs = cs.take k ++ vs ++ cs.drop (k + vs.length)
  | [], cs, k, h => by simp [setAll]
  | v :: vs, cs, k, h => by
    simp only [List.length_cons] at h
    rw [setAll, setAll_eq vs (cs.set k v) (k + 1) (by simp; omega)]
    have h1 : (cs.set k v).take (k + 1) = cs.take k ++ [v] := by
      rw [List.set_eq_take_append_cons_drop, if_pos (by omega), List.take_append]
      simp [List.length_take, List.take_take, Nat.min_eq_left (by omega : k ≤ cs.length)]
    have h2 : (cs.set k v).drop (k + 1 + vs.length) = cs.drop (k + (v :: vs).length) := by
      rw [List.drop_set_of_lt (by omega)]
      congr 1; simp; omega
    rw [h1, h2]
    simp
theorem flat_set {sz : Nat} {css : List (List Value)} (h : ∀ cs ∈ css, cs.length = sz) {i : Nat} {c : List Value} (hi : i < css.length) (hc : c.length = sz) (jk : List Value) : setAll (css.flatten ++ jk) (i * sz) c = (css.set i c).flatten ++ jk := by
  have hle : i * sz ≤ css.flatten.length := by rw [flat_len h]; exact Nat.mul_le_mul_right _ (by omega)
  have hle2 : i * sz + sz ≤ css.flatten.length := by
    have : (i + 1) * sz ≤ css.length * sz := Nat.mul_le_mul_right _ (by omega)
    rw [Nat.add_mul, Nat.one_mul] at this
    rw [flat_len h]; exact this
  rw [setAll_eq _ _ _ (by rw [List.length_append, hc]; omega), hc, List.take_append_of_le_length hle, List.drop_append_of_le_length hle2]
  have e1 : (i + 1) * sz = i * sz + sz := by rw [Nat.add_mul, Nat.one_mul]
  rw [← e1, ← flat_drop h, List.set_eq_take_append_cons_drop, if_pos hi, List.flatten_append, List.flatten_cons]
  have e2 : css.flatten.take (i * sz) = (css.take i).flatten := by
    have h1 : css.flatten = (css.take i).flatten ++ (css.drop i).flatten := by rw [← List.flatten_append, List.take_append_drop]
    have h2 : (css.take i).flatten.length = i * sz := by
      rw [flat_len (fun cs hcs => h cs (List.mem_of_mem_take hcs)), List.length_take, Nat.min_eq_left (by omega)]
    rw [h1, List.take_left' h2]
  rw [e2]
  simp [List.append_assoc]
section
variable {P : Program} {n : Nat} {R : Post} {l : Fr} {Ps Ps' : List Part} {As : List Fact} {ops : Array Oper} {rest : List Oper} {ty : TypeId} {pos : String} {aft : Array Edge} {g : Option (Nat × Bool)} {K : Nx} {d : Nat} {dd : Option Tmp}
/-- What the elements of a row are. -/
theorem Reps.open {α : Type} {r : α → List Value → Prop} {xs : List α} {css : List (List Value)} (h : Reps r xs css) {k : Nat} {u : α} (hu : xs[k]? = some u) : ∃ cs, css[k]? = some cs ∧ r u cs := h.at k u hu
theorem WC_reps {α : Type} {e : De α} {c : Code} {xs : List α} {css : List (List Value)} {k : Nat} {u : α} {β : Type} {mk : β → List Value} {Fs : β → List Fact} (hA : RepsF e xs css ∈ As) (hu : xs[k]? = some u) (ho : ∀ Z w cs, e.rep Z w u cs → ∃ y, cs = mk y ∧ ∀ B ∈ Fs y, B.holds Z w)
    (h : ∀ y, css[k]? = some (mk y) → WC P n c R l Ps (Fs y ++ As)) : WC P n c R l Ps As :=
  WC_pull (Fs := Fs) (p := fun y => css[k]? = some (mk y)) hA (fun Z w hR => by
    obtain ⟨cs, h1, h2⟩ := (hR : Reps (e.rep Z w) xs css).at k u hu
    obtain ⟨y, h3, h4⟩ := ho Z w cs h2
    subst h3
    exact ⟨y, h1, h4⟩) h
theorem WC_repsLen {α : Type} {e : De α} {c : Code} {xs : List α} {css : List (List Value)} (hA : RepsF e xs css ∈ As) (h : css.length = xs.length → (∀ cs ∈ css, cs.length = e.sz) → WC P n c R l Ps As) : WC P n c R l Ps As := fun Z w a hs ha =>
  h (Reps.length (hs.facts _ hA : Reps (e.rep Z w) xs css)) (Reps.lens (hs.facts _ hA : Reps (e.rep Z w) xs css)) Z w a hs ha
theorem WL_repsLen {α : Type} {e : De α} {xs : List α} {css : List (List Value)} (hA : RepsF e xs css ∈ As) (h : css.length = xs.length → (∀ cs ∈ css, cs.length = e.sz) → WL P n ops R rest l Ps As) : WL P n ops R rest l Ps As := fun Z w a hs ha =>
  h (Reps.length (hs.facts _ hA : Reps (e.rep Z w) xs css)) (Reps.lens (hs.facts _ hA : Reps (e.rep Z w) xs css)) Z w a hs ha
/-- An element of a row of our own, loaded. -/
theorem q_loadR {T : TypeId} {x : Operand} {de : TypeDesc} {b i o : Nat} {css : List (List Value)} {c jk : List Value} {T' : TypeId} {z : Option Value} {sz by_ : Nat} (hu : P.underlying T = some de) (hd : agg? de = true) (ht : ti P T = some (z, sz, by_)) (h : evs l x = some (.pointer (some ⟨b, o, none⟩))) (ho : o = i * sz)
    (hb : OwnAt Ps b (cellsO (css.flatten ++ jk) T')) (hlen : ∀ cs ∈ css, cs.length = sz) (hi : css[i]? = some c) : QR P l Ps As ⟨dd, .load T x, ty, pos, aft, g⟩ (.agg c.toArray) := by
  subst ho
  exact q_loadN hu hd ht h hb (flat_take hlen hi jk) (hlen c (List.mem_of_getElem? hi))
/-- .. written. -/
theorem OW_storeR {T : TypeId} {x y : Operand} {b o i sz : Nat} {css : List (List Value)} {c jk : List Value} {T' : TypeId} {z : Option Value} {by_ : Nat} (ht : ti P T = some (z, sz, by_)) (hx : evs l x = some (.pointer (some ⟨b, o, none⟩))) (ho : o = i * sz) (hy : evs l y = some (.agg c.toArray)) (hl : c.length = sz) (hv : c.all Value.oneCell' = true)
    (hlen : ∀ cs ∈ css, cs.length = sz) (hi : i < css.length) (hp : SetAt Ps [(b, cellsO (css.flatten ++ jk) T')] [(b, cellsO ((css.set i c).flatten ++ jk) T')] Ps') (h : K l Ps' As) : OW P n R l Ps As ⟨none, .store T x y, ty, pos, aft, g⟩ K := by
  subst ho
  refine OW_storeN ht hx hy hl hv (flat_set hlen hi hl jk) ?_ hp h
  have h1 : (i + 1) * sz ≤ css.length * sz := Nat.mul_le_mul_right _ (by omega)
  rw [Nat.add_mul, Nat.one_mul] at h1
  rw [List.length_append, flat_len hlen, hl]; omega
/-- A row that has a block. -/
def RowS (T : TypeId) (sz : Nat) (v : Value) (n : Nat) (cs : List Value) (p : Part) : Prop :=
  cs.length = n * sz ∧ ∃ b cap jk, v = .slice (some ⟨b, 0, none⟩) n cap ∧ p = [(b, cellsO (cs ++ jk) T)] ∧ (cs ++ jk).length = cap * sz ∧ n ≤ cap ∧ cap ≤ maxLen
theorem RowS.row {T : TypeId} {sz m : Nat} {v : Value} {cs : List Value} {p : Part} (h : RowS T sz v m cs p) : Row T sz v m cs p := ⟨h.1, .inr h.2⟩
theorem Row.toS {T : TypeId} {sz m : Nat} {v : Value} {cs : List Value} {p : Part} (h : Row T sz v m cs p) (hm : m ≠ 0) : RowS T sz v m cs p := ⟨h.1, by
  rcases h.2 with ⟨_, h0, _⟩ | h
  · exact absurd h0 hm
  · exact h⟩
theorem Row.again {T : TypeId} {sz m cap b : Nat} {css0 css : List (List Value)} {jk : List Value} (h1 : css0.flatten.length = m * sz) (h2 : (css0.flatten ++ jk).length = cap * sz) (h3 : m ≤ cap) (h4 : cap ≤ maxLen) (hl : css.length = m) (hls : ∀ cs ∈ css, cs.length = sz) :
    Row T sz (.slice (some ⟨b, 0, none⟩) m cap) m css.flatten [(b, cellsO (css.flatten ++ jk) T)] := by
  have e : css.flatten.length = m * sz := by rw [flat_len hls, hl]
  refine ⟨e, .inr ⟨b, cap, jk, rfl, rfl, ?_, h3, h4⟩⟩
  rw [List.length_append] at h2 ⊢
  omega
/-- A made row, empty yet. -/
theorem OW_make0 {T E : TypeId} {x y : Operand} {zv : Value} {sz by_ k : Nat} (hu : P.underlying T = some (.slice E)) (ht : ti P E = some (some zv, sz, by_)) (hx : evs l x = some (.int .i64 0)) (hy : evs l y = some (.int .i64 k)) (hk : by_ * k ≤ 281474976710656) (hm : k ≤ maxLen) (hd : d < n)
    (h : ∀ v p, RowS E sz v 0 [] p → K ((d, v) :: l) (p :: Ps) As) : OW P n R l Ps As ⟨some d, .makeSlice T x y, ty, pos, aft, g⟩ K :=
  OW_value rfl hd fun Z w ρ hs hρ => by
    unfold ti at ht
    cases hi : P.info? E with
    | none => rw [hi] at ht; cases ht
    | some i =>
      rw [hi] at ht
      simp only [Option.map_some, Option.some.injEq, Prod.mk.injEq] at ht
      have hm' := hm
      simp only [maxLen] at hm'
      have hb' : (i.bytes : Int) * (k : Int) ≤ 281474976710656 := by
        have h1 : ((i.bytes * k : Nat) : Int) ≤ 281474976710656 := by rw [ht.2.2]; omega
        rwa [Int.natCast_mul] at h1
      have hr := run_make (P := P) w T E i zv hu hi ht.1 .i64 .i64 0 k (Int.le_refl _) (by omega) hb' (by omega)
      refine ⟨_, w.alloc (cellsO ([] ++ (madeCells zv.cells (k * i.size)).toList) E), Z, _, As, ?_, hs.alloc _, h _ _ ⟨by simp, w.heap.size, k, (madeCells zv.cells (k * i.size)).toList, rfl, rfl, ?_, Nat.zero_le _, hm⟩⟩
      · simp only [execOp, hρ _ _ hx, hρ _ _ hy, Sem.run_bind, hr, Result.andThen_ok, Sem.run_pure, Int.toNat_natCast, Int.toNat_zero]
        simp [cellsO]
      · simp [size_madeCells, ht.2.1]
/-- What is known of a row that has grown by one. -/
theorem WC_repsAdd {α : Type} {e : De α} {c : Code} {xs xs' : List α} {css : List (List Value)} {u : α} {cs : List Value} (hA : RepsF e xs css ∈ As) (hu : ∀ Z w, St Z w Ps As → e.rep Z w u cs) (hx : xs' = xs ++ [u]) (h : WC P n c R l Ps (RepsF e xs' (css ++ [cs]) :: As)) : WC P n c R l Ps As := by
  subst hx
  exact WC_fact (A := RepsF e (xs ++ [u]) (css ++ [cs])) (fun Z w hs => Reps.append (hs.facts _ hA : Reps (e.rep Z w) xs css) (.cons (hu Z w hs) .nil)) h
theorem WL_repsAdd {α : Type} {e : De α} {xs xs' : List α} {css : List (List Value)} {u : α} {cs : List Value} (hA : RepsF e xs css ∈ As) (hu : ∀ Z w, St Z w Ps As → e.rep Z w u cs) (hx : xs' = xs ++ [u]) (h : WL P n ops R rest l Ps (RepsF e xs' (css ++ [cs]) :: As)) : WL P n ops R rest l Ps As := by
  subst hx
  exact WL_fact (A := RepsF e (xs ++ [u]) (css ++ [cs])) (fun Z w hs => Reps.append (hs.facts _ hA : Reps (e.rep Z w) xs css) (.cons (hu Z w hs) .nil)) h
theorem WL_repsSet {α : Type} {e : De α} {xs xs' : List α} {css : List (List Value)} {u : α} {cs : List Value} (i : Nat) (hA : RepsF e xs css ∈ As) (hu : ∀ Z w, St Z w Ps As → e.rep Z w u cs) (hx : xs' = xs.set i u) (h : WL P n ops R rest l Ps (RepsF e xs' (css.set i cs) :: As)) : WL P n ops R rest l Ps As := by
  subst hx
  exact WL_fact (A := RepsF e (xs.set i u) (css.set i cs)) (fun Z w hs => Reps.set (hs.facts _ hA : Reps (e.rep Z w) xs css) i u cs (hu Z w hs)) h
end
end Go.GW
