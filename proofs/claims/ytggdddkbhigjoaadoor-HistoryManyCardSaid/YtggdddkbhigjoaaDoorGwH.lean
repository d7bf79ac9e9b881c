/- The rules by which this claim's walks go: maps from ids to pointers; append to a slice that is read; parts laid together and taken apart. -/
import Derived.Test.YtggdddkbhigjoaaDoorGwG
set_option linter.unusedVariables false
set_option linter.unusedSimpArgs false
namespace Go.GW
open Go
/-! ### Maps from ids to pointers -/
structure MK where
  c : Int
  n : Int
  b : Nat
deriving DecidableEq
abbrev idV (c n : Int) : Value := .agg #[.int .i64 c, .int .i64 n]
def mkEs : List MK → Nat → List MapEntry
  | [], _ => []
  | x :: r, i => ⟨idV x.c x.n, .pointer (some ⟨x.b, 0, none⟩), i⟩ :: mkEs r (i + 1)
abbrev mapO (L : List MK) : Obj := .map (mkEs L 0).toArray L.length
def mGet : List MK → Int → Int → Option Nat
  | [], _, _ => none
  | x :: r, c, n => if c = x.c ∧ n = x.n then some x.b else mGet r c n
theorem mkEs_append : ∀ (L : List MK) (x : MK) (i : Nat), mkEs (L ++ [x]) i = mkEs L i ++ [⟨idV x.c x.n, .pointer (some ⟨x.b, 0, none⟩), i + L.length⟩]
  | [], x, i => by simp [mkEs]
  | y :: L, x, i => by simp [mkEs, mkEs_append L x (i + 1)]; omega
theorem mkEs_length : ∀ (L : List MK) (i : Nat), (mkEs L i).length = L.length
  | [], _ => rfl
  | x :: L, i => by simp [mkEs, mkEs_length L (i + 1)]
theorem mkEs_mem : ∀ {L : List MK} {i : Nat} {e : MapEntry}, e ∈ mkEs L i → ∃ j x, L[j]? = some x ∧ e = ⟨idV x.c x.n, .pointer (some ⟨x.b, 0, none⟩), i + j⟩
  | [], _, e, h => by cases h
  | x :: L, i, e, h => by
    unfold mkEs at h
    rcases List.mem_cons.1 h with rfl | h
    · exact ⟨0, x, by simp, by simp⟩
    · obtain ⟨j, y, h1, h2⟩ := mkEs_mem h
      exact ⟨j + 1, y, by simpa using h1, by rw [h2]; congr 1; omega⟩
theorem mkEs_get : ∀ (L : List MK) (i j : Nat) (x : MK), L[j]? = some x → (mkEs L i)[j]? = some ⟨idV x.c x.n, .pointer (some ⟨x.b, 0, none⟩), i + j⟩
  | [], _, j, x, h => by simp at h
  | y :: L, i, 0, x, h => by simp at h; subst h; simp [mkEs]
  | y :: L, i, j + 1, x, h => by
    have := mkEs_get L (i + 1) j x (by simpa using h)
    simp only [mkEs, List.getElem?_cons_succ, this]
    congr 2; omega
/-- The type of ids. -/
structure KeyT (P : Program) (K : TypeId) : Prop where
  ex : ∃ E z by_, P.underlying K = some (.array 2 E) ∧ P.underlying E = some (.int .i64) ∧ ti P E = some (z, 1, by_)
  eq : ∀ a b c d, EqT P K #[.int .i64 a, .int .i64 b] #[.int .i64 c, .int .i64 d] (a == c && b == d)
variable {P : Program}
theorem run_checkInt {E : TypeId} {em : Bool} {a : Int} {w : World} (he : P.underlying E = some (.int .i64)) (k : Nat) : (Instr.checkKey em (k + 1) E (.int .i64 a)).run P w = .ok () w := by
  rw [Instr.checkKey]
  simp [run_underlying he]
theorem run_checkId {K : TypeId} {em : Bool} {a b : Int} {w : World} (h : KeyT P K) : (Instr.checkKey em 10000 K (idV a b)).run P w = .ok () w := by
  obtain ⟨E, z, by_, hu, he, ht⟩ := h.ex
  have h1 : ∀ (cs : List Value) (o : Nat) (v : Value) w, cs[o]? = some v → (part E cs.toArray o).run P w = .ok v w := fun cs o v w h => run_part1 he rfl h
  rw [show (10000 : Nat) = 9998 + 1 + 1 from rfl, Instr.checkKey]
  simp only [Sem.run_bind, run_underlying hu, Result.andThen_ok]
  simp only [Std.Legacy.Range.forIn_eq_forIn_range', Std.Legacy.Range.size, Nat.sub_zero, Nat.add_sub_cancel, Nat.div_one, List.range'_succ, List.range'_zero, List.forIn_cons, List.forIn_nil, Sem.run_bind, run_sizeOf ht, Result.andThen_ok, Nat.mul_one, Nat.zero_add, h1 [.int .i64 a, .int .i64 b] 0 _ _ rfl, h1 [.int .i64 a, .int .i64 b] 1 _ _ rfl, run_checkInt he, Sem.run_pure]
def mFind : List MK → Int → Int → Nat → Option (Nat × Value)
  | [], _, _, _ => none
  | x :: r, c, n, i => if c = x.c ∧ n = x.n then some (i, .pointer (some ⟨x.b, 0, none⟩)) else mFind r c n (i + 1)
theorem mFind_get : ∀ (L : List MK) (c n : Int) (i : Nat), (mFind L c n i).map Prod.snd = (mGet L c n).map fun b => Value.pointer (some ⟨b, 0, none⟩)
  | [], _, _, _ => rfl
  | x :: r, c, n, i => by
    unfold mFind mGet
    split
    · rfl
    · exact mFind_get r c n (i + 1)
theorem run_findAsking {K : TypeId} (h : KeyT P K) (c n : Int) (w : World) : ∀ (L : List MK) (i0 i : Nat), (Instr.findAsking K (idV c n) (mkEs L i0) i).run P w = .ok (mFind L c n i) w
  | [], _, _ => rfl
  | x :: L, i0, i => by
    have h1 : (Op.equal K (idV c n) (idV x.c x.n)).run P w = .ok (c == x.c && n == x.n) w := (h.eq c n x.c x.n).run 9991 w
    unfold mkEs mFind Instr.findAsking
    simp only [Sem.run_bind, h1, Result.andThen_ok]
    by_cases hq : c = x.c ∧ n = x.n
    · simp [hq]
    · have h2 : (c == x.c && n == x.n) = false := by
        cases h3 : (c == x.c && n == x.n) with
        | false => rfl
        | true => simp at h3; exact absurd h3 hq
      rw [h2, if_neg hq]
      exact run_findAsking h c n w L (i0 + 1) (i + 1)
theorem run_findId {K : TypeId} (h : KeyT P K) (c n : Int) (w : World) (L : List MK) : (Instr.findKey K (idV c n) (mkEs L 0)).run P w = .ok (mFind L c n 0) w := by
  obtain ⟨E, z, by_, hu, he, ht⟩ := h.ex
  unfold Instr.findKey
  simp only [Sem.run_bind, run_underlying hu, Result.andThen_ok]
  cases L with
  | nil => rfl
  | cons x L => exact run_findAsking h c n w (x :: L) 0 0
section
variable {n : Nat} {R : Post} {l : Fr} {Ps Ps' : List Part} {As : List Fact} {ops : Array Oper} {rest : List Oper} {ty : TypeId} {pos : String} {aft : Array Edge} {g : Option (Nat × Bool)} {K : Nx} {d : Nat} {dd : Option Tmp}
theorem q_look {T Kt E : TypeId} {x y : Operand} {m : Nat} {L : List MK} {c k : Int} {sz by_ : Nat} (hk : KeyT P Kt) (hu : P.underlying T = some (.map Kt E)) (ht : ti P E = some (some (.pointer none), sz, by_)) (hx : evs l x = some (.map (some m))) (hy : evs l y = some (idV c k)) (hb : OwnAt Ps m (mapO L)) :
    QR P l Ps As ⟨dd, .lookup T x y false, ty, pos, aft, g⟩ (.pointer ((mGet L c k).map fun b => ⟨b, 0, none⟩)) := fun Z w ρ hs hρ => by
  have h := hs.block hb
  have h1 := run_findId hk c k w L
  have h2 := mFind_get L c k 0
  simp only [execOp, hρ _ _ hx, hρ _ _ hy, Instr.lookup, Sem.run_bind, run_underlying hu, Result.andThen_ok]
  simp only [getObj, Sem.run, h, run_checkId hk, Result.andThen_ok, Sem.run_bind, h1]
  cases hf : mFind L c k 0 with
  | none =>
    rw [hf] at h2
    have h3 : mGet L c k = none := by cases hg : mGet L c k with
      | none => rfl
      | some b => rw [hg] at h2; cases h2
    rw [hf] at h1
    simp [h3, h1, run_zeroValue ht, Sem.run]
  | some q =>
    rw [hf] at h2
    cases hg : mGet L c k with
    | none => rw [hg] at h2; cases h2
    | some b =>
      rw [hg] at h2
      simp only [Option.map_some, Option.some.injEq] at h2
      obtain ⟨i, v⟩ := q
      simp only at h2
      subst h2
      rw [hf] at h1
      simp [h1, Sem.run]
theorem OW_makeMap {T : TypeId} (hd : d < n) (h : ∀ b, K ((d, .map (some b)) :: l) ([(b, mapO [])] :: Ps) As) : OW P n R l Ps As ⟨some d, .makeMap T none, ty, pos, aft, g⟩ K :=
  OW_value rfl hd fun Z w ρ hs hρ => ⟨_, w.alloc (mapO []), Z, _, As, by simp only [execOp, Instr.makeMap, Option.map_none]; rfl, hs.alloc _, h _⟩
theorem OW_mapNew {T Kt E : TypeId} {x y z : Operand} {m b : Nat} {L : List MK} {c k : Int} (hk : KeyT P Kt) (hu : P.underlying T = some (.map Kt E)) (hx : evs l x = some (.map (some m))) (hy : evs l y = some (idV c k)) (hz : evs l z = some (.pointer (some ⟨b, 0, none⟩))) (hn : mGet L c k = none)
    (hP : SetAt Ps [(m, mapO L)] [(m, mapO (L ++ [⟨c, k, b⟩]))] Ps') (h : K l Ps' As) : OW P n R l Ps As ⟨none, .mapUpdate T x y z, ty, pos, aft, g⟩ K :=
  OW_skip rfl fun Z w ρ hs hρ => by
    have hb : w.heap[m]? = some (mapO L) := by
      obtain ⟨Qs, h3, h4⟩ := hP.perm
      exact ((hs.permParts h3).own (m, _) (by simp)).1
    have h1 := run_findId hk c k w L
    have h2 := mFind_get L c k 0
    have hf : mFind L c k 0 = none := by
      cases hf : mFind L c k 0 with
      | none => rfl
      | some q => rw [hf, hn] at h2; cases h2
    rw [hf] at h1
    refine ⟨{ w with heap := w.heap.setIfInBounds m (mapO (L ++ [⟨c, k, b⟩])) }, Z, Ps', As, ?_, hs.setAt hP fun h => h.setBlock, h⟩
    have he : (mkEs L 0).toArray.push { key := idV c k, val := .pointer (some ⟨b, 0, none⟩), born := L.length } = (mkEs (L ++ [⟨c, k, b⟩]) 0).toArray := by
      rw [mkEs_append]; simp
    simp only [execOp, hρ _ _ hx, hρ _ _ hy, hρ _ _ hz, Instr.mapUpdate, Sem.run_bind, run_underlying hu, Result.andThen_ok, getObj, Sem.run, hb, run_checkId hk, h1]
    simp [setObj, Sem.run, hb, he, mapO]
theorem OW_rangeM {T Kt E : TypeId} {x : Operand} {m : Nat} {L : List MK} (hu : P.underlying T = some (.map Kt E)) (hx : evs l x = some (.map (some m))) (hb : OwnAt Ps m (mapO L)) (hd : d < n)
    (h : ∀ b, K ((d, .pointer (some ⟨b, 0, none⟩)) :: l) ([(b, .mapIter (some m) L.length #[] L.length)] :: Ps) As) : OW P n R l Ps As ⟨some d, .range T x, ty, pos, aft, g⟩ K :=
  OW_value rfl hd fun Z w ρ hs hρ => by
    have h1 := hs.block hb
    refine ⟨_, w.alloc (.mapIter (some m) L.length #[] L.length), Z, _, As, ?_, hs.alloc _, h _⟩
    simp only [execOp, hρ _ _ hx, Instr.range, Sem.run_bind, run_underlying hu, Result.andThen_ok, getObj, Sem.run, h1, run_newObj]
    rfl
/-- How many entries are left. -/
def leftN (L : List MK) (seen : Array Nat) : Nat := ((mkEs L 0).filter fun e => !seen.contains e.born).length
theorem leftN_push {L : List MK} {seen : Array Nat} {j : Nat} {x : MK} (hj : L[j]? = some x) (hn : seen.contains j = false) : leftN L (seen.push j) < leftN L seen := by
  unfold leftN
  have h1 := mkEs_get L 0 j x hj
  simp only [Nat.zero_add] at h1
  have h2 : (⟨idV x.c x.n, .pointer (some ⟨x.b, 0, none⟩), j⟩ : MapEntry) ∈ mkEs L 0 := List.mem_of_getElem? h1
  have key : ∀ (es : List MapEntry), (es.filter fun e => !(seen.push j).contains e.born).length ≤ (es.filter fun e => !seen.contains e.born).length ∧
      ((∃ e ∈ es, e.born = j) → (es.filter fun e => !(seen.push j).contains e.born).length < (es.filter fun e => !seen.contains e.born).length) := by
    intro es
    induction es with
    | nil => exact ⟨Nat.le_refl _, fun ⟨e, h, _⟩ => by cases h⟩
    | cons e es ih =>
      have h3 : (seen.push j).contains e.born = (seen.contains e.born || e.born == j) := by
        rw [Bool.eq_iff_iff]; simp [or_comm]
      by_cases hc : e.born = j
      · have h4 : (!(seen.push j).contains e.born) = false := by rw [h3]; simp [hc]
        have h5 : (!seen.contains e.born) = true := by rw [hc, hn]; rfl
        simp only [List.filter_cons, h4, h5, if_true, Bool.false_eq_true, if_false, List.length_cons]
        exact ⟨by have := ih.1; omega, fun _ => by have := ih.1; omega⟩
      · have h4 : (!(seen.push j).contains e.born) = !seen.contains e.born := by rw [h3]; simp [hc]
        cases h5 : (!seen.contains e.born) with
        | true =>
          simp only [List.filter_cons, h4, h5, if_true, List.length_cons]
          refine ⟨by have := ih.1; omega, fun ⟨f, hf, hfj⟩ => ?_⟩
          rcases List.mem_cons.1 hf with rfl | hf
          · exact absurd hfj hc
          · have := ih.2 ⟨f, hf, hfj⟩; omega
        | false =>
          simp only [List.filter_cons, h4, h5, Bool.false_eq_true, if_false]
          refine ⟨ih.1, fun ⟨f, hf, hfj⟩ => ?_⟩
          rcases List.mem_cons.1 hf with rfl | hf
          · exact absurd hfj hc
          · exact ih.2 ⟨f, hf, hfj⟩
  exact (key (mkEs L 0)).2 ⟨_, h2, rfl⟩
theorem OW_nextM {Ps'' : Array Nat → List Part} {x : Operand} {m r : Nat} {L : List MK} {seen : Array Nat} (hx : evs l x = some (.pointer (some ⟨r, 0, none⟩))) (hb : OwnAt Ps m (mapO L)) (hr : OwnAt Ps r (.mapIter (some m) L.length seen L.length)) (hP : ∀ seen', SetAt Ps [(r, .mapIter (some m) L.length seen L.length)] [(r, .mapIter (some m) L.length seen' L.length)] (Ps'' seen')) (hd : d < n)
    (h0 : (∀ j, j < L.length → seen.contains j) → K ((d, .tuple #[.bool false]) :: l) Ps As)
    (h1 : ∀ j y, L[j]? = some y → leftN L (seen.push j) < leftN L seen → K ((d, .tuple #[.bool true, idV y.c y.n, .pointer (some ⟨y.b, 0, none⟩)]) :: l) (Ps'' (seen.push j)) As) : OW P n R l Ps As ⟨some d, .next x false, ty, pos, aft, g⟩ K :=
  OW_value rfl hd fun Z w ρ hs hρ => by
    have e1 := hs.block hr
    have e2 := hs.block hb
    have hold : ∀ x ∈ (mkEs L 0).toArray.toList, x.born < L.length := fun x hx => by
      obtain ⟨j, y, k1, k2⟩ := mkEs_mem (by simpa using hx)
      subst k2
      have : j < L.length := by
        rcases Nat.lt_or_ge j L.length with h | h
        · exact h
        · simp [List.getElem?_eq_none h] at k1
      simpa using this
    rcases run_next_at (P := P) w ty r m L.length L.length seen _ L.length e1 e2 hold (Nat.le_refl _) with ⟨k1, k2⟩ | ⟨e, k1, w1, k2, k3⟩
    · refine ⟨_, w, Z, Ps, As, by simp only [execOp, hρ _ _ hx]; rw [Sem.run_bind, k2]; rfl, hs, h0 fun j hj => ?_⟩
      have hg := mkEs_get L 0 j _ (List.getElem?_eq_getElem hj)
      simp only [Nat.zero_add] at hg
      cases hc : seen.contains j with
      | true => rfl
      | false =>
        have : (⟨idV L[j].c L[j].n, .pointer (some ⟨L[j].b, 0, none⟩), j⟩ : MapEntry) ∈ leftOf (mkEs L 0).toArray seen := by
          unfold leftOf
          rw [Array.mem_filter]
          exact ⟨by simpa using List.mem_of_getElem? hg, by simp only [hc]; rfl⟩
        rw [Array.eq_empty_of_size_eq_zero k1] at this
        simp at this
    · unfold leftOf at k1
      have k1' : e ∈ (mkEs L 0).toArray.filter fun e => !seen.contains e.born := by simpa using k1
      rw [Array.mem_filter] at k1'
      obtain ⟨k4, k5⟩ := k1'
      obtain ⟨j, y, k6, k7⟩ := mkEs_mem (by simpa using k4)
      subst k7
      simp only [Nat.zero_add] at k3 k5
      have hs1 : St Z w1 Ps As := by
        rcases k2 with rfl | rfl
        · exact hs
        · exact hs.drew _
      refine ⟨_, _, Z, Ps'' (seen.push j), As, by simp only [execOp, hρ _ _ hx]; rw [Sem.run_bind, k3]; rfl, ?_, h1 j y k6 (leftN_push k6 (by simpa using k5))⟩
      exact hs1.setAt (hP _) fun h => h.setBlock
/-! ### append to a slice that is read, and is full: a new row -/
theorem Row.grown {T : TypeId} {sz : Nat} {zv : Value} {w : World} {Z : Nat → Prop} {m k old : Nat} {olds news : List Value} (hs : St Z w Ps As) (hz : zv.cells.size = sz) (ho : olds.length = m * sz) (hl : news.length = k * sz) (hmx : m + k ≤ maxLen) :
    ∃ p', Row T sz (.slice (some ⟨w.heap.size, 0, none⟩) (m + k) (grownCap w (m + k) old T)) (m + k) (olds ++ news) p' ∧ St Z (w.drew.alloc (.cells (olds.toArray ++ news.toArray ++ Builtin.zeroCells zv.cells (grownCap w (m + k) old T - (m + k))) T)) (p' :: Ps) As := by
  have h1 := grownCap_ge w (m + k) old T
  refine ⟨[(w.heap.size, cellsO ((olds ++ news) ++ (Builtin.zeroCells zv.cells (grownCap w (m + k) old T - (m + k))).toList) T)], ⟨by rw [List.length_append, ho, hl, Nat.add_mul], .inr ⟨_, _, _, rfl, rfl, ?_, h1, grownCap_le_maxLen w (m + k) old T hmx⟩⟩, ?_⟩
  · rw [List.length_append, List.length_append, ho, hl, Array.length_toList, size_zeroCells, hz, ← Nat.add_mul, ← Nat.add_mul]
    congr 1; omega
  · have h2 := (hs.drew (w.drawn + 1)).alloc (.cells (olds.toArray ++ news.toArray ++ Builtin.zeroCells zv.cells (grownCap w (m + k) old T - (m + k))) T)
    have e : (olds.toArray ++ news.toArray ++ Builtin.zeroCells zv.cells (grownCap w (m + k) old T - (m + k))) = ((olds ++ news) ++ (Builtin.zeroCells zv.cells (grownCap w (m + k) old T - (m + k))).toList).toArray := by
      apply Array.ext'; simp
    unfold cellsO
    rw [← e]
    exact h2
theorem OW_appendF {α : Type} {e : De α} {T E : TypeId} {x y : Operand} {zv : Value} {by_ b c : Nat} {A : Option Addr} {xs : List α} {news : List Value} {T' : TypeId} (hu : P.underlying T = some (.slice E)) (ht : ti P E = some (some zv, e.sz, by_)) (hz : zv.cells.size = e.sz) (hsz : 0 < e.sz) (hx : evs l x = some (.slice A xs.length xs.length)) (hy : evs l y = some (.slice (some ⟨b, 0, none⟩) 1 c))
    (hA : RdF e A xs.length xs ∈ As) (hb : OwnAt Ps b (cellsO news T')) (hl : news.length = e.sz) (h1 : news.all Value.oneCell' = true) (h63 : (xs.length + 1) * by_ ≤ 140737488355328) (hmx : xs.length + 1 ≤ maxLen) (hd : d < n)
    (h : ∀ v' p' css, Row E e.sz v' (xs.length + 1) (css.flatten ++ news) p' → K ((d, v') :: l) (p' :: Ps) (RepsF e xs css :: As)) : OW P n R l Ps As ⟨some d, .call ⟨.builtin .append, #[x, y], #[T, T]⟩, ty, pos, aft, g⟩ K :=
  OW_value rfl hd fun Z w ρ hs hρ => by
    have hc : CellsAt w b 0 news := ⟨_, _, _, hs.block hb, fun j v hv => by simpa using hv⟩
    have hnews : ∀ j u, news[j]? = some u → w.cell? ((⟨b, 0, none⟩ : Addr).add j) = some u := fun j u hu => by rw [add_none]; exact hc.cell hu
    have hm' := hmx
    simp only [maxLen] at hm'
    have grow : ∀ (a : Addr) (css : List (List Value)), A = some a → Reps (e.rep Z w) xs css → (∀ j u, css.flatten[j]? = some u → w.cell? (a.add j) = some u) → ∃ v w' Z' Ps' As', (execOp ρ ⟨some d, .call ⟨.builtin .append, #[x, y], #[T, T]⟩, ty, pos, aft, g⟩).run P w = .ok (.value v) w' ∧ St Z' w' Ps' As' ∧ K ((d, v) :: l) Ps' As' := by
      intro a css hA1 hr hcells
      subst hA1
      have ht' := ht
      unfold ti at ht'
      cases hi : P.info? E with
      | none => rw [hi] at ht'; cases ht'
      | some i =>
        rw [hi] at ht'
        simp only [Option.map_some, Option.some.injEq, Prod.mk.injEq] at ht'
        obtain ⟨e1, e2, e3⟩ := ht'
        have hfl : css.flatten.length = xs.length * e.sz := by rw [flat_len hr.lens, hr.length]
        obtain ⟨p', k1, k2⟩ := Row.grown (T := E) (old := xs.length) (hs.addFact (A := RepsF e xs css) hr) hz hfl (k := 1) (news := news) (by simpa using hl) hmx
        have hrun := run_append_grow (P := P) w T ty E i zv hu hi e1 a xs.length xs.length css.flatten (by rw [hfl, e2]) hcells ⟨b, 0, none⟩ 1 c news (by rw [hl, e2]; simp) hnews (by omega) (by omega) (growslice_fits (by omega) (by rw [e3]; exact h63))
        exact ⟨_, _, Z, _, _, by rw [execOp_append (hρ _ _ hx) (hρ _ _ hy), Sem.run_bind, hrun]; rfl, k2, h _ p' css k1⟩
    obtain ⟨g1, g2, ⟨rfl, g3⟩ | ⟨b', q, css, rfl, g4, g5, g6⟩⟩ : RdS e Z w A xs.length xs := hs.facts _ hA
    · rcases A with _ | a
      · obtain ⟨v', w', p', k1, k2, k3⟩ := run_append (ty := ty) (c := c) (p := []) hu ht hz hsz (hs.nilPart.addFact (A := RepsF e [] []) Reps.nil) (Row.nil E e.sz) (ad := ⟨b, 0, none⟩) (m := 1) (news := news) (by simp [hl]) hnews (fun u hu => List.all_eq_true.1 h1 u hu) (by simpa using h63) (by simpa using hmx)
        refine ⟨v', w', Z, _, _, by rw [execOp_append (hρ _ _ hx) (hρ _ _ hy), Sem.run_bind]; erw [k1]; rfl, k3, h v' p' [] (by simpa using k2)⟩
      · exact grow a [] rfl .nil (by simp)
    · exact grow ⟨b', q, none⟩ css rfl g5 (fun j u hu => by rw [add_none]; exact g6.cell hu)

/-! ### Parts laid together and taken apart -/
theorem WC_perm {c : Code} (Qs : List Part) (h : Qs.flatten.Perm Ps.flatten) (k : WC P n c R l Qs As) : WC P n c R l Ps As := fun Z w a hs ha => k Z w a (hs.permParts h) ha
theorem WL_perm (Qs : List Part) (h : Qs.flatten.Perm Ps.flatten) (k : WL P n ops R rest l Qs As) : WL P n ops R rest l Ps As := fun Z w a hs ha => k Z w a (hs.permParts h) ha
/-- A call that parts are handed to. -/
theorem OW_callP {k : FuncId} {xs : List Operand} {ts : Array TypeId} {args : List Value} {Lin Qs : List Part} {pre : List Fact} {res : Value → List Part → List Fact → Prop}
    (hsp : Sp P k args Lin pre res) (hxs : Evs l xs args) (hd : d < n) (hp : (Lin ++ Qs).flatten.Perm Ps.flatten) (hpre : ∀ A ∈ pre, A ∈ As)
    (h : ∀ v Lo fs, res v Lo fs → K ((d, v) :: l) (Lo ++ Qs) (fs ++ As)) :
    OW P n R l Ps As ⟨some d, .call ⟨.value (.func k), xs.toArray, ts⟩, ty, pos, aft, g⟩ K :=
  OW_call hsp hxs hd (fun hs => (hs.permParts hp).subFacts fun A hA => by
    rcases List.mem_append.1 hA with hA | hA
    · exact hpre A hA
    · exact hA) h
end
end Go.GW
