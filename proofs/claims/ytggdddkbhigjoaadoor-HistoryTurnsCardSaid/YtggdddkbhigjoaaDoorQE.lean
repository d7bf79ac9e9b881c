/- The walks and laws that this claim's card rests on, part 5. -/
import Derived.Test.YtggdddkbhigjoaaDoorQD
set_option linter.unusedVariables false
set_option linter.unusedSimpArgs false
/- Views, plain: histories that were fed, what a statement notes of them; moves that are made right. -/
namespace Go.Proofs.YtggdddkbhigjoaaDoor
open Go Go.GW
/-! ### Texts of letters -/
def bytesL (x : Option Nat) : List UInt8 := match x with
  | none => [0xE2, 0x82, 0xAC]
  | some r => [UInt8.ofNat (97 + r % 26)]
def txL (ls : List (Option Nat)) : List UInt8 := ls.flatMap bytesL
def txOf (ls : List (Option Nat)) : ByteArray := mkB (txL ls)
theorem bytesL_len (x : Option Nat) : 1 ≤ (bytesL x).length ∧ (bytesL x).length ≤ 3 := by cases x <;> simp [bytesL]
theorem txL_len : ∀ (ls : List (Option Nat)), (txL ls).length ≤ 3 * ls.length
  | [] => by simp [txL]
  | x :: ls => by
    have := txL_len ls
    have := bytesL_len x
    simp only [txL, List.flatMap_cons, List.length_append, List.length_cons] at *; omega
theorem txOf_size (ls : List (Option Nat)) : (txOf ls).size ≤ 3 * ls.length := by unfold txOf; rw [mkB_size]; exact txL_len ls
theorem txOf_append (ls : List (Option Nat)) (x : Option Nat) : txOf ls ++ mkB (bytesL x) = txOf (ls ++ [x]) := by
  unfold txOf txL; rw [mkB_append, List.flatMap_append]; simp
theorem utAt_letters : ∀ (ls : List (Option Nat)) (q : Nat) (pre : List UInt8), utAt (mkB (pre ++ txL ls)) pre.length q = (((q + ls.length : Nat) : Int), 0, 0)
  | [], q, pre => by
    rw [utAt_end (by rw [mkB_size]; simp [txL])]; rfl
  | x :: ls, q, pre => by
    have hl := bytesL_len x
    have hp : pre.length < (mkB (pre ++ txL (x :: ls))).size := by rw [mkB_size, txL, List.flatMap_cons]; simp only [List.length_append]; omega
    have ih := utAt_letters ls (q + 1) (pre ++ bytesL x)
    rw [List.append_assoc] at ih
    have key : ∃ c : Nat, Utf8.decode (mkB (pre ++ (bytesL x ++ txL ls))) pre.length = (c, (bytesL x).length) ∧ (c : Int) ≠ 65533 ∧ letF c = true := by
      cases x with
      | none => exact ⟨8364, by unfold bytesL; rw [decode_wide]; rfl, by decide, letF_wide⟩
      | some k =>
        have hk : k % 26 < 26 := Nat.mod_lt _ (by decide)
        have hc : (UInt8.ofNat (97 + k % 26)).toNat = 97 + k % 26 := by
          rw [UInt8.toNat_ofNat']; omega
        refine ⟨97 + k % 26, ?_, by omega, letF_low (by omega) (by omega)⟩
        unfold bytesL
        rw [decode_one _ _ _ (by rw [hc]; omega), hc]; rfl
    obtain ⟨c, h1, h2, h3⟩ := key
    rw [txL, List.flatMap_cons] at hp ⊢
    rw [utAt_next hp]
    · rw [show (mkB (pre ++ (bytesL x ++ List.flatMap bytesL ls))) = mkB (pre ++ (bytesL x ++ txL ls)) from rfl, h1]
      simp only
      rw [List.length_append] at ih
      rw [ih]
      simp only [List.length_cons]
      congr 2; omega
    · rw [show (mkB (pre ++ (bytesL x ++ List.flatMap bytesL ls))) = mkB (pre ++ (bytesL x ++ txL ls)) from rfl, h1]; unfold begF; simp [h2]
    · rw [show (mkB (pre ++ (bytesL x ++ List.flatMap bytesL ls))) = mkB (pre ++ (bytesL x ++ txL ls)) from rfl, h1]; simp [h3]
theorem utF_letters (ls : List (Option Nat)) : utF (txOf ls) = ((ls.length : Int), 0, 0) := by
  have := utAt_letters ls 0 []
  simp only [List.nil_append, List.length_nil, Nat.zero_add] at this
  exact this
/-! ### What is noted -/
def idsOf (es : List Ent) : List (Int × Int) := es.map fun e => (e.op.c, e.op.n)
def kindN (o : GOp) : Int := if o.kind = 4 then 2 else if o.kind = 2 then 1 else 0
def kindsOf (es : List Ent) : List Int := es.map fun e => kindN e.op
def textsOf (es : List Ent) : List ByteArray := es.map fun e => e.op.text
def insAt {α : Type} (l : List α) (i : Nat) (x : α) : List α := l.take i ++ x :: l.drop i
def nxF (nx : List Int) (c n : Int) : List Int := if nx.getD c.toNat 0 < n then nx.set c.toNat n else nx
theorem zipE_noted {β : Type} (f : GOp → β) (hf : ∀ a b, Same a b → f b = f a) : ∀ (xs : List GOp) (es : List Ent), Sames (es.map (·.op)) xs → (zipE xs es).map (fun e => f e.op) = es.map fun e => f e.op
  | [], [], _ => rfl
  | x :: xs, e :: es, h => by
    cases h with
    | cons h hr => simp only [zipE, List.map_cons, hf _ _ h, zipE_noted f hf xs es hr]
  | [], e :: es, h => by cases h
  | x :: xs, [], h => by cases h
theorem PutIs.noted {β : Type} (f : GOp → β) (hf : ∀ a b, Same a b → f b = f a) {H : Hist} (h : HV H) {i : Nat} {o : GOp} {es : List Ent} {nw : List Rg} {eff : GOp} (g : Good H i o) (p : PutIs H i o es nw eff) :
    (putF H i o).1.ents.map (fun e => f e.op) = insAt (H.ents.map fun e => f e.op) i (f o) := by
  have hs := p.sames h g
  rw [p.put]
  show (newEnts i o nw es (carryF o (H.ops.drop i)).2).map (fun e => f e.op) = _
  unfold newEnts insAt
  rw [List.map_append, List.map_cons, zipE_noted f hf _ _ hs]
  have e0 : (es.map fun e => f e.op) = H.ents.map fun e => f e.op := by
    have := congrArg (List.map f) (p.es_ops g)
    unfold Hist.ops at this
    rw [List.map_map, List.map_map] at this
    exact this
  rw [← List.map_take, ← List.map_drop, List.map_take, List.map_drop, e0, ← List.map_take, ← List.map_drop, List.map_take, List.map_drop]
theorem PutIs.length {H : Hist} (h : HV H) {i : Nat} {o : GOp} {es : List Ent} {nw : List Rg} {eff : GOp} (g : Good H i o) (p : PutIs H i o es nw eff) : (putF H i o).1.ents.length = H.ents.length + 1 := by
  have hs := p.sames h g
  rw [p.put]
  show (newEnts i o nw es (carryF o (H.ops.drop i)).2).length = _
  rw [newEnts_length hs (by rw [p.len g]; exact g.le), p.len g]
/-- A history that was fed, and the row of its effects. -/
inductive Made : Nat → Hist → List Ce → Prop
  | zero : Made 0 ⟨[], 0⟩ []
  | step {n : Nat} {H : Hist} {X : List Ce} {i : Nat} {o : GOp} (h : Made n H X) (g : Good H i o) : Made (n + 1) (putF H i o).1 (applyRow (putF H i o).2.1 X)
theorem Made.inv {n : Nat} {H : Hist} {X : List Ce} (h : Made n H X) : n ≤ 1000 → HV H ∧ Rule H X ∧ H.ents.length = n := by
  induction h with
  | zero =>
    intro _
    refine ⟨⟨trivial, rfl, by decide, fun e he => (by cases he), fun e he => (by cases he), fun e he => (by cases he), List.nodup_nil⟩, ⟨rfl, fun q c hq => (by simp at hq)⟩, rfl⟩
  | step h g ih =>
    intro hn
    obtain ⟨h1, h2, h3⟩ := ih (by omega)
    obtain ⟨es, nw, eff, p⟩ := put_good h1 g
    have h4 := put_hv h1 g p
    have h5 := (put_row h1 g p h2 (by omega)).2.2
    refine ⟨by rw [p.put]; exact h4, by rw [p.put]; exact h5, by rw [p.length h1 g, h3]⟩
/-- What holds of a view: N is no less than any number that was noted. -/
structure VI (N : Int) (n : Nat) (H : Hist) (X : List Ce) (nx : List Int) : Prop where
  made : Made n H X
  le : n ≤ 200
  nxl : nx.length = 9
  nxe : ∀ e ∈ H.ents, ∃ x, nx[e.op.c.toNat]? = some x ∧ e.op.n ≤ x
  nx0 : ∀ x ∈ nx, 0 ≤ x ∧ x ≤ N
theorem VI.hv {N : Int} {n : Nat} {H : Hist} {X : List Ce} {nx : List Int} (h : VI N n H X nx) : HV H := (h.made.inv (by have := h.le; omega)).1
theorem VI.rule {N : Int} {n : Nat} {H : Hist} {X : List Ce} {nx : List Int} (h : VI N n H X nx) : Rule H X := (h.made.inv (by have := h.le; omega)).2.1
theorem VI.len {N : Int} {n : Nat} {H : Hist} {X : List Ce} {nx : List Int} (h : VI N n H X nx) : H.ents.length = n := (h.made.inv (by have := h.le; omega)).2.2
theorem VI.total {N : Int} {n : Nat} {H : Hist} {X : List Ce} {nx : List Int} (h : VI N n H X nx) : 0 ≤ H.total ∧ H.total ≤ 256 * n := by
  have h1 := h.hv
  refine ⟨h1.total0, ?_⟩
  have key : ∀ (l : List GOp) (w : Int), CtxOk w l → sumO l ≤ 256 * l.length := by
    intro l
    induction l with
    | nil => intro w _; simp [sumO]
    | cons o l ih =>
      intro w hc
      have := ih _ hc.2
      have := hc.1.width
      simp only [sumO, List.length_cons]; omega
  have := key _ _ h1.ctx
  rw [← h1.tot] at this
  have e : H.ops.length = n := by unfold Hist.ops; rw [List.length_map, h.len]
  rw [e] at this; exact this
theorem right_bd {c n : Int} (h : rightF c n = true) : 1 ≤ c ∧ c ≤ 8 ∧ 1 ≤ n ∧ n ≤ 1024 := by unfold rightF at h; simpa using h
theorem nxF_length (nx : List Int) (c n : Int) : (nxF nx c n).length = nx.length := by unfold nxF; split <;> simp
theorem VI.zero : VI 0 0 ⟨[], 0⟩ [] (List.replicate 9 0) := ⟨.zero, by decide, rfl, fun e he => (by cases he), fun x hx => by have := List.eq_of_mem_replicate hx; omega⟩
theorem VI.step {N N' : Int} {n : Nat} {H : Hist} {X : List Ce} {nx : List Int} (h : VI N n H X nx) {i : Nat} {o : GOp} (g : Good H i o) (hn : n < 200) (hN : N ≤ N') (ho : o.n ≤ N') : VI N' (n + 1) (putF H i o).1 (applyRow (putF H i o).2.1 X) (nxF nx o.c o.n) := by
  have hb := right_bd g.idr
  have hl := h.nxl
  obtain ⟨es, nw, eff, p⟩ := put_good h.hv g
  refine ⟨.step h.made g, by omega, by rw [nxF_length]; exact hl, ?_, ?_⟩
  · intro e he
    have hids := p.noted (fun o => (o.c, o.n)) (fun a b hs => by rw [hs.c, hs.n]) h.hv g
    have hm : (e.op.c, e.op.n) ∈ insAt (H.ents.map fun e => (e.op.c, e.op.n)) i (o.c, o.n) := by
      rw [← hids]; exact List.mem_map.2 ⟨e, he, rfl⟩
    have hold : (e.op.c = o.c ∧ e.op.n = o.n) ∨ ∃ x ∈ H.ents, e.op.c = x.op.c ∧ e.op.n = x.op.n := by
      unfold insAt at hm
      rcases List.mem_append.1 hm with hm | hm
      · obtain ⟨x, hx, hh⟩ := List.mem_map.1 (List.mem_of_mem_take hm)
        simp only [Prod.mk.injEq] at hh
        exact .inr ⟨x, hx, hh.1.symm, hh.2.symm⟩
      · rcases List.mem_cons.1 hm with hm | hm
        · simp only [Prod.mk.injEq] at hm; exact .inl hm
        · obtain ⟨x, hx, hh⟩ := List.mem_map.1 (List.mem_of_mem_drop hm)
          simp only [Prod.mk.injEq] at hh
          exact .inr ⟨x, hx, hh.1.symm, hh.2.symm⟩
    rcases hold with ⟨e1, e2⟩ | ⟨x, hx, e1, e2⟩
    · rw [e1, e2]
      unfold nxF
      have hlt : o.c.toNat < nx.length := by omega
      split
      · exact ⟨o.n, by rw [List.getElem?_set_self hlt], Int.le_refl _⟩
      · rename_i hh
        refine ⟨nx[o.c.toNat], List.getElem?_eq_getElem hlt, ?_⟩
        rw [List.getD_eq_getElem?_getD, List.getElem?_eq_getElem hlt] at hh
        simp only [Option.getD_some] at hh; omega
    · obtain ⟨y, hy, hle⟩ := h.nxe x hx
      rw [e1, e2]
      unfold nxF
      split
      · rename_i hh
        by_cases hc : o.c.toNat = x.op.c.toNat
        · rw [hc] at hh ⊢
          rw [List.getD_eq_getElem?_getD, hy] at hh
          simp only [Option.getD_some] at hh
          have hlt : x.op.c.toNat < nx.length := by
            rcases Nat.lt_or_ge x.op.c.toNat nx.length with h | h
            · exact h
            · rw [List.getElem?_eq_none h] at hy; cases hy
          exact ⟨o.n, by rw [List.getElem?_set_self hlt], by omega⟩
        · exact ⟨y, by rw [List.getElem?_set_ne hc]; exact hy, hle⟩
      · exact ⟨y, hy, hle⟩
  · intro x hx
    unfold nxF at hx
    split at hx
    · rcases List.mem_or_eq_of_mem_set hx with hx | rfl
      · have := h.nx0 x hx; omega
      · omega
    · have := h.nx0 x hx; omega
/-! ### Moves that are made -/
theorem VI.fresh {N : Int} {n : Nat} {H : Hist} {X : List Ce} {nx : List Int} (h : VI N n H X nx) {c : Int} {x : Int} (hc : nx[c.toNat]? = some x) (hc0 : 1 ≤ c ∧ c ≤ 8) {k : Int} (hk : x < k) : whereId H.ents c k = none := by
  cases hw : whereId H.ents c k with
  | none => rfl
  | some j =>
    obtain ⟨hj, h1, h2⟩ := whereId_some hw
    obtain ⟨y, hy, hle⟩ := h.nxe _ (List.getElem_mem hj)
    rw [h1, hc] at hy
    have := Option.some.inj hy
    omega
theorem whereId_of {es : List Ent} (hn : (es.map fun e => (e.op.c, e.op.n)).Nodup) {k : Nat} (hk : k < es.length) : whereId es es[k].op.c es[k].op.n = some k := by
  cases hw : whereId es es[k].op.c es[k].op.n with
  | none => exact absurd ⟨rfl, rfl⟩ (whereId_none hw _ (List.getElem_mem hk))
  | some j =>
    obtain ⟨hj, h1, h2⟩ := whereId_some hw
    have h3 := List.getElem_inj (h₀ := by simpa using hj) (h₁ := by simpa using hk) hn
    simp only [List.getElem_map, Prod.mk.injEq] at h3
    rw [h3.1 ⟨h1, h2⟩]
theorem good_head {o : GOp} (hk : 1 ≤ o.kind ∧ o.kind ≤ 4) (hr : rightF o.c o.n = true) (he : extraF o = false) : headF o := ⟨by omega, fun h => by rw [hr] at h; simp at h, by rw [he]; simp⟩
theorem VI.room {N : Int} {n : Nat} {H : Hist} {X : List Ce} {nx : List Int} (h : VI N n H X nx) (i : Nat) : 0 ≤ beforeF H i ∧ beforeF H i ≤ H.total := by
  obtain ⟨h1, h2, h3, h4⟩ := h.hv.split i
  have := sumO_nonneg h2
  omega
theorem good_ins {N : Int} {n : Nat} {H : Hist} {X : List Ce} {nx : List Int} (h : VI N n H X nx) {i : Nat} (hi : i ≤ n) {c k : Int} (hw : whereId H.ents c k = none) (hr : rightF c k = true) {a : Int} {ls : List (Option Nat)} (ha : 0 ≤ a ∧ a ≤ beforeF H i) (hl : 1 ≤ ls.length ∧ ls.length ≤ 256) : Good H i { zeroOp with c := c, n := k, kind := 1, at_ := a, text := txOf ls } := by
  have ht := h.total
  have hb := h.room i
  have hle := h.le
  have hu := utF_letters ls
  refine ⟨by rw [h.len]; exact hi, ⟨(check_ins rfl (by omega)).2 ⟨good_head (by dsimp only; omega) hr (by simp [extraF, zeroOp]), insF_ok.2 ?_⟩, .inl rfl⟩, hw, hr, fun e => (by cases e), ?_⟩
  · dsimp only
    rw [hu]; dsimp only; omega
  · have : widthF { zeroOp with c := c, n := k, kind := 1, at_ := a, text := txOf ls } = ls.length := by unfold widthF; rw [if_pos rfl]; dsimp only; rw [hu]
    rw [this]; omega
theorem good_hide {N : Int} {n : Nat} {H : Hist} {X : List Ce} {nx : List Int} (h : VI N n H X nx) {i : Nat} (hi : i ≤ n) {c k : Int} (hw : whereId H.ents c k = none) (hr : rightF c k = true) {rs : List Rg} (hp : Pls (beforeF H i) rs) (hne : rs ≠ []) : Good H i { zeroOp with c := c, n := k, kind := 2, rs := rs } := by
  have ht := h.total
  have hb := h.room i
  have hle := h.le
  refine ⟨by rw [h.len]; exact hi, ⟨(check_cov (.inl rfl) (by omega)).2 ⟨good_head (by dsimp only; omega) hr (by simp [extraF, zeroOp, emptyB]), (rangesF_ok (by omega)).2 ⟨hne, hp⟩⟩, .inr (.inl rfl)⟩, hw, hr, fun e => (by cases e), ?_⟩
  have : widthF { zeroOp with c := c, n := k, kind := 2, rs := rs } = 0 := by unfold widthF; rw [if_neg (by dsimp only; omega)]
  rw [this]; omega
theorem good_status {N : Int} {n : Nat} {H : Hist} {X : List Ce} {nx : List Int} (h : VI N n H X nx) {i : Nat} (hi : i ≤ n) {c k : Int} (hw : whereId H.ents c k = none) (hr : rightF c k = true) {j : Nat} (hj : j < H.ents.length) (hji : j < i) (hk : H.ents[j].op.kind ≠ 4) (on : Bool) : Good H i { zeroOp with c := c, n := k, kind := 4, tc := H.ents[j].op.c, tn := H.ents[j].op.n, on := on } := by
  have ht := h.total
  have hb := h.room i
  have hle := h.le
  have hne : ¬ (H.ents[j].op.c = c ∧ H.ents[j].op.n = k) := whereId_none hw _ (List.getElem_mem hj)
  refine ⟨by rw [h.len]; exact hi, ⟨(check_st rfl (by omega)).2 ⟨good_head (by dsimp only; omega) hr (by simp [extraF, zeroOp, emptyB]), h.hv.idr _ (List.getElem_mem hj), hne⟩, .inr (.inr rfl)⟩, hw, hr, fun _ => ⟨j, whereId_of h.hv.ids hj, hji, _, List.getElem?_eq_getElem hj, hk⟩, ?_⟩
  have : widthF { zeroOp with c := c, n := k, kind := 4, tc := H.ents[j].op.c, tn := H.ents[j].op.n, on := on } = 0 := by unfold widthF; rw [if_neg (show ¬ (4 : Int) = 1 by decide)]
  rw [this]; omega
/-! ### Cells that texts put in -/
theorem emptyB_eq {s : ByteArray} (h : (s == ⟨#[]⟩) = true) : s = ⟨#[]⟩ := by
  rw [beq_toListBytes, ByteArray.toList_eq, ByteArray.toList_eq] at h
  have := eq_of_beq h
  obtain ⟨⟨x⟩⟩ := s
  simp at this
  subst this; rfl
theorem right_runes {w : Int} {o : GOp} (h : Right w o) : ((runesF o.text).length : Int) = widthF o := by
  rcases h.kind with hk | hk | hk
  · exact runes_width h hk
  all_goals
    have hh := (h.head h.w0).2.2
    have ht : o.text = ⟨#[]⟩ := by
      unfold extraF at hh
      have h1 : o.kind ≠ 1 := by omega
      apply emptyB_eq
      cases hq : (o.text == ⟨#[]⟩) with
      | true => rfl
      | false => exfalso; apply hh; simp [h1, hq]
    have hw : widthF o = 0 := by unfold widthF; rw [if_neg (by omega)]
    rw [ht, hw]
    have : runesF ⟨#[]⟩ = [] := by unfold runesF; rw [runesAt_end (by decide)]
    rw [this]; rfl
def cellsN (ts : List ByteArray) : Nat := (ts.map fun s => (runesF s).length).sum
theorem cells_before {H : Hist} (h : HV H) (i : Nat) : (cellsN ((textsOf H.ents).take i) : Int) = beforeF H i := by
  have key : ∀ (l : List GOp) (w : Int), CtxOk w l → ((cellsN (l.map (·.text)) : Nat) : Int) = sumO l := by
    intro l
    induction l with
    | nil => intro w _; rfl
    | cons o l ih =>
      intro w hc
      have h1 := ih _ hc.2
      have h2 := right_runes hc.1
      simp only [cellsN, List.map_cons, List.sum_cons, sumO] at h1 ⊢
      omega
  have e : (textsOf H.ents).take i = (H.ops.take i).map (·.text) := by unfold textsOf Hist.ops; rw [← List.map_take, ← List.map_take, List.map_map]; rfl
  rw [e, key _ 0 (h.split i).1, before_ops]
end Go.Proofs.YtggdddkbhigjoaaDoor
/- Views in memory. -/
namespace Go.Proofs.YtggdddkbhigjoaaDoor
open Go Go.GW
def idC (x : Int × Int) : List Value := [.int .i64 x.1, .int .i64 x.2]
def idD : De (Int × Int) where
  sz := 2
  rep _ _ x cs := cs = idC x
  len h := by subst h; rfl
  one h := by subst h; rfl
  stable _ _ _ _ _ h := h
theorem id_open (u : Int × Int) : ∀ Z w cs, idD.rep Z w u cs → ∃ y : Unit, cs = idC u ∧ ∀ B ∈ ([] : List Fact), B.holds Z w := fun _ _ _ h => ⟨(), h, fun _ h => by cases h⟩
theorem str_open (u : ByteArray) : ∀ Z w cs, De.str.rep Z w u cs → ∃ y : Unit, cs = [.string u] ∧ ∀ B ∈ ([] : List Fact), B.holds Z w := fun _ _ _ h => ⟨(), h, fun _ h => by cases h⟩
theorem i64_open (u : Int) : ∀ Z w cs, (De.int .i64).rep Z w u cs → ∃ y : Unit, cs = [.int .i64 u] ∧ ∀ B ∈ ([] : List Fact), B.holds Z w := fun _ _ _ h => ⟨(), h, fun _ h => by cases h⟩
/-- Cells of lists whose elements are plain cells. -/
def flatC {α : Type} (f : α → List Value) (xs : List α) : List Value := (xs.map f).flatten
theorem flatC_append {α : Type} (f : α → List Value) (xs ys : List α) : flatC f (xs ++ ys) = flatC f xs ++ flatC f ys := by unfold flatC; simp
theorem flatC_one {α : Type} (f : α → List Value) (x : α) : flatC f [x] = f x := by unfold flatC; simp
theorem reps_of {α : Type} {e : De α} {f : α → List Value} (h : ∀ Z w x, e.rep Z w x (f x)) (xs : List α) (Z : Nat → Prop) (w : World) : Reps (e.rep Z w) xs (xs.map f) := by
  induction xs with
  | nil => exact .nil
  | cons x xs ih => exact .cons (h Z w x) ih
abbrev vwP (v h b : Nat) (A1 : Option Addr) (n c1 : Nat) (A2 : Option Addr) (c2 : Nat) (A3 : Option Addr) (c3 : Nat) (nx : List Int) : Part :=
  [(v, cellsO (.pointer (some ⟨h, 0, none⟩) :: .pointer (some ⟨b, 0, none⟩) :: .slice A1 n c1 :: .slice A2 n c2 :: .slice A3 n c3 :: ints .i64 nx) 61)]
/-- A view that lies somewhere. -/
def ViewAt (v h m b : Nat) (H : Hist) (X : List Ce) (nx : List Int) (Lo : List Part) (fs : List Fact) : Prop :=
  ∃ (L : List MR) (A : Option Addr) (cap : Nat) (B : Option Addr) (t : Tr) (A1 : Option Addr) (c1 : Nat) (A2 : Option Addr) (c2 : Nat) (A3 : Option Addr) (c3 : Nat),
    Lo = [vwP v h b A1 H.ents.length c1 A2 c2 A3 c3 nx, hdP h A H.ops.length cap m H.total, mpP m L, mkP L, rpP b B] ∧
    fs = [RdF opD A cap H.ops, AllF L nowF, TrF B t, RdF idD A1 c1 (idsOf H.ents), RdF (De.int .i64) A2 c2 (kindsOf H.ents), RdF De.str A3 c3 (textsOf H.ents)] ∧
    HR H L ∧ Wf t ∧ t.row = X
/-! ### Small laws of the functions of the statements -/
theorem tmod_rest (a : Int) (m : Nat) (hm : 0 < m) : (a.tmod m + m).tmod m = a % m := by
  have h1 := Int.emod_nonneg a (show (m : Int) ≠ 0 by omega)
  have h2 := Int.emod_lt_of_pos a (show (0 : Int) < m by omega)
  have h3 : 0 ≤ a.tmod m + m := by
    have := Int.lt_tmod_of_pos a (show (0 : Int) < m by omega)
    omega
  rw [Int.tmod_eq_emod_of_nonneg h3, Int.add_emod_right]
  rcases Int.le_total 0 a with h | h
  · rw [Int.tmod_eq_emod_of_nonneg h, Int.emod_emod_of_dvd _ (Int.dvd_refl _)]
  · have h4 : a.tmod m = -((-a) % m) := by
      have := Int.neg_tmod (-a) m
      rw [Int.neg_neg] at this
      rw [this, Int.tmod_eq_emod_of_nonneg (by omega)]
    rw [h4]
    have := Int.emod_add_mul_ediv (-a) m
    have h5 : -((-a) % m) = a + m * ((-a) / m) := by omega
    rw [h5, Int.add_mul_emod_self_left]
theorem tmod_bd (a : Int) (m : Nat) (hm : 0 < m) : -(m : Int) < a.tmod m ∧ a.tmod m < m :=
  ⟨Int.lt_tmod_of_pos a (by omega), Int.tmod_lt_of_pos a (by omega)⟩
def editsL (ids : List (Int × Int)) (ks : List Int) : List (Int × Int) := ((ids.zip ks).filter fun x => !(x.2 == 2)).map (·.1)
theorem editsL_snoc {ids : List (Int × Int)} {ks : List Int} {i : Nat} (h1 : i < ids.length) (h2 : i < ks.length) : editsL (ids.take (i + 1)) (ks.take (i + 1)) = editsL (ids.take i) (ks.take i) ++ (if !(ks[i] == 2) then [ids[i]] else []) := by
  unfold editsL
  rw [List.take_succ_eq_append_getElem h1, List.take_succ_eq_append_getElem h2, List.zip_append (by rw [List.length_take, List.length_take]; omega), List.filter_append, List.map_append]
  congr 1
  simp only [List.zip_cons_cons, List.zip_nil_right, List.filter_cons, List.filter_nil]
  split <;> rfl
theorem editsL_len (ids : List (Int × Int)) (ks : List Int) : (editsL ids ks).length ≤ ids.length := by
  unfold editsL
  rw [List.length_map]
  have := List.length_filter_le (fun x : (Int × Int) × Int => !(x.2 == 2)) (ids.zip ks)
  have h2 : (ids.zip ks).length ≤ ids.length := by rw [List.length_zip]; omega
  omega
theorem cellsN_snoc {ts : List ByteArray} {i : Nat} (h : i < ts.length) : cellsN (ts.take (i + 1)) = cellsN (ts.take i) + (runesF ts[i]).length := by
  unfold cellsN
  rw [List.take_succ_eq_append_getElem h, List.map_append, List.sum_append]; simp
/-- total's inner loop. -/
structure ToI (s : ByteArray) (k p j : Nat) : Prop where
  le : p ≤ s.size
  eq : j + (runesAt s p).length = k + (runesF s).length
/-- some's loop. -/
structure SoI (n q : Nat) (xs : List Rg) (v : Value) (p : Part) : Prop where
  le : q ≤ n
  pls : Pls q xs
  row : Row 37 2 v xs.length (rgs xs) p
theorem SoI.len {n q : Nat} {xs : List Rg} {v : Value} {p : Part} (h : SoI n q xs v p) : xs.length ≤ q := by
  have := h.pls.len (by omega); omega
theorem pls_mono {T T' : Int} {xs : List Rg} (h : Pls T xs) (ht : T ≤ T') : Pls T' xs := ⟨h.norm, h.below.mono ht⟩
theorem pls_join {q : Nat} {ys : List Rg} {r : Rg} (h : Pls q (ys ++ [r])) (hr : r.hi = q) : Pls ((q + 1 : Nat) : Int) (ys ++ [⟨r.lo, q + 1⟩]) := by
  obtain ⟨g1, g2⟩ := normB_append.1 h.norm
  obtain ⟨k1, k2⟩ := BelowR.append.1 h.below
  refine ⟨normB_append.2 ⟨g1, g2.1, by have := g2.2.1; show r.lo < (q : Int) + 1; omega, trivial⟩, BelowR.append.2 ⟨k1.mono (by omega), fun x hx => ?_⟩⟩
  rw [List.mem_singleton] at hx; subst hx
  show (q : Int) + 1 ≤ _; omega
theorem pls_more {q : Nat} {xs : List Rg} (h : Pls q xs) (hl : ∀ r, xs.getLast? = some r → r.hi ≠ q) : Pls ((q + 1 : Nat) : Int) (xs ++ [⟨q, q + 1⟩]) := by
  refine ⟨normB_append.2 ⟨h.norm, ?_, by show (q : Int) < q + 1; omega, trivial⟩, BelowR.append.2 ⟨h.below.mono (by omega), fun x hx => ?_⟩⟩
  · rcases List.eq_nil_or_concat xs with rfl | ⟨ys, r, rfl⟩
    · show (0 : Int) ≤ q; omega
    · rw [List.concat_eq_append] at *
      have h1 := h.below r (by simp)
      have h2 := hl r (by simp)
      rw [endB_append]
      show r.hi + 1 ≤ (q : Int); omega
  · rw [List.mem_singleton] at hx; subst hx
    show (q : Int) + 1 ≤ _; omega
theorem vw_next {a b c d e : Value} {nx : List Int} {k : Nat} {x : Int} (h : nx[k]? = some x) : (a :: b :: c :: d :: e :: ints .i64 nx)[5 + ((k : Nat) : Int).toNat * 1]? = some (.int .i64 x) := by
  rw [Int.toNat_natCast, Nat.mul_one, Nat.add_comm 5 k]
  simp [ints, h]
structure Mv where
  kind : Int
  i : Int
  client : Int
  a : Int
  b : Int
  n : Int
def mvC (m : Mv) : List Value := [.int .i64 m.kind, .int .i64 m.i, .int .i64 m.client, .int .i64 m.a, .int .i64 m.b, .int .i64 m.n]
def mvV (m : Mv) : Value := .agg (mvC m).toArray
theorem editsL_mem {ids : List (Int × Int)} {ks : List Int} {x : Int × Int} (h : x ∈ editsL ids ks) : ∃ (j : Nat) (k : Int), ids[j]? = some x ∧ ks[j]? = some k ∧ k ≠ 2 := by
  unfold editsL at h
  obtain ⟨⟨y, k⟩, h1, rfl⟩ := List.mem_map.1 h
  obtain ⟨h2, h3⟩ := List.mem_filter.1 h1
  obtain ⟨j, hj⟩ := List.mem_iff_getElem?.1 h2
  rw [List.getElem?_zip_eq_some] at hj
  exact ⟨j, k, hj.1, hj.2, by simpa using h3⟩
theorem edits_target {H : Hist} {i : Nat} {x : Int × Int} (h : x ∈ editsL ((idsOf H.ents).take i) ((kindsOf H.ents).take i)) : ∃ (j : Nat) (hj : j < H.ents.length), j < i ∧ H.ents[j].op.c = x.1 ∧ H.ents[j].op.n = x.2 ∧ H.ents[j].op.kind ≠ 4 := by
  obtain ⟨j, k, h1, h2, h3⟩ := editsL_mem h
  rw [List.getElem?_take] at h1 h2
  split at h1
  · rename_i hji
    rw [if_pos hji] at h2
    unfold idsOf at h1
    unfold kindsOf at h2
    rw [List.getElem?_map] at h1 h2
    cases he : H.ents[j]? with
    | none => rw [he] at h1; cases h1
    | some e =>
      have hj : j < H.ents.length := by
        rcases Nat.lt_or_ge j H.ents.length with h | h
        · exact h
        · rw [List.getElem?_eq_none h] at he; cases he
      have hee : H.ents[j] = e := by rw [List.getElem?_eq_getElem hj] at he; exact Option.some.inj he
      rw [he] at h1 h2
      simp only [Option.map_some, Option.some.injEq] at h1 h2
      subst h1
      refine ⟨j, hj, hji, by rw [hee], by rw [hee], ?_⟩
      rw [hee]
      intro hk
      unfold kindN at h2
      rw [if_pos hk] at h2
      exact h3 h2.symm
  · cases h1
/-- An operation that is right whatever its id. -/
structure Body (H : Hist) (i : Nat) (o : GOp) : Prop where
  good : ∀ c k : Int, whereId H.ents c k = none → rightF c k = true → Good H i { o with c := c, n := k }
  text : o.text.size ≤ 1000
  rs : o.rs.length ≤ 60000
theorem VI.cellsB {N : Int} {n : Nat} {H : Hist} {X : List Ce} {nx : List Int} (h : VI N n H X nx) (i : Nat) : cellsN ((textsOf H.ents).take i) ≤ 51200 := by
  have h1 := cells_before h.hv i
  have h2 := h.room i
  have h3 := h.total
  have h4 := h.le
  omega
end Go.Proofs.YtggdddkbhigjoaaDoor
/- Walks: the statements' small functions. -/
namespace Go.Proofs.YtggdddkbhigjoaaDoor
open Go Go.GW
set_option maxRecDepth 10000 in
theorem rest_g (a : Int) (m : Nat) (hm : 0 < m ∧ m ≤ 1099511627776) : Sp Tryd.prog 19 [.int .i64 a, .int .i64 m] [] [] (Is (.int .i64 (a % m))) := by
  have htb := tmod_bd a m hm.1
  refine Sp.of (n := 12) ⟨_, Tryd.func19, rfl, rfl, rfl, rfl⟩ (Nat.le_of_ble_eq_true rfl) fun Ps As => ?_
  refine WC_seq (WC_region ?_)
  refine Lq (q_assign rfl) ?_
  refine WL_nil (thenN (WC_seq (WC_region ?_)))
  refine Lq (q_move rfl) ?_
  refine Lq (q_move rfl) ?_
  refine Lq (q_rem rfl rfl (by omega) rfl) ?_
  refine Lq (q_move rfl) ?_
  refine Lq (q_add rfl rfl (wr64 (by omega))) ?_
  refine Lq (q_move rfl) ?_
  refine Lq (q_rem rfl rfl (by omega) (tmod_rest a m hm.1)) ?_
  refine Lq (q_assign rfl) ?_
  refine WL_nil (thenN (WC_ret ?_))
  refine ⟨_, [], [], fun Z w hs => .tmp rfl (.nil), ?_, fun Z w hs => hs.out (List.Sublist.refl _) (fun _ h => h)⟩
  exact ⟨rfl, rfl, rfl⟩

theorem conv_rune2 (x : Int) (h : 0 ≤ x ∧ x ≤ 2147483647) (w : World) : (convert 3 21 (.int .i64 x)).run Tryd.prog w = .ok (.int .i32 x) w := by
  have h1 : (convert 3 21 (.int .i64 x)).run Tryd.prog w = .ok (.int .i32 (IntKind.i32.wrap x)) w := by kernel_rfl
  have h2 : (x + 2147483648) % 4294967296 - 2147483648 = x := by omega
  rw [h1, IntKind.wrap_i32, h2]
theorem conv_text2 (x : Int) (w : World) : (convert 21 9 (.int .i32 x)).run Tryd.prog w = .ok (.string (Utf8.encode x)) w := by kernel_rfl
def letV : Option Nat → Int
  | none => 8364
  | some r => 97 + (r % 26 : Nat)
theorem encode_let (x : Option Nat) : Utf8.encode (letV x) = mkB (bytesL x) := by
  cases x with
  | none => decide
  | some r =>
    have hr : r % 26 < 26 := Nat.mod_lt _ (by decide)
    have e : letV (some r) = ((97 + r % 26 : Nat) : Int) := by simp [letV]
    rw [e]
    unfold Utf8.encode
    have hv : Utf8.valid ((97 + r % 26 : Nat) : Int) = true := by unfold Utf8.valid; simp; omega
    simp only [hv, if_true, Int.toNat_natCast, if_pos (show 97 + r % 26 < 128 by omega)]; rfl
def WordsP (n : Nat) : Value → List Part → List Fact → Prop := fun v Lo fs => ∃ ls : List (Option Nat), ls.length = n ∧ v = .string (txOf ls) ∧ Lo = [] ∧ fs = []

set_option maxRecDepth 10000 in
theorem words_g (n : Nat) (k : Int) (hn : n ≤ 1000000) : Sp Tryd.prog 10 [.int .i64 n, .int .i64 k] [] [] (WordsP n) := by
  refine Sp.of (n := 29) ⟨_, Tryd.func10, rfl, rfl, rfl, rfl⟩ (Nat.le_of_ble_eq_true rfl) fun Ps As => ?_
  refine WC_seq (WC_region ?_)
  refine Lq (q_assign rfl) ?_
  refine WL_nil (thenN (WC_seq (WC_region ?_)))
  refine Lq (q_assign rfl) ?_
  refine WL_nil (thenN (WC_seq (WC_seq (WC_region ?_))))
  refine Lq (q_assign rfl) ?_
  refine WL_nil (thenN (WC_block ?_))
  refine WC_loopE (α := Nat × List (Option Nat)) (fun (i, ls) => n - i)
    (fun (i, ls) => [(0, .int .i64 n), (1, .int .i64 k), (5, .string (txOf ls)), (6, .int .i64 i)])
    (fun (i, ls) => Ps)
    (fun (i, ls) => As)
    (fun (i, ls) => i ≤ n ∧ ls.length = i)
    (0, []) ?_ (.cons rfl (.cons rfl (.cons rfl (.cons rfl (.nil _))))) (List.Sublist.refl _) (fun _ h => h) ?_
  · exact ⟨Nat.zero_le _, rfl⟩
  · rintro ⟨i, ls⟩ hI
    have hle := hI.1
    have hll := hI.2
    refine WC_seq (WC_seq (WC_region ?_))
    refine Lq (q_move rfl) ?_
    refine Lq (q_move rfl) ?_
    refine Lq (q_lss rfl rfl) ?_
    refine WL_nil (thenN ?_)
    refine WC_cond rfl (fun h10 => ?_) (fun h10 => ?_)
    · refine WC_skip (thenN (WC_seq (WC_block (WC_seq (WC_region ?_)))))
      refine Lq (q_move rfl) ?_
      refine Lq (q_move rfl) ?_
      refine Lq (q_add rfl rfl rfl) ?_
      refine WL_main rfl (OW_call0 (rest_g (IntKind.i64.wrap (k + i)) 26 (by omega)) (.cons rfl (.cons rfl (.nil))) (by decide) mem0 fun u5_3 Lo fs hres => ?_)
      obtain ⟨rfl, rfl, rfl⟩ := hres
      refine Lq (q_add rfl rfl (wr64 (by omega))) ?_
      refine Lq (q_conv rfl (conv_rune2 _ (by omega))) ?_
      refine Lq (q_assign rfl) ?_
      refine WL_nil (thenN (WC_seq (WC_seq (WC_region ?_))))
      refine Lq (q_move rfl) ?_
      refine Lq (q_move rfl) ?_
      refine Lq (q_add rfl rfl rfl) ?_
      refine WL_main rfl (OW_call0 (rest_g (IntKind.i64.wrap (k + i)) 7 (by omega)) (.cons rfl (.cons rfl (.nil))) (by decide) mem0 fun u6_3 Lo fs hres => ?_)
      obtain ⟨rfl, rfl, rfl⟩ := hres
      refine Lq (q_eql rfl rfl) ?_
      refine WL_nil (thenN ?_)
      refine WC_cond rfl (fun h23 => ?_) (fun h23 => ?_)
      · refine WC_region ?_
        refine Lq (q_assign rfl) ?_
        refine WL_nil (thenN ?_)
        try simp only [Bq0, Bq1, Bq2, Bq3, Bq4, Bq5, Bq6, Bq7, Bq8, Bq9, Bq10, Bq11, Bq12] at *
        obtain ⟨lx, hlx⟩ : ∃ lx : Option Nat, lx = none := ⟨_, rfl⟩
        have hv : (8364 : Int) = letV lx := by rw [hlx]; rfl
        have henc : Utf8.encode 8364 = mkB (bytesL lx) := by rw [hv]; exact encode_let lx
        have htl := txOf_size ls
        have hbl := bytesL_len lx
        refine WC_region ?_
        refine Lq (q_move rfl) ?_
        refine Lq (q_move rfl) ?_
        refine Lq (q_conv rfl (fun w => (conv_text2 _ w).trans (by rw [henc]))) ?_
        refine Lq (q_cat rfl rfl (by rw [mkB_size]; omega)) ?_
        refine Lq (q_assign rfl) ?_
        refine WL_nil (blockN (thenN (WC_region ?_)))
        refine Lq (q_move rfl) ?_
        refine Lq (q_add rfl rfl (wr64 (by omega))) ?_
        refine Lq (q_assign rfl) ?_
        refine WL_nil (thenK ?_)
        have htx : txOf ls ++ mkB (bytesL lx) = txOf (ls ++ [lx]) := txOf_append ls lx
        refine ⟨(i + 1, ls ++ [lx]), ?_, (.cons rfl (.cons rfl (.cons (congrArg (fun z => some (Value.string z)) htx) (.cons rfl (.nil _))))), (List.Sublist.refl _), (fun _ h => h)⟩
        exact ⟨by show n - (i + 1) < n - i; omega, by omega, by rw [List.length_append, hI.2]; rfl⟩
      · refine WC_skip (thenN ?_)
        try simp only [Bq0, Bq1, Bq2, Bq3, Bq4, Bq5, Bq6, Bq7, Bq8, Bq9, Bq10, Bq11, Bq12] at *
        obtain ⟨lx, hlx⟩ : ∃ lx : Option Nat, lx = some (IntKind.i64.wrap (k + i) % 26).toNat := ⟨_, rfl⟩
        have hv : (97 : Int) + IntKind.i64.wrap (k + i) % (26 : Nat) = letV lx := by rw [hlx]; simp only [letV]; omega
        have henc : Utf8.encode (97 + IntKind.i64.wrap (k + i) % (26 : Nat)) = mkB (bytesL lx) := by rw [hv]; exact encode_let lx
        have htl := txOf_size ls
        have hbl := bytesL_len lx
        refine WC_region ?_
        refine Lq (q_move rfl) ?_
        refine Lq (q_move rfl) ?_
        refine Lq (q_conv rfl (fun w => (conv_text2 _ w).trans (by rw [henc]))) ?_
        refine Lq (q_cat rfl rfl (by rw [mkB_size]; omega)) ?_
        refine Lq (q_assign rfl) ?_
        refine WL_nil (blockN (thenN (WC_region ?_)))
        refine Lq (q_move rfl) ?_
        refine Lq (q_add rfl rfl (wr64 (by omega))) ?_
        refine Lq (q_assign rfl) ?_
        refine WL_nil (thenK ?_)
        have htx : txOf ls ++ mkB (bytesL lx) = txOf (ls ++ [lx]) := txOf_append ls lx
        refine ⟨(i + 1, ls ++ [lx]), ?_, (.cons rfl (.cons rfl (.cons (congrArg (fun z => some (Value.string z)) htx) (.cons rfl (.nil _))))), (List.Sublist.refl _), (fun _ h => h)⟩
        exact ⟨by show n - (i + 1) < n - i; omega, by omega, by rw [List.length_append, hI.2]; rfl⟩
    · refine WC_exit (thenExit (thenExit (blockHit (thenN (WC_seq (WC_region ?_))))))
      refine Lq (q_move rfl) ?_
      refine Lq (q_assign rfl) ?_
      refine WL_nil (thenN (WC_ret ?_))
      refine ⟨_, [], [], fun Z w hs => .tmp rfl (.nil), ?_, fun Z w hs => hs.out (List.Sublist.refl _) (fun _ h => h)⟩
      try simp only [Bq0, Bq1, Bq2, Bq3, Bq4, Bq5, Bq6, Bq7, Bq8, Bq9, Bq10, Bq11, Bq12] at *
      exact ⟨ls, by omega, rfl, rfl, rfl⟩


set_option maxRecDepth 10000 in
theorem vtotal_s (v h b n : Nat) (A1 : Option Addr) (c1 : Nat) (A2 : Option Addr) (c2 : Nat) (A3 : Option Addr) (c3 : Nat) (nx : List Int) (ts : List ByteArray) (i : Nat) (hn : n = ts.length) (hi : i ≤ n) (hi2 : i ≤ 1048576) (hb : ∀ j, j ≤ i → cellsN (ts.take j) ≤ 1048576) : Sp Tryd.prog 44 [.pointer (some ⟨v, 0, none⟩), .int .i64 i] [vwP v h b A1 n c1 A2 c2 A3 c3 nx] [RdF De.str A3 c3 ts] (fun u Lo fs => u = .int .i64 (cellsN (ts.take i)) ∧ Lo = [vwP v h b A1 n c1 A2 c2 A3 c3 nx] ∧ fs = []) := by
  subst hn
  refine Sp.of (n := 25) ⟨_, Tryd.func44, rfl, rfl, rfl, rfl⟩ (Nat.le_of_ble_eq_true rfl) fun Ps As => ?_
  refine WC_seq (WC_region ?_)
  refine Lq (q_assign rfl) ?_
  refine WL_nil (thenN (WC_seq (WC_region ?_)))
  refine Lq (q_assign rfl) ?_
  refine WL_nil (thenN (WC_seq (WC_seq (WC_region ?_))))
  refine Lq (q_assign rfl) ?_
  refine WL_nil (thenN (WC_block ?_))
  refine WC_loopE (α := Nat) (fun k => i - k)
    (fun k => [(0, .pointer (some ⟨v, 0, none⟩)), (1, .int .i64 i), (5, .int .i64 (cellsN (ts.take k) : Nat)), (6, .int .i64 k)])
    (fun k => (vwP v h b A1 ts.length c1 A2 c2 A3 c3 nx :: Ps))
    (fun k => (RdF De.str A3 c3 ts :: As))
    (fun k => k ≤ i)
    0 ?_ (.cons rfl (.cons rfl (.cons rfl (.cons rfl (.nil _))))) (List.Sublist.cons_cons _ (List.Sublist.refl _)) (fun _ h => h) ?_
  · exact Nat.zero_le _
  · rintro k hI
    refine WC_seq (WC_seq (WC_region ?_))
    refine Lq (q_move rfl) ?_
    refine Lq (q_move rfl) ?_
    refine Lq (q_lss rfl rfl) ?_
    refine WL_nil (thenN ?_)
    refine WC_cond rfl (fun h9 => ?_) (fun h9 => ?_)
    · refine WC_skip (thenN (WC_seq (WC_block (WC_seq ?_))))
      try simp only [Bq0, Bq1, Bq2, Bq3, Bq4, Bq5, Bq6, Bq7, Bq8, Bq9, Bq10, Bq11, Bq12] at *
      have hkt : k < ts.length := by omega
      have hsn := cellsN_snoc hkt
      have hb1 := hb (k + 1) (by omega)
      refine WC_elem (k := k) (.head _) (List.getElem?_eq_getElem hkt) (str_open _) fun b5 q5 y5 e5 => ?_
      cases e5
      refine WC_region ?_
      refine Lq (q_move rfl) ?_
      refine Lq (q_nil rfl) ?_
      refine Lq (q_field (o' := 4) Tryd.underlying61 rfl ti58 rfl rfl) ?_
      refine Lq (q_load1 Tryd.underlying58 rfl rfl own0 rfl) ?_
      refine Lq (q_move rfl) ?_
      refine Lq (q_idxRd Tryd.underlying58 ti9 rfl rfl (by omega) (by omega)) ?_
      refine Lq (q_loadF1 (j := 0) Tryd.underlying9 rfl rfl (.head _) rfl rfl) ?_
      refine WL_main rfl (OW_rangeS Tryd.underlying9 rfl (by decide) fun b19 => ?_)
      refine WL_nil (thenN (WC_block ?_))
      refine WC_loopE (α := Nat × Nat) (fun (p, j) => ts[k].size - p)
        (fun (p, j) => [(0, .pointer (some ⟨v, 0, none⟩)), (1, .int .i64 i), (5, .int .i64 j), (6, .int .i64 k), (19, .pointer (some ⟨b19, 0, none⟩))])
        (fun (p, j) => ([(b19, .stringIter ts[k] p)] :: vwP v h b A1 ts.length c1 A2 c2 (some ⟨b5, q5, none⟩) c3 nx :: Ps))
        (fun (p, j) => (RdF De.str (some ⟨b5, q5, none⟩) c3 ts :: As))
        (fun (p, j) => ToI ts[k] (cellsN (ts.take k)) p j)
        (0, cellsN (ts.take k)) ?_ (.cons rfl (.cons rfl (.cons rfl (.cons rfl (.cons rfl (.nil _)))))) (List.Sublist.cons_cons _ (List.Sublist.cons_cons _ (List.Sublist.refl _))) (fun _ h => .tail _ h) ?_
      · exact ⟨Nat.zero_le _, rfl⟩
      · rintro ⟨p, j⟩ hJ
        have hle := hJ.le
        have hje := hJ.eq
        refine WC_seq ?_
        by_cases hp : p < ts[k].size
        · refine WC_region ?_
          refine WL_main rfl (OW_nextS1 rfl hp (.z) (by decide) ?_)
          refine Lq (q_extract (vs := [_, _, _]) rfl rfl) ?_
          refine WL_nil (thenN (WC_seq (WC_true rfl rfl (WC_skip (thenN (WC_block (WC_region ?_)))))))
          refine Lq (q_move rfl) ?_
          refine Lq (q_add rfl rfl (wr64 (by omega)) (c := ((j + 1 : Nat) : Int))) ?_
          refine Lq (q_assign rfl) ?_
          refine WL_nil (blockN (thenK ?_))
          have hd := decode_pos ts[k] p
          have hd2 := decode_leP hp
          refine ⟨(p + (Utf8.decode ts[k] p).2, j + 1), ?_, (.cons rfl (.cons rfl (.cons rfl (.cons rfl (.cons rfl (.nil _)))))), (List.Sublist.cons_cons _ (List.Sublist.cons_cons _ (List.Sublist.refl _))), (fun _ h => h)⟩
          refine ⟨by show ts[k].size - (p + (Utf8.decode ts[k] p).2) < ts[k].size - p; omega, hd2, ?_⟩
          have := hJ.eq
          rw [runesAt_next hp, List.length_cons] at this
          show j + 1 + _ = _
          omega
        · refine WC_region ?_
          refine WL_main rfl (OW_nextS0 rfl own0 hp (by decide) ?_)
          refine Lq (q_extract (vs := [_]) rfl rfl) ?_
          refine WL_nil (thenN (WC_seq (WC_false rfl rfl (WC_exit (thenExit (thenExit (blockHit ?_)))))))
          refine blockN (thenN (WC_region ?_))
          refine Lq (q_move rfl) ?_
          refine Lq (q_add rfl rfl (wr64 (by omega)) (c := ((k + 1 : Nat) : Int))) ?_
          refine Lq (q_assign rfl) ?_
          refine WL_nil (thenK ?_)
          have hjj : j = cellsN (ts.take (k + 1)) := by
            have := hJ.eq
            rw [runesAt_end hp, List.length_nil] at this
            rw [hsn]; omega
          refine ⟨k + 1, ?_, (.cons rfl (.cons rfl (.cons (congrArg (fun z : Nat => some (Value.int .i64 z)) hjj) (.cons rfl (.nil _))))), (List.Sublist.cons _ (List.Sublist.cons_cons _ (List.Sublist.refl _))), (fun _ h => h)⟩
          exact ⟨by show i - (k + 1) < i - k; omega, by omega⟩
    · refine WC_exit (thenExit (thenExit (blockHit (thenN (WC_seq (WC_region ?_))))))
      refine Lq (q_move rfl) ?_
      refine Lq (q_assign rfl) ?_
      refine WL_nil (thenN (WC_ret ?_))
      refine ⟨_, [_], [], fun Z w hs => .tmp rfl (.nil), ?_, fun Z w hs => hs.out (List.Sublist.cons_cons _ (List.Sublist.refl _)) (fun _ h => h)⟩
      simp only [decide_eq_false_iff_not] at h9
      obtain rfl : k = i := by omega
      exact ⟨rfl, rfl, rfl⟩


set_option maxRecDepth 10000 in
theorem vedits_s (v h b n : Nat) (A1 : Option Addr) (c1 : Nat) (A2 : Option Addr) (c2 : Nat) (A3 : Option Addr) (c3 : Nat) (nx : List Int) (ids : List (Int × Int)) (ks : List Int) (i : Nat) (hn : n = ids.length) (hk : ks.length = ids.length) (hi : i ≤ n) (hi2 : i ≤ 1048576) : Sp Tryd.prog 29 [.pointer (some ⟨v, 0, none⟩), .int .i64 i] [vwP v h b A1 n c1 A2 c2 A3 c3 nx] [RdF idD A1 c1 ids, RdF (De.int .i64) A2 c2 ks] (fun u Lo fs => ∃ A c, u = .slice A (editsL (ids.take i) (ks.take i)).length c ∧ Lo = [vwP v h b A1 n c1 A2 c2 A3 c3 nx] ∧ fs = [RdF idD A c (editsL (ids.take i) (ks.take i))]) := by
  subst hn
  refine Sp.of (n := 31) ⟨_, Tryd.func29, rfl, rfl, rfl, rfl⟩ (Nat.le_of_ble_eq_true rfl) fun Ps As => ?_
  refine WC_seq (WC_region ?_)
  refine Lq (q_assign rfl) ?_
  refine WL_nil (thenN (WC_seq (WC_region ?_)))
  refine Lq (q_assign rfl) ?_
  refine WL_nil (thenN (WC_seq (WC_seq (WC_region ?_))))
  refine Lq (q_assign rfl) ?_
  refine WL_nil (thenN (WC_block ?_))
  refine WC_nilPart ?_
  refine WC_loopE (α := Nat × Value × Part) (fun (k, w, p) => i - k)
    (fun (k, w, p) => [(0, .pointer (some ⟨v, 0, none⟩)), (1, .int .i64 i), (5, w), (6, .int .i64 k)])
    (fun (k, w, p) => (p :: vwP v h b A1 ids.length c1 A2 c2 A3 c3 nx :: Ps))
    (fun (k, w, p) => (RdF idD A1 c1 ids :: RdF (De.int .i64) A2 c2 ks :: As))
    (fun (k, w, p) => k ≤ i ∧ Row 25 2 w (editsL (ids.take k) (ks.take k)).length (flatC idC (editsL (ids.take k) (ks.take k))) p)
    (0, .slice none 0 0, []) ?_ (.cons rfl (.cons rfl (.cons rfl (.cons rfl (.nil _))))) (List.Sublist.cons_cons _ (List.Sublist.cons_cons _ (List.Sublist.refl _))) (fun _ h => h) ?_
  · exact ⟨Nat.zero_le _, Row.nil _ _⟩
  · rintro ⟨k, w, pa⟩ hI
    refine WC_seq (WC_seq (WC_region ?_))
    refine Lq (q_move rfl) ?_
    refine Lq (q_move rfl) ?_
    refine Lq (q_lss rfl rfl) ?_
    refine WL_nil (thenN ?_)
    refine WC_cond rfl (fun h9 => ?_) (fun h9 => ?_)
    · refine WC_skip (thenN (WC_seq (WC_block (WC_seq ?_))))
      try simp only [Bq0, Bq1, Bq2, Bq3, Bq4, Bq5, Bq6, Bq7, Bq8, Bq9, Bq10, Bq11, Bq12] at *
      have hkt : k < ids.length := by omega
      have hkk : k < ks.length := by omega
      have hsn := editsL_snoc hkt hkk
      have hel := editsL_len (ids.take k) (ks.take k)
      rw [List.length_take] at hel
      refine WC_elem (k := k) (.tail _ (.head _)) (List.getElem?_eq_getElem hkk) (i64_open _) fun b5 q5 y5 e5 => ?_
      cases e5
      refine WC_region ?_
      refine Lq (q_move rfl) ?_
      refine Lq (q_nil rfl) ?_
      refine Lq (q_field (o' := 3) Tryd.underlying61 rfl ti57 rfl rfl) ?_
      refine Lq (q_load1 Tryd.underlying57 rfl rfl (ownS (own0)) rfl) ?_
      refine Lq (q_move rfl) ?_
      refine Lq (q_idxRd Tryd.underlying57 ti3 rfl rfl (by omega) (by omega)) ?_
      refine Lq (q_loadF1 (j := 0) Tryd.underlying3 rfl rfl (.head _) rfl rfl) ?_
      refine Lq (q_neq rfl rfl) ?_
      refine WL_nil (thenN ?_)
      refine WC_cond rfl (fun h19 => ?_) (fun h19 => ?_)
      · refine WC_elem (k := k) (.tail _ (.head _)) (List.getElem?_eq_getElem hkt) (id_open _) fun b6 q6 y6 e6 => ?_
        cases e6
        refine WC_region ?_
        refine Lq (q_move rfl) ?_
        refine Lq (q_move rfl) ?_
        refine Lq (q_nil rfl) ?_
        refine Lq (q_field (o' := 2) Tryd.underlying61 rfl ti56 rfl rfl) ?_
        refine Lq (q_load1 Tryd.underlying56 rfl rfl (ownS (own0)) rfl) ?_
        refine Lq (q_move rfl) ?_
        refine Lq (q_idxRd Tryd.underlying56 ti25 rfl rfl (by omega) (by omega)) ?_
        refine Lq (q_loadFN (k := 0) (vs := [_, _]) Tryd.underlying25 rfl ti25 rfl (.head _) rfl rfl rfl) ?_
        refine WL_main rfl (OW_slice1 (cs := [_, _]) Tryd.underlying56 ti25 (by decide) (by decide) rfl rfl rfl rfl (by decide) fun b28 => ?_)
        refine WL_main rfl (OW_append1 (news := [_, _]) Tryd.underlying56 ti25 rfl (by decide) rfl rfl hI.2 own0 rfl rfl (by omega) (by unfold maxLen; omega) (by decide) (DelAt.perm (.s (.z))) fun v29 p29 hr29 => ?_)
        refine Lq (q_assign rfl) ?_
        refine WL_nil (blockN (thenN (WC_region ?_)))
        refine Lq (q_move rfl) ?_
        refine Lq (q_add rfl rfl (wr64 (by omega)) (c := ((k + 1 : Nat) : Int))) ?_
        refine Lq (q_assign rfl) ?_
        refine WL_nil (thenK ?_)
        have hk2 : (!(ks[k] == 2)) = true := h19
        rw [hk2, if_pos rfl] at hsn
        refine ⟨(k + 1, v29, p29), ?_, (.cons rfl (.cons rfl (.cons rfl (.cons rfl (.nil _))))), (List.Sublist.cons_cons _ (List.Sublist.cons _ (List.Sublist.cons_cons _ (List.Sublist.refl _)))), (fun _ h => .tail _ (.tail _ h))⟩
        refine ⟨by show i - (k + 1) < i - k; omega, by omega, ?_⟩
        show Row 25 2 v29 (editsL (ids.take (k + 1)) (ks.take (k + 1))).length _ p29
        rw [hsn, List.length_append, flatC_append, flatC_one]; exact hr29
      · refine WC_skip (blockN (thenN (WC_region ?_)))
        refine Lq (q_move rfl) ?_
        refine Lq (q_add rfl rfl (wr64 (by omega)) (c := ((k + 1 : Nat) : Int))) ?_
        refine Lq (q_assign rfl) ?_
        refine WL_nil (thenK ?_)
        have hk2 : (!(ks[k] == 2)) = false := h19
        rw [hk2] at hsn
        simp only [Bool.false_eq_true, if_false, List.append_nil] at hsn
        refine ⟨(k + 1, w, pa), ?_, (.cons rfl (.cons rfl (.cons rfl (.cons rfl (.nil _))))), (List.Sublist.cons_cons _ (List.Sublist.cons_cons _ (List.Sublist.refl _))), (fun _ h => .tail _ h)⟩
        refine ⟨by show i - (k + 1) < i - k; omega, by omega, ?_⟩
        show Row 25 2 w (editsL (ids.take (k + 1)) (ks.take (k + 1))).length _ pa
        rw [hsn]; exact hI.2
    · refine WC_exit (thenExit (thenExit (blockHit (thenN (WC_seq ?_)))))
      simp only [decide_eq_false_iff_not] at h9
      obtain rfl : k = i := by omega
      refine WC_fact (A := RepsF idD (editsL (ids.take k) (ks.take k)) ((editsL (ids.take k) (ks.take k)).map idC)) (fun Z w _ => reps_of (fun _ _ _ => rfl) _ Z w) ?_
      refine WC_freeze (e := idD) (xs := (editsL (ids.take k) (ks.take k))) (css := ((editsL (ids.take k) (ks.take k)).map idC)) hI.2 (.z) rfl (.head _) fun A9 c9 e9 => ?_
      subst e9
      refine WC_region ?_
      refine Lq (q_move rfl) ?_
      refine Lq (q_assign rfl) ?_
      refine WL_nil (thenN (WC_ret ?_))
      refine ⟨_, [_], [_], fun Z w hs => .tmp rfl (.nil), ?_, fun Z w hs => hs.out (List.Sublist.cons_cons _ (List.Sublist.refl _)) (memc (.head _) (fun _ h => .tail _ (.tail _ h)))⟩
      exact ⟨_, _, rfl, rfl, rfl⟩

end Go.Proofs.YtggdddkbhigjoaaDoor
/- Walks: some. -/
namespace Go.Proofs.YtggdddkbhigjoaaDoor
open Go Go.GW
def RestP (a : Int) (m : Nat) : Value → List Part → List Fact → Prop := fun v Lo fs => ∃ r : Nat, (r : Int) = a % m ∧ r < m ∧ v = .int .i64 r ∧ Lo = [] ∧ fs = []
theorem rest_r (a : Int) (m : Nat) (hm : 0 < m ∧ m ≤ 1099511627776) : Sp Tryd.prog 19 [.int .i64 a, .int .i64 m] [] [] (RestP a m) := by
  refine (rest_g a m hm).mono ?_
  rintro v Lo fs ⟨rfl, rfl, rfl⟩
  have h1 := Int.emod_nonneg a (show (m : Int) ≠ 0 by omega)
  have h2 := Int.emod_lt_of_pos a (show (0 : Int) < m by omega)
  exact ⟨(a % m).toNat, by omega, by omega, by rw [Int.toNat_of_nonneg h1], rfl, rfl⟩
theorem bd37_0_1Xw36 (x0_ : Int) (x1_ : Int) (w : World) : (Instr.build 37 #[(0, .int .i64 x0_), (1, .int .i64 x1_)]).run Tryd.prog w = .ok (.agg #[.int .i64 x0_, .int .i64 x1_]) w := by kernel_rfl

set_option maxRecDepth 10000 in
theorem some_s (n : Nat) (a c : Int) (hn : 0 < n ∧ n ≤ 60000) : Sp Tryd.prog 45 [.int .i64 n, .int .i64 a, .int .i64 c] [] [] (fun v Lo fs => ∃ (A : Option Addr) (cc : Nat) (xs : List Rg), v = .slice A xs.length cc ∧ Lo = [] ∧ fs = [RdF rgD A cc xs] ∧ Pls n xs ∧ xs ≠ []) := by
  refine Sp.of (n := 64) ⟨_, Tryd.func45, rfl, rfl, rfl, rfl⟩ (Nat.le_of_ble_eq_true rfl) fun Ps As => ?_
  refine WC_seq (WC_region ?_)
  refine Lq (q_assign rfl) ?_
  refine WL_nil (thenN (WC_seq (WC_region ?_)))
  refine Lq (q_assign rfl) ?_
  refine WL_nil (thenN (WC_seq (WC_seq (WC_region ?_))))
  refine Lq (q_assign rfl) ?_
  refine WL_nil (thenN (WC_block ?_))
  refine WC_nilPart ?_
  refine WC_loopE (α := Nat × List Rg × Value × Part) (fun (q, xs, v, p) => n - q)
    (fun (q, xs, v, p) => [(0, .int .i64 n), (1, .int .i64 a), (2, .int .i64 c), (7, v), (8, .int .i64 q)])
    (fun (q, xs, v, p) => (p :: Ps))
    (fun (q, xs, v, p) => As)
    (fun (q, xs, v, p) => SoI n q xs v p)
    (0, [], .slice none 0 0, []) ?_ (.cons rfl (.cons rfl (.cons rfl (.cons rfl (.cons rfl (.nil _)))))) (List.Sublist.cons_cons _ (List.Sublist.refl _)) (fun _ h => h) ?_
  · exact ⟨Nat.zero_le _, ⟨trivial, fun r hr => by cases hr⟩, Row.nil _ _⟩
  · rintro ⟨q, xs, v, pa⟩ hI
    obtain ⟨Av, cv, rfl⟩ := hI.row.slice
    refine WC_seq (WC_seq (WC_region ?_))
    refine Lq (q_move rfl) ?_
    refine Lq (q_move rfl) ?_
    refine Lq (q_lss rfl rfl) ?_
    refine WL_nil (thenN ?_)
    refine WC_cond rfl (fun h12 => ?_) (fun h12 => ?_)
    · refine WC_skip (thenN (WC_seq (WC_block (WC_seq (WC_seq ?_)))))
      try simp only [Bq0, Bq1, Bq2, Bq3, Bq4, Bq5, Bq6, Bq7, Bq8, Bq9, Bq10, Bq11, Bq12] at *
      have hql := hI.le
      have hxl := hI.len
      refine WC_region ?_
      refine Lq (q_move rfl) ?_
      refine Lq (q_move rfl) ?_
      refine WL_main rfl (OW_call0 (rest_r a 7 (by omega)) (.cons rfl (.cons rfl (.nil))) (by decide) mem0 fun u5_2 Lo fs hres => ?_)
      obtain ⟨r17, hr17, hm17, rfl, rfl, rfl⟩ := hres
      have hmq : q * r17 ≤ 60000 * 7 := Nat.mul_le_mul (by omega) (by omega)
      refine Lq (q_mul rfl rfl (mul_nat q r17 (by omega))) ?_
      refine Lq (q_move rfl) ?_
      refine WL_main rfl (OW_call0 (rest_r c 11 (by omega)) (.cons rfl (.cons rfl (.nil))) (by decide) mem0 fun u5_5 Lo fs hres => ?_)
      obtain ⟨r20, hr20, hm20, rfl, rfl, rfl⟩ := hres
      refine Lq (q_add rfl rfl (wr64 (by omega)) (c := ((q * r17 + r20 : Nat) : Int))) ?_
      refine WL_main rfl (OW_call0 (rest_r ((q * r17 + r20 : Nat) : Int) 11 (by omega)) (.cons rfl (.cons rfl (.nil))) (by decide) mem0 fun u5_7 Lo fs hres => ?_)
      obtain ⟨r22, hr22, hm22, rfl, rfl, rfl⟩ := hres
      refine Lq (q_geq rfl rfl) ?_
      refine WL_nil (thenN ?_)
      refine WC_cond rfl (fun h23 => ?_) (fun h23 => ?_)
      · refine WC_exit (thenExit (blockHit (thenN (WC_region ?_))))
        refine Lq (q_move rfl) ?_
        refine Lq (q_add rfl rfl (wr64 (by omega)) (c := ((q + 1 : Nat) : Int))) ?_
        refine Lq (q_assign rfl) ?_
        refine WL_nil (thenK ?_)
        refine ⟨(q + 1, xs, _, pa), ?_, (.cons rfl (.cons rfl (.cons rfl (.cons rfl (.cons rfl (.nil _)))))), (List.Sublist.cons_cons _ (List.Sublist.refl _)), (fun _ h => h)⟩
        exact ⟨by show n - (q + 1) < n - q; omega, by omega, pls_mono hI.pls (by omega), hI.row⟩
      · refine WC_skip (thenN (WC_seq (WC_region ?_)))
        refine Lq (q_move rfl) ?_
        refine Lq (q_len Tryd.underlying29 rfl) ?_
        refine Lq (q_assign rfl) ?_
        refine WL_nil (thenN (WC_seq ?_))
        have hrow := hI.row
        have hpls := hI.pls
        rcases List.eq_nil_or_concat xs with rfl | ⟨ys, r, rfl⟩
        · refine WC_region ?_
          refine Lq (q_move rfl) ?_
          refine Lq (q_gtr rfl rfl) ?_
          refine Lq (q_move rfl) ?_
          refine Ln rfl rfl rfl rfl ?_
          refine Ln rfl rfl rfl rfl ?_
          refine Ln rfl rfl rfl rfl ?_
          refine Ln rfl rfl rfl rfl ?_
          refine Ln rfl rfl rfl rfl ?_
          refine Ln rfl rfl rfl rfl ?_
          refine Ln rfl rfl rfl rfl ?_
          refine Ln rfl rfl rfl rfl ?_
          refine Lq (q_pickF rfl rfl rfl) ?_
          refine WL_nil (thenN (WC_false rfl rfl (WC_region ?_)))
          refine Lq (q_move rfl) ?_
          refine Lq (q_move rfl) ?_
          refine Lq (q_move rfl) ?_
          refine Lq (q_add rfl rfl (wr64 (by omega))) ?_
          refine Lq (q_build (.cons rfl (.cons rfl (.nil))) (bd37_0_1Xw36 _ _)) ?_
          refine WL_main rfl (OW_slice1 (cs := [_, _]) Tryd.underlying29 ti37 (by decide) (by decide) rfl rfl rfl rfl (by decide) fun b50 => ?_)
          refine WL_main rfl (OW_append1 (news := [_, _]) Tryd.underlying29 ti37 rfl (by decide) rfl rfl hrow own0 rfl rfl (by omega) (by unfold maxLen; omega) (by decide) (DelAt.perm (.s (.z))) fun v51 p51 hr51 => ?_)
          refine Lq (q_assign rfl) ?_
          refine WL_nil (blockN (thenN (WC_region ?_)))
          refine Lq (q_move rfl) ?_
          refine Lq (q_add rfl rfl (wr64 (by omega)) (c := ((q + 1 : Nat) : Int))) ?_
          refine Lq (q_assign rfl) ?_
          refine WL_nil (thenK ?_)
          refine ⟨(q + 1, [] ++ [⟨q, q + 1⟩], v51, p51), ?_, (.cons rfl (.cons rfl (.cons rfl (.cons rfl (.cons rfl (.nil _)))))), (List.Sublist.cons_cons _ (List.Sublist.cons _ (List.Sublist.refl _))), (fun _ h => h)⟩
          refine ⟨by show n - (q + 1) < n - q; omega, by omega, pls_more hpls (fun r hr => by cases hr), ?_⟩
          rw [rgs_append, rgs_one, List.length_append]; exact hr51
        · rw [List.concat_eq_append] at *
          have hn : (ys ++ [r]).length = ys.length + 1 := by simp
          obtain ⟨hlen, ⟨_, h0, _⟩ | ⟨bo, cap, jk, hv, hp, h1, h2, h3⟩⟩ := hI.row
          · omega
          obtain ⟨rfl, _, rfl⟩ := Value.slice.inj hv
          subst hp
          have hcs : (rgs (ys ++ [r]) ++ jk).length = ((ys ++ [r]).length) * 2 + jk.length := by rw [List.length_append, hlen]
          have hix : ((((ys ++ [r]).length : Nat) : Int) - 1).toNat = ys.length := by omega
          refine WC_region ?_
          refine Lq (q_move rfl) ?_
          refine Lq (q_gtr rfl rfl) ?_
          refine Lq (q_move rfl) ?_
          refine Lg rfl rfl rfl (by simp) (q_move rfl) ?_
          refine Lg rfl rfl rfl (by simp) (q_move rfl) ?_
          refine Lg rfl rfl rfl (by simp) (q_sub rfl rfl (wr64 (by omega))) ?_
          refine Lg rfl rfl rfl (by simp) (q_idxOwn Tryd.underlying29 ti37 rfl rfl (by omega) (by omega)) ?_
          refine Lg rfl rfl rfl (by simp) (q_field (o' := _ + 1) Tryd.underlying37 rfl ti3 rfl rfl) ?_
          refine Lg rfl rfl rfl (by simp) (q_load1 Tryd.underlying3 rfl rfl own0 (by rw [hix]; exact rgs_last ys r jk)) ?_
          refine Lg rfl rfl rfl (by simp) (q_move rfl) ?_
          refine Lg rfl rfl rfl (by simp) (q_eql rfl rfl) ?_
          refine Lq (q_pickT rfl (by simp) rfl) ?_
          refine WL_nil (thenN ?_)
          refine WC_cond rfl (fun h37 => ?_) (fun h37 => ?_)
          · refine WC_region ?_
            refine Lq (q_move rfl) ?_
            refine Lq (q_move rfl) ?_
            refine Lq (q_sub rfl rfl (wr64 (by omega))) ?_
            refine Lq (q_move rfl) ?_
            refine Lq (q_add rfl rfl (wr64 (by omega))) ?_
            refine Lq (q_idxOwn Tryd.underlying29 ti37 rfl rfl (by omega) (by omega)) ?_
            refine Lq (q_field (o' := _ + 1) Tryd.underlying37 rfl ti3 rfl rfl) ?_
            refine WL_main rfl (OW_storeC ti3 rfl rfl rfl (by rw [hcs, hix]; omega) (.z) ?_)
            refine WL_nil (blockN (thenN (WC_region ?_)))
            refine Lq (q_move rfl) ?_
            refine Lq (q_add rfl rfl (wr64 (by omega)) (c := ((q + 1 : Nat) : Int))) ?_
            refine Lq (q_assign rfl) ?_
            refine WL_nil (thenK ?_)
            refine ⟨(q + 1, ys ++ [⟨r.lo, q + 1⟩], _, _), ?_, (.cons rfl (.cons rfl (.cons rfl (.cons rfl (.cons rfl (.nil _)))))), (List.Sublist.cons_cons _ (List.Sublist.refl _)), (fun _ h => h)⟩
            refine ⟨by show n - (q + 1) < n - q; omega, by omega, pls_join hpls (by simpa using h37), ?_⟩
            rw [hix, rgs_set, show (ys ++ [r]).length = (ys ++ [(⟨r.lo, (q : Int) + 1⟩ : Rg)]).length from by simp]
            refine ⟨rgs_length _, .inr ⟨bo, _, jk, rfl, rfl, ?_, by simpa using h2, h3⟩⟩
            rw [List.length_append, rgs_length] at h1 ⊢
            simpa using h1
          · refine WC_region ?_
            refine Lq (q_move rfl) ?_
            refine Lq (q_move rfl) ?_
            refine Lq (q_move rfl) ?_
            refine Lq (q_add rfl rfl (wr64 (by omega))) ?_
            refine Lq (q_build (.cons rfl (.cons rfl (.nil))) (bd37_0_1Xw36 _ _)) ?_
            refine WL_main rfl (OW_slice1 (cs := [_, _]) Tryd.underlying29 ti37 (by decide) (by decide) rfl rfl rfl rfl (by decide) fun b50 => ?_)
            refine WL_main rfl (OW_append1 (news := [_, _]) Tryd.underlying29 ti37 rfl (by decide) rfl rfl hrow own0 rfl rfl (by omega) (by unfold maxLen; omega) (by decide) (DelAt.perm (.s (.z))) fun v51 p51 hr51 => ?_)
            refine Lq (q_assign rfl) ?_
            refine WL_nil (blockN (thenN (WC_region ?_)))
            refine Lq (q_move rfl) ?_
            refine Lq (q_add rfl rfl (wr64 (by omega)) (c := ((q + 1 : Nat) : Int))) ?_
            refine Lq (q_assign rfl) ?_
            refine WL_nil (thenK ?_)
            refine ⟨(q + 1, (ys ++ [r]) ++ [⟨q, q + 1⟩], v51, p51), ?_, (.cons rfl (.cons rfl (.cons rfl (.cons rfl (.cons rfl (.nil _)))))), (List.Sublist.cons_cons _ (List.Sublist.cons _ (List.Sublist.refl _))), (fun _ h => h)⟩
            refine ⟨by show n - (q + 1) < n - q; omega, by omega, pls_more hpls (fun r2 hr2 => by rw [List.getLast?_concat] at hr2; obtain rfl := Option.some.inj hr2; simpa using h37), ?_⟩
            rw [rgs_append, rgs_one, List.length_append]; exact hr51
    · refine WC_exit (thenExit (thenExit (blockHit (thenN (WC_seq (WC_seq ?_))))))
      simp only [decide_eq_false_iff_not] at h12
      obtain rfl : q = n := by have := hI.le; omega
      have hxl := hI.len
      refine WC_region ?_
      refine Lq (q_move rfl) ?_
      refine Lq (q_len Tryd.underlying29 rfl) ?_
      refine Lq (q_eql rfl rfl) ?_
      refine WL_nil (thenN ?_)
      refine WC_cond rfl (fun h54 => ?_) (fun h54 => ?_)
      · refine WC_region ?_
        refine Lq (q_move rfl) ?_
        refine Lq (q_move rfl) ?_
        refine Lq (q_move rfl) ?_
        refine WL_main rfl (OW_call0 (rest_r c q (by omega)) (.cons rfl (.cons rfl (.nil))) (by decide) mem0 fun u11_3 Lo fs hres => ?_)
        obtain ⟨r58, hr58, hm58, rfl, rfl, rfl⟩ := hres
        refine Lq (q_move rfl) ?_
        refine Lq (q_build (.cons rfl (.cons rfl (.nil))) (bd37_0_1Xw36 _ _)) ?_
        refine WL_main rfl (OW_slice1 (cs := [_, _]) Tryd.underlying29 ti37 (by decide) (by decide) rfl rfl rfl rfl (by decide) fun b61 => ?_)
        refine WL_main rfl (OW_append1 (news := [_, _]) Tryd.underlying29 ti37 rfl (by decide) rfl rfl hI.row own0 rfl rfl (by omega) (by unfold maxLen; omega) (by decide) (DelAt.perm (.s (.z))) fun v62 p62 hr62 => ?_)
        refine Lq (q_assign rfl) ?_
        refine WL_nil (thenN (WC_seq ?_))
        have hz : xs = [] := by simpa using h54
        subst hz
        have hfx : Pls q [⟨(r58 : Int), (q : Int)⟩] := ⟨⟨by show (0 : Int) ≤ r58; omega, by show (r58 : Int) < q; omega, trivial⟩, fun x hx => by rw [List.mem_singleton] at hx; subst hx; exact Int.le_refl _⟩
        have hne : [(⟨(r58 : Int), (q : Int)⟩ : Rg)] ≠ [] := by simp
        refine WC_fact (A := RepsF rgD [⟨(r58 : Int), (q : Int)⟩] (([⟨(r58 : Int), (q : Int)⟩] : List Rg).map rgC)) (fun Z w _ => rgs_reps _ Z w) ?_
        refine WC_freeze (e := rgD) (xs := [⟨(r58 : Int), (q : Int)⟩]) (css := (([⟨(r58 : Int), (q : Int)⟩] : List Rg).map rgC)) hr62 (.z) rfl (.head _) fun A9 c9 e9 => ?_
        cases e9
        refine WC_region ?_
        refine Lq (q_move rfl) ?_
        refine Lq (q_assign rfl) ?_
        refine WL_nil (thenN (WC_ret ?_))
        refine ⟨_, [], [_], fun Z w hs => .tmp rfl (.nil), ?_, fun Z w hs => hs.out (List.Sublist.cons _ (List.Sublist.refl _)) (memc (.head _) (fun _ h => .tail _ (.tail _ h)))⟩
        exact ⟨_, _, _, rfl, rfl, rfl, hfx, hne⟩
      · refine WC_skip (thenN (WC_seq ?_))
        have hfx := hI.pls
        have hne : xs ≠ [] := fun e => by rw [e] at h54; simp at h54
        refine WC_fact (A := RepsF rgD xs ((xs : List Rg).map rgC)) (fun Z w _ => rgs_reps _ Z w) ?_
        refine WC_freeze (e := rgD) (xs := xs) (css := ((xs : List Rg).map rgC)) hI.row (.z) rfl (.head _) fun A9 c9 e9 => ?_
        cases e9
        refine WC_region ?_
        refine Lq (q_move rfl) ?_
        refine Lq (q_assign rfl) ?_
        refine WL_nil (thenN (WC_ret ?_))
        refine ⟨_, [], [_], fun Z w hs => .tmp rfl (.nil), ?_, fun Z w hs => hs.out (List.Sublist.refl _) (memc (.head _) (fun _ h => .tail _ (.tail _ h)))⟩
        exact ⟨_, _, _, rfl, rfl, rfl, hfx, hne⟩

end Go.Proofs.YtggdddkbhigjoaaDoor
/- Walks: makes. -/
namespace Go.Proofs.YtggdddkbhigjoaaDoor
open Go Go.GW
def MakeP (P : Part) (H : Hist) (i : Nat) (nx : List Int) (cl : Int) : Value → List Part → List Fact → Prop := fun v Lo fs => ∃ (o : GOp) (Ao : Option Addr) (co : Nat) (x : Int), v = opV o Ao co ∧ Lo = [P] ∧ fs = [RdF rgD Ao co o.rs] ∧ o.c = 1 + cl % 8 ∧ nx[o.c.toNat]? = some x ∧ o.n = x + 1 ∧ Body H i o
theorem bd25_0_1Xw37 (x0_ : Int) (x1_ : Int) (w : World) : (Instr.build 25 #[(0, .int .i64 x0_), (1, .int .i64 x1_)]).run Tryd.prog w = .ok (.agg #[.int .i64 x0_, .int .i64 x1_]) w := by kernel_rfl

set_option maxRecDepth 10000 in
theorem makes_s (N : Int) (n : Nat) (X : List Ce) (H : Hist) (v h b : Nat) (A1 : Option Addr) (c1 : Nat) (A2 : Option Addr) (c2 : Nat) (A3 : Option Addr) (c3 : Nat) (nx : List Int) (m : Mv) (i : Nat) (hV : VI N n H X nx) (hN : N ≤ 1000) (hi : i ≤ n) : Sp Tryd.prog 20 [.pointer (some ⟨v, 0, none⟩), mvV m, .int .i64 i] [vwP v h b A1 H.ents.length c1 A2 c2 A3 c3 nx] [RdF idD A1 c1 (idsOf H.ents), RdF (De.int .i64) A2 c2 (kindsOf H.ents), RdF De.str A3 c3 (textsOf H.ents)] (MakeP (vwP v h b A1 H.ents.length c1 A2 c2 A3 c3 nx) H i nx m.client) := by
  have hnl := hV.len
  have hn2 := hV.le
  have hcb := cells_before hV.hv i
  have hcB := hV.cellsB i
  have hel := editsL_len ((idsOf H.ents).take i) ((kindsOf H.ents).take i)
  have hil : (idsOf H.ents).length = H.ents.length := by simp [idsOf]
  have hkl : (kindsOf H.ents).length = H.ents.length := by simp [kindsOf]
  have htl : (textsOf H.ents).length = H.ents.length := by simp [textsOf]
  rw [List.length_take] at hel
  refine Sp.of (n := 93) ⟨_, Tryd.func20, rfl, rfl, rfl, rfl⟩ (Nat.le_of_ble_eq_true rfl) fun Ps As => ?_
  refine WC_seq (WC_region ?_)
  refine WL_main rfl (OW_box (cs := [_, _, _, _, _, _]) rfl rfl (by decide) fun b4 => ?_)
  refine WL_main rfl (OW_alloc (cs := [_, _, _, _, _, _, _, _, _]) ti31 rfl (by decide) fun b6 => ?_)
  refine WL_nil (thenN (WC_seq ?_))
  refine WC_fact (A := RdF rgD none 0 []) (fun Z w hs => RdS.nil _ _ _) ?_
  refine WC_region ?_
  refine Lq (q_move rfl) ?_
  refine Lq (q_move rfl) ?_
  refine WL_main rfl (OW_call1 (vtotal_s v h b H.ents.length A1 c1 A2 c2 A3 c3 nx (textsOf H.ents) i (by omega) (by omega) (by omega) (fun j _ => by have := hV.cellsB j; omega)) (.cons rfl (.cons rfl (.nil))) (by decide) (.s (.s (.z))) (memc (.tail _ (.tail _ (.tail _ (.head _)))) mem0) fun u1_2 Lo fs hres => ?_)
  obtain ⟨rfl, rfl, rfl⟩ := hres
  refine Lq (q_assign rfl) ?_
  refine WL_nil (thenN (WC_seq (WC_region ?_)))
  refine Lq (q_move rfl) ?_
  refine Lq (q_move rfl) ?_
  refine WL_main rfl (OW_call1 (vedits_s v h b H.ents.length A1 c1 A2 c2 A3 c3 nx (idsOf H.ents) (kindsOf H.ents) i (by omega) (by omega) (by omega) (by omega)) (.cons rfl (.cons rfl (.nil))) (by decide) (.z) (memc (.tail _ (.head _)) (memc (.tail _ (.tail _ (.head _))) mem0)) fun u2_2 Lo fs hres => ?_)
  obtain ⟨A8, c8, rfl, rfl, rfl⟩ := hres
  refine Lq (q_assign rfl) ?_
  refine WL_nil (thenN (WC_seq (WC_region ?_)))
  refine Lq (q_field (o' := 2) Tryd.underlying51 rfl ti3 rfl rfl) ?_
  refine Lq (q_load1 Tryd.underlying3 rfl rfl (ownS (ownS (own0))) rfl) ?_
  refine WL_main rfl (OW_call0 (rest_r m.client 8 (by omega)) (.cons rfl (.cons rfl (.nil))) (by decide) mem0 fun u3_2 Lo fs hres => ?_)
  obtain ⟨r20, hr20, hm20, rfl, rfl, rfl⟩ := hres
  have hxl : 1 + r20 < nx.length := by rw [hV.nxl]; omega
  obtain ⟨x, hx⟩ : ∃ x, nx[1 + r20]? = some x := ⟨_, List.getElem?_eq_getElem hxl⟩
  have hx0 := hV.nx0 x (List.mem_of_getElem? hx)
  refine Lq (q_add rfl rfl (wr64 (by omega)) (c := ((1 + r20 : Nat) : Int))) ?_
  refine Lq (q_assign rfl) ?_
  refine WL_nil (thenN (WC_seq (WC_region ?_)))
  refine WL_main rfl (OW_alloc (cs := [_, _, _, _, _, _, _, _, _]) ti31 rfl (by decide) fun b10 => ?_)
  refine WL_nil (thenN (WC_seq (WC_region ?_)))
  refine Lq (q_move rfl) ?_
  refine Lq (q_move rfl) ?_
  refine Lq (q_move rfl) ?_
  refine Lq (q_nil rfl) ?_
  refine Lq (q_field (o' := 5) Tryd.underlying61 rfl ti59 rfl rfl) ?_
  refine Lq (q_idxA Tryd.underlying59 ti3 rfl rfl (by omega) (by omega) rfl) ?_
  refine Lq (q_load1 Tryd.underlying3 rfl rfl (ownS (own0)) (vw_next hx)) ?_
  refine Lq (q_add rfl rfl (wr64 (by omega))) ?_
  refine Lq (q_build (.cons rfl (.cons rfl (.nil))) (bd25_0_1Xw37 _ _)) ?_
  refine Lq (q_field (o' := 0) Tryd.underlying31 rfl ti28 rfl rfl) ?_
  refine Lq (q_field (o' := 0) Tryd.underlying28 rfl ti25 rfl rfl) ?_
  refine WL_main rfl (OW_storeN (cs' := [_, _, _, _, _, _, _, _, _]) (vs := [_, _]) ti25 rfl rfl rfl rfl rfl (Nat.le_of_ble_eq_true rfl) (.z) ?_)
  refine WL_nil (thenN (WC_seq (WC_region ?_)))
  refine Lq (q_field (o' := 0) Tryd.underlying51 rfl ti3 rfl rfl) ?_
  refine Lq (q_load1 Tryd.underlying3 rfl rfl (ownS (ownS (ownS (own0)))) rfl) ?_
  refine WL_main rfl (OW_call0 (rest_r m.kind 3 (by omega)) (.cons rfl (.cons rfl (.nil))) (by decide) mem0 fun u6_2 Lo fs hres => ?_)
  obtain ⟨r35, hr35, hm35, rfl, rfl, rfl⟩ := hres
  refine Lq (q_assign rfl) ?_
  refine WL_nil (thenN (WC_seq (WC_block (WC_seq (WC_region ?_)))))
  refine Lq (q_move rfl) ?_
  refine Lq (q_eql rfl rfl) ?_
  refine Lq (q_move rfl) ?_
  refine WL_guard (t := 55) rfl (fun g55 => ?_) (fun g55 => ?_)
  · refine Lg rfl rfl rfl g55 (q_move rfl) ?_
    refine Lg rfl rfl rfl g55 (q_gtr rfl rfl) ?_
    refine Lq (q_pickT rfl g55 rfl) ?_
    refine Lq (q_assign rfl) ?_
    refine WL_nil (thenN ?_)
    refine WC_cond rfl (fun h52 => ?_) (fun h52 => ?_)
    · have hT0 : 0 < cellsN ((textsOf H.ents).take i) := by revert h52; simp
      refine WC_seq (WC_region ?_)
      refine Lq (q_field (o' := 0) Tryd.underlying31 rfl ti28 rfl rfl) ?_
      refine Lq (q_field (o' := 2) Tryd.underlying28 rfl ti26 rfl rfl) ?_
      refine WL_main rfl (OW_store1 ti26 rfl rfl rfl (.s (.s (.z))) (.z) ?_)
      refine WL_nil (thenN (WC_region ?_))
      refine Lq (q_move rfl) ?_
      refine Lq (q_field (o' := 3) Tryd.underlying51 rfl ti3 rfl rfl) ?_
      refine Lq (q_load1 Tryd.underlying3 rfl rfl (ownS (ownS (ownS (own0)))) rfl) ?_
      refine Lq (q_field (o' := 4) Tryd.underlying51 rfl ti3 rfl rfl) ?_
      refine Lq (q_load1 Tryd.underlying3 rfl rfl (ownS (ownS (ownS (own0)))) rfl) ?_
      refine WL_main rfl (OW_call0 (some_s (cellsN ((textsOf H.ents).take i)) m.a m.b (by omega)) (.cons rfl (.cons rfl (.cons rfl (.nil)))) (by decide) mem0 fun u12_5 Lo fs hres => ?_)
      obtain ⟨A9, c9, xs, rfl, rfl, rfl, hxs, hxn⟩ := hres
      refine Lq (q_field (o' := 5) Tryd.underlying31 rfl ti29 rfl rfl) ?_
      refine WL_main rfl (OW_store1 ti29 rfl rfl rfl (.s (.s (.s (.s (.s (.z)))))) (.z) ?_)
      refine WL_nil (blockN (thenN (WC_seq (WC_region ?_))))
      refine Lq (q_loadN (vs := [_, _, _, _, _, _, _, _, _]) Tryd.underlying31 rfl ti31 rfl own0 rfl rfl) ?_
      refine WL_main rfl (OW_storeN (cs' := [_, _, _, _, _, _, _, _, _]) (vs := [_, _, _, _, _, _, _, _, _]) ti31 rfl rfl rfl rfl rfl (Nat.le_of_ble_eq_true rfl) (.s (.s (.z))) ?_)
      refine WL_nil (thenN (WC_ret ?_))
      refine ⟨_, [_], [_], fun Z w hs => RV_ownN hs Tryd.underlying31 rfl ti31 rfl (ownS (ownS (own0))) rfl (.nil), ?_, fun Z w hs => hs.out (List.Sublist.cons _ (List.Sublist.cons_cons _ (List.Sublist.cons _ (List.Sublist.cons _ (List.Sublist.refl _))))) (memc (.head _) (fun _ h => .tail _ (.tail _ (.tail _ h))))⟩
      refine ⟨{ zeroOp with c := ((1 + r20 : Nat) : Int), n := x + 1, kind := 2, rs := xs }, _, _, x, rfl, rfl, rfl, by show ((1 + r20 : Nat) : Int) = _; omega, by show nx[((1 + r20 : Nat) : Int).toNat]? = _; rw [Int.toNat_natCast]; exact hx, rfl, ⟨fun c k hw hr => ?_, by show (⟨#[]⟩ : ByteArray).size ≤ 1000; decide, by have := hxs.len (by omega); show xs.length ≤ _; omega⟩⟩
      exact good_hide hV hi hw hr (by rw [← hcb]; exact hxs) hxn
    · refine WC_seq (WC_region ?_)
      refine Lq (q_move rfl) ?_
      refine Lq (q_eql rfl rfl) ?_
      refine Lq (q_move rfl) ?_
      refine WL_guard (t := 71) rfl (fun g71 => ?_) (fun g71 => ?_)
      · refine Lg rfl rfl rfl g71 (q_move rfl) ?_
        refine Lg rfl rfl rfl g71 (q_len Tryd.underlying56 rfl) ?_
        refine Lg rfl rfl rfl g71 (q_gtr rfl rfl) ?_
        refine Lq (q_pickT rfl g71 rfl) ?_
        refine Lq (q_assign rfl) ?_
        refine WL_nil (thenN ?_)
        refine WC_cond rfl (fun h68 => ?_) (fun h68 => ?_)
        · have hE0 : 0 < (editsL ((idsOf H.ents).take i) ((kindsOf H.ents).take i)).length := by revert h68; simp
          refine WC_seq (WC_region ?_)
          refine Lq (q_field (o' := 0) Tryd.underlying31 rfl ti28 rfl rfl) ?_
          refine Lq (q_field (o' := 2) Tryd.underlying28 rfl ti26 rfl rfl) ?_
          refine WL_main rfl (OW_store1 ti26 rfl rfl rfl (.s (.s (.z))) (.z) ?_)
          refine WL_nil (thenN (WC_seq (WC_region ?_)))
          refine Lq (q_move rfl) ?_
          refine Lq (q_field (o' := 3) Tryd.underlying51 rfl ti3 rfl rfl) ?_
          refine Lq (q_load1 Tryd.underlying3 rfl rfl (ownS (ownS (ownS (own0)))) rfl) ?_
          refine Lq (q_move rfl) ?_
          refine Lq (q_len Tryd.underlying56 rfl) ?_
          refine WL_main rfl (OW_call0 (rest_r m.a (editsL ((idsOf H.ents).take i) ((kindsOf H.ents).take i)).length (by omega)) (.cons rfl (.cons rfl (.nil))) (by decide) mem0 fun u15_5 Lo fs hres => ?_)
          obtain ⟨r83, hr83, hm83, rfl, rfl, rfl⟩ := hres
          have hEm := edits_target (List.getElem_mem hm83)
          obtain ⟨j, hj, hji, hjc, hjn, hjk⟩ := hEm
          refine WL_elem (k := r83) (.head _) (List.getElem?_eq_getElem hm83) (id_open _) fun b9 q9 y9 e9 => ?_
          cases e9
          refine Lq (q_idxRd Tryd.underlying56 ti25 rfl rfl (by omega) (by omega)) ?_
          refine Lq (q_loadFN (k := 0) (vs := [_, _]) Tryd.underlying25 rfl ti25 rfl (.head _) rfl rfl rfl) ?_
          refine Lq (q_field (o' := 6) Tryd.underlying31 rfl ti25 rfl rfl) ?_
          refine WL_main rfl (OW_storeN (cs' := [_, _, _, _, _, _, _, _, _]) (vs := [_, _]) ti25 rfl rfl rfl rfl rfl (Nat.le_of_ble_eq_true rfl) (.z) ?_)
          refine WL_nil (thenN ?_)
          refine WC_fr [(10, _), (6, _), (4, _)] (.cons rfl (.cons rfl (.cons rfl (.nil _)))) ?_
          refine WC_region ?_
          refine Lq (q_field (o' := 4) Tryd.underlying51 rfl ti3 rfl rfl) ?_
          refine Lq (q_load1 Tryd.underlying3 rfl rfl (ownS (ownS (ownS (own0)))) rfl) ?_
          refine WL_main rfl (OW_call0 (rest_r m.b 2 (by omega)) (.cons rfl (.cons rfl (.nil))) (by decide) mem0 fun u16_2 Lo fs hres => ?_)
          obtain ⟨r89, hr89, hm89, rfl, rfl, rfl⟩ := hres
          refine Lq (q_eql rfl rfl) ?_
          refine Lq (q_field (o' := 8) Tryd.underlying31 rfl ti4 rfl rfl) ?_
          refine WL_main rfl (OW_store1 ti4 rfl rfl rfl (.s (.s (.s (.s (.s (.s (.s (.s (.z))))))))) (.z) ?_)
          refine WL_nil (blockN (thenN (WC_seq (WC_region ?_))))
          refine Lq (q_loadN (vs := [_, _, _, _, _, _, _, _, _]) Tryd.underlying31 rfl ti31 rfl own0 rfl rfl) ?_
          refine WL_main rfl (OW_storeN (cs' := [_, _, _, _, _, _, _, _, _]) (vs := [_, _, _, _, _, _, _, _, _]) ti31 rfl rfl rfl rfl rfl (Nat.le_of_ble_eq_true rfl) (.s (.s (.z))) ?_)
          refine WL_nil (thenN (WC_ret ?_))
          refine ⟨_, [_], [_], fun Z w hs => RV_ownN hs Tryd.underlying31 rfl ti31 rfl (ownS (ownS (own0))) rfl (.nil), ?_, fun Z w hs => hs.out (List.Sublist.cons _ (List.Sublist.cons_cons _ (List.Sublist.cons _ (List.Sublist.cons _ (List.Sublist.refl _))))) (fun _ h => .tail _ (.tail _ h))⟩
          refine ⟨{ zeroOp with c := ((1 + r20 : Nat) : Int), n := x + 1, kind := 4, tc := (editsL ((idsOf H.ents).take i) ((kindsOf H.ents).take i))[r83].1, tn := (editsL ((idsOf H.ents).take i) ((kindsOf H.ents).take i))[r83].2, on := ((r89 : Int) == 1) }, _, _, x, rfl, rfl, rfl, by show ((1 + r20 : Nat) : Int) = _; omega, by show nx[((1 + r20 : Nat) : Int).toNat]? = _; rw [Int.toNat_natCast]; exact hx, rfl, ⟨fun c k hw hr => ?_, by show (⟨#[]⟩ : ByteArray).size ≤ 1000; decide, by show ([] : List Rg).length ≤ 60000; decide⟩⟩
          have := good_status hV hi hw hr hj hji hjk ((r89 : Int) == 1)
          rw [hjc, hjn] at this
          exact this
        · refine WC_seq (WC_region ?_)
          refine Lq (q_field (o' := 0) Tryd.underlying31 rfl ti28 rfl rfl) ?_
          refine Lq (q_field (o' := 2) Tryd.underlying28 rfl ti26 rfl rfl) ?_
          refine WL_main rfl (OW_store1 ti26 rfl rfl rfl (.s (.s (.z))) (.z) ?_)
          refine WL_nil (thenN (WC_seq (WC_region ?_)))
          refine Lq (q_field (o' := 3) Tryd.underlying51 rfl ti3 rfl rfl) ?_
          refine Lq (q_load1 Tryd.underlying3 rfl rfl (ownS (ownS (ownS (own0)))) rfl) ?_
          refine Lq (q_move rfl) ?_
          refine Lq (q_add rfl rfl (wr64 (by omega)) (c := ((cellsN ((textsOf H.ents).take i) + 1 : Nat) : Int))) ?_
          refine WL_main rfl (OW_call0 (rest_r m.a (cellsN ((textsOf H.ents).take i) + 1) (by omega)) (.cons rfl (.cons rfl (.nil))) (by decide) mem0 fun u8_4 Lo fs hres => ?_)
          obtain ⟨r42, hr42, hm42, rfl, rfl, rfl⟩ := hres
          refine Lq (q_field (o' := 3) Tryd.underlying31 rfl ti3 rfl rfl) ?_
          refine WL_main rfl (OW_store1 ti3 rfl rfl rfl (.s (.s (.s (.z)))) (.z) ?_)
          refine WL_nil (thenN ?_)
          refine WC_draw _ _ [8] (.c 0 0 (.c 1 0 (.c 4 0 (.c 5 0 (.c 2 2 (.c 3 0 (.c 6 2 (.c 7 0 (.c 8 3 .nil))))))))) mixed (fun _ _ _ _ h => h) (List.Sublist.cons_cons _ (List.Sublist.cons_cons _ (List.Sublist.cons_cons _ (List.Sublist.cons_cons _ (List.Sublist.refl _))))) (fun _ h => h) (by kernel_rfl) (by decide) fun ws Z0 => ?_
          refine Qe rfl (q_field (o' := 5) Tryd.underlying51 rfl ti3 rfl rfl) ?_
          refine Qe rfl (q_load1 Tryd.underlying3 rfl rfl (ownS (ownS (ownS (own0)))) rfl) ?_
          refine Qe rfl (q_field (o' := 4) Tryd.underlying51 rfl ti3 rfl rfl) ?_
          refine Qe rfl (q_load1 Tryd.underlying3 rfl rfl (ownS (ownS (ownS (own0)))) rfl) ?_
          refine WE_main rfl rfl (OW_call0 (rest_r m.n 12 (by omega)) (.cons rfl (.cons rfl (.nil))) (by decide) mem0 fun u9_2 Lo fs hres => ?_)
          obtain ⟨r46, hr46, hm46, rfl, rfl, rfl⟩ := hres
          refine ⟨⟨(List.Sublist.cons_cons _ (List.Sublist.cons_cons _ (List.Sublist.cons_cons _ (List.Sublist.cons_cons _ (List.Sublist.refl _))))), (.head _)⟩, ?_⟩
          refine Qe rfl (q_add rfl rfl (wr64 (by omega)) (c := ((1 + r46 : Nat) : Int))) ?_
          refine WE_main rfl rfl (OW_call0 (words_g (1 + r46) m.b (by omega)) (.cons rfl (.cons rfl (.nil))) (by decide) mem0 fun u9_6 Lo fs hres => ?_)
          obtain ⟨ls, hls, rfl, rfl, rfl⟩ := hres
          refine ⟨⟨(List.Sublist.cons_cons _ (List.Sublist.cons_cons _ (List.Sublist.cons_cons _ (List.Sublist.cons_cons _ (List.Sublist.refl _))))), (.head _)⟩, ?_⟩
          refine Qe rfl (q_field (o' := 4) Tryd.underlying31 rfl ti9 rfl rfl) ?_
          refine WE_end (WF_last rfl rfl (OW_store1 ti9 rfl rfl rfl (.s (.s (.s (.s (.z))))) (.z) ?_))
          refine WF_nil ?_
          refine blockN (thenN ?_)
          refine WC_fr [(10, _), (6, _)] (.cons rfl (.cons rfl (.nil _))) ?_
          refine WC_seq (WC_region ?_)
          refine Lq (q_loadN (vs := [_, _, _, _, _, _, _, _, _]) Tryd.underlying31 rfl ti31 rfl own0 rfl rfl) ?_
          refine WL_main rfl (OW_storeN (cs' := [_, _, _, _, _, _, _, _, _]) (vs := [_, _, _, _, _, _, _, _, _]) ti31 rfl rfl rfl rfl rfl (Nat.le_of_ble_eq_true rfl) (.s (.s (.z))) ?_)
          refine WL_nil (thenN (WC_ret ?_))
          refine ⟨_, [_], [_], fun Z w hs => RV_ownN hs Tryd.underlying31 rfl ti31 rfl (ownS (ownS (own0))) rfl (.nil), ?_, fun Z w hs => hs.out (List.Sublist.cons _ (List.Sublist.cons_cons _ (List.Sublist.cons _ (List.Sublist.cons _ (List.Sublist.refl _))))) (fun _ h => .tail _ (.tail _ h))⟩
          refine ⟨{ zeroOp with c := ((1 + r20 : Nat) : Int), n := x + 1, kind := 1, at_ := (r42 : Int), text := txOf ls }, _, _, x, rfl, rfl, rfl, by show ((1 + r20 : Nat) : Int) = _; omega, by show nx[((1 + r20 : Nat) : Int).toNat]? = _; rw [Int.toNat_natCast]; exact hx, rfl, ⟨fun c k hw hr => ?_, by have := txOf_size ls; show (txOf ls).size ≤ _; omega, by show ([] : List Rg).length ≤ 60000; decide⟩⟩
          exact good_ins (a := (r42 : Int)) (ls := ls) hV hi hw hr (by rw [← hcb]; omega) (by omega)
      · refine Ln rfl rfl rfl g71 ?_
        refine Ln rfl rfl rfl g71 ?_
        refine Ln rfl rfl rfl g71 ?_
        refine Lq (q_pickF rfl g71 rfl) ?_
        refine Lq (q_assign rfl) ?_
        refine WL_nil (thenN (WC_false rfl rfl (WC_seq (WC_region ?_))))
        refine Lq (q_field (o' := 0) Tryd.underlying31 rfl ti28 rfl rfl) ?_
        refine Lq (q_field (o' := 2) Tryd.underlying28 rfl ti26 rfl rfl) ?_
        refine WL_main rfl (OW_store1 ti26 rfl rfl rfl (.s (.s (.z))) (.z) ?_)
        refine WL_nil (thenN (WC_seq (WC_region ?_)))
        refine Lq (q_field (o' := 3) Tryd.underlying51 rfl ti3 rfl rfl) ?_
        refine Lq (q_load1 Tryd.underlying3 rfl rfl (ownS (ownS (ownS (own0)))) rfl) ?_
        refine Lq (q_move rfl) ?_
        refine Lq (q_add rfl rfl (wr64 (by omega)) (c := ((cellsN ((textsOf H.ents).take i) + 1 : Nat) : Int))) ?_
        refine WL_main rfl (OW_call0 (rest_r m.a (cellsN ((textsOf H.ents).take i) + 1) (by omega)) (.cons rfl (.cons rfl (.nil))) (by decide) mem0 fun u8_4 Lo fs hres => ?_)
        obtain ⟨r42, hr42, hm42, rfl, rfl, rfl⟩ := hres
        refine Lq (q_field (o' := 3) Tryd.underlying31 rfl ti3 rfl rfl) ?_
        refine WL_main rfl (OW_store1 ti3 rfl rfl rfl (.s (.s (.s (.z)))) (.z) ?_)
        refine WL_nil (thenN ?_)
        refine WC_draw _ _ [8] (.c 0 0 (.c 1 0 (.c 4 0 (.c 5 0 (.c 2 2 (.c 3 0 (.c 6 2 (.c 7 0 (.c 8 3 .nil))))))))) mixed (fun _ _ _ _ h => h) (List.Sublist.cons_cons _ (List.Sublist.cons_cons _ (List.Sublist.cons_cons _ (List.Sublist.cons_cons _ (List.Sublist.refl _))))) (fun _ h => h) (by kernel_rfl) (by decide) fun ws Z0 => ?_
        refine Qe rfl (q_field (o' := 5) Tryd.underlying51 rfl ti3 rfl rfl) ?_
        refine Qe rfl (q_load1 Tryd.underlying3 rfl rfl (ownS (ownS (ownS (own0)))) rfl) ?_
        refine Qe rfl (q_field (o' := 4) Tryd.underlying51 rfl ti3 rfl rfl) ?_
        refine Qe rfl (q_load1 Tryd.underlying3 rfl rfl (ownS (ownS (ownS (own0)))) rfl) ?_
        refine WE_main rfl rfl (OW_call0 (rest_r m.n 12 (by omega)) (.cons rfl (.cons rfl (.nil))) (by decide) mem0 fun u9_2 Lo fs hres => ?_)
        obtain ⟨r46, hr46, hm46, rfl, rfl, rfl⟩ := hres
        refine ⟨⟨(List.Sublist.cons_cons _ (List.Sublist.cons_cons _ (List.Sublist.cons_cons _ (List.Sublist.cons_cons _ (List.Sublist.refl _))))), (.head _)⟩, ?_⟩
        refine Qe rfl (q_add rfl rfl (wr64 (by omega)) (c := ((1 + r46 : Nat) : Int))) ?_
        refine WE_main rfl rfl (OW_call0 (words_g (1 + r46) m.b (by omega)) (.cons rfl (.cons rfl (.nil))) (by decide) mem0 fun u9_6 Lo fs hres => ?_)
        obtain ⟨ls, hls, rfl, rfl, rfl⟩ := hres
        refine ⟨⟨(List.Sublist.cons_cons _ (List.Sublist.cons_cons _ (List.Sublist.cons_cons _ (List.Sublist.cons_cons _ (List.Sublist.refl _))))), (.head _)⟩, ?_⟩
        refine Qe rfl (q_field (o' := 4) Tryd.underlying31 rfl ti9 rfl rfl) ?_
        refine WE_end (WF_last rfl rfl (OW_store1 ti9 rfl rfl rfl (.s (.s (.s (.s (.z))))) (.z) ?_))
        refine WF_nil ?_
        refine blockN (thenN ?_)
        refine WC_fr [(10, _), (6, _)] (.cons rfl (.cons rfl (.nil _))) ?_
        refine WC_seq (WC_region ?_)
        refine Lq (q_loadN (vs := [_, _, _, _, _, _, _, _, _]) Tryd.underlying31 rfl ti31 rfl own0 rfl rfl) ?_
        refine WL_main rfl (OW_storeN (cs' := [_, _, _, _, _, _, _, _, _]) (vs := [_, _, _, _, _, _, _, _, _]) ti31 rfl rfl rfl rfl rfl (Nat.le_of_ble_eq_true rfl) (.s (.s (.z))) ?_)
        refine WL_nil (thenN (WC_ret ?_))
        refine ⟨_, [_], [_], fun Z w hs => RV_ownN hs Tryd.underlying31 rfl ti31 rfl (ownS (ownS (own0))) rfl (.nil), ?_, fun Z w hs => hs.out (List.Sublist.cons _ (List.Sublist.cons_cons _ (List.Sublist.cons _ (List.Sublist.cons _ (List.Sublist.refl _))))) (fun _ h => .tail _ (.tail _ h))⟩
        refine ⟨{ zeroOp with c := ((1 + r20 : Nat) : Int), n := x + 1, kind := 1, at_ := (r42 : Int), text := txOf ls }, _, _, x, rfl, rfl, rfl, by show ((1 + r20 : Nat) : Int) = _; omega, by show nx[((1 + r20 : Nat) : Int).toNat]? = _; rw [Int.toNat_natCast]; exact hx, rfl, ⟨fun c k hw hr => ?_, by have := txOf_size ls; show (txOf ls).size ≤ _; omega, by show ([] : List Rg).length ≤ 60000; decide⟩⟩
        exact good_ins (a := (r42 : Int)) (ls := ls) hV hi hw hr (by rw [← hcb]; omega) (by omega)
  · refine Ln rfl rfl rfl g55 ?_
    refine Ln rfl rfl rfl g55 ?_
    refine Lq (q_pickF rfl g55 rfl) ?_
    refine Lq (q_assign rfl) ?_
    refine WL_nil (thenN (WC_false rfl rfl (WC_seq (WC_region ?_))))
    refine Lq (q_move rfl) ?_
    refine Lq (q_eql rfl rfl) ?_
    refine Lq (q_move rfl) ?_
    refine WL_guard (t := 71) rfl (fun g71 => ?_) (fun g71 => ?_)
    · refine Lg rfl rfl rfl g71 (q_move rfl) ?_
      refine Lg rfl rfl rfl g71 (q_len Tryd.underlying56 rfl) ?_
      refine Lg rfl rfl rfl g71 (q_gtr rfl rfl) ?_
      refine Lq (q_pickT rfl g71 rfl) ?_
      refine Lq (q_assign rfl) ?_
      refine WL_nil (thenN ?_)
      refine WC_cond rfl (fun h68 => ?_) (fun h68 => ?_)
      · have hE0 : 0 < (editsL ((idsOf H.ents).take i) ((kindsOf H.ents).take i)).length := by revert h68; simp
        refine WC_seq (WC_region ?_)
        refine Lq (q_field (o' := 0) Tryd.underlying31 rfl ti28 rfl rfl) ?_
        refine Lq (q_field (o' := 2) Tryd.underlying28 rfl ti26 rfl rfl) ?_
        refine WL_main rfl (OW_store1 ti26 rfl rfl rfl (.s (.s (.z))) (.z) ?_)
        refine WL_nil (thenN (WC_seq (WC_region ?_)))
        refine Lq (q_move rfl) ?_
        refine Lq (q_field (o' := 3) Tryd.underlying51 rfl ti3 rfl rfl) ?_
        refine Lq (q_load1 Tryd.underlying3 rfl rfl (ownS (ownS (ownS (own0)))) rfl) ?_
        refine Lq (q_move rfl) ?_
        refine Lq (q_len Tryd.underlying56 rfl) ?_
        refine WL_main rfl (OW_call0 (rest_r m.a (editsL ((idsOf H.ents).take i) ((kindsOf H.ents).take i)).length (by omega)) (.cons rfl (.cons rfl (.nil))) (by decide) mem0 fun u15_5 Lo fs hres => ?_)
        obtain ⟨r83, hr83, hm83, rfl, rfl, rfl⟩ := hres
        have hEm := edits_target (List.getElem_mem hm83)
        obtain ⟨j, hj, hji, hjc, hjn, hjk⟩ := hEm
        refine WL_elem (k := r83) (.head _) (List.getElem?_eq_getElem hm83) (id_open _) fun b9 q9 y9 e9 => ?_
        cases e9
        refine Lq (q_idxRd Tryd.underlying56 ti25 rfl rfl (by omega) (by omega)) ?_
        refine Lq (q_loadFN (k := 0) (vs := [_, _]) Tryd.underlying25 rfl ti25 rfl (.head _) rfl rfl rfl) ?_
        refine Lq (q_field (o' := 6) Tryd.underlying31 rfl ti25 rfl rfl) ?_
        refine WL_main rfl (OW_storeN (cs' := [_, _, _, _, _, _, _, _, _]) (vs := [_, _]) ti25 rfl rfl rfl rfl rfl (Nat.le_of_ble_eq_true rfl) (.z) ?_)
        refine WL_nil (thenN ?_)
        refine WC_fr [(10, _), (6, _), (4, _)] (.cons rfl (.cons rfl (.cons rfl (.nil _)))) ?_
        refine WC_region ?_
        refine Lq (q_field (o' := 4) Tryd.underlying51 rfl ti3 rfl rfl) ?_
        refine Lq (q_load1 Tryd.underlying3 rfl rfl (ownS (ownS (ownS (own0)))) rfl) ?_
        refine WL_main rfl (OW_call0 (rest_r m.b 2 (by omega)) (.cons rfl (.cons rfl (.nil))) (by decide) mem0 fun u16_2 Lo fs hres => ?_)
        obtain ⟨r89, hr89, hm89, rfl, rfl, rfl⟩ := hres
        refine Lq (q_eql rfl rfl) ?_
        refine Lq (q_field (o' := 8) Tryd.underlying31 rfl ti4 rfl rfl) ?_
        refine WL_main rfl (OW_store1 ti4 rfl rfl rfl (.s (.s (.s (.s (.s (.s (.s (.s (.z))))))))) (.z) ?_)
        refine WL_nil (blockN (thenN (WC_seq (WC_region ?_))))
        refine Lq (q_loadN (vs := [_, _, _, _, _, _, _, _, _]) Tryd.underlying31 rfl ti31 rfl own0 rfl rfl) ?_
        refine WL_main rfl (OW_storeN (cs' := [_, _, _, _, _, _, _, _, _]) (vs := [_, _, _, _, _, _, _, _, _]) ti31 rfl rfl rfl rfl rfl (Nat.le_of_ble_eq_true rfl) (.s (.s (.z))) ?_)
        refine WL_nil (thenN (WC_ret ?_))
        refine ⟨_, [_], [_], fun Z w hs => RV_ownN hs Tryd.underlying31 rfl ti31 rfl (ownS (ownS (own0))) rfl (.nil), ?_, fun Z w hs => hs.out (List.Sublist.cons _ (List.Sublist.cons_cons _ (List.Sublist.cons _ (List.Sublist.cons _ (List.Sublist.refl _))))) (fun _ h => .tail _ (.tail _ h))⟩
        refine ⟨{ zeroOp with c := ((1 + r20 : Nat) : Int), n := x + 1, kind := 4, tc := (editsL ((idsOf H.ents).take i) ((kindsOf H.ents).take i))[r83].1, tn := (editsL ((idsOf H.ents).take i) ((kindsOf H.ents).take i))[r83].2, on := ((r89 : Int) == 1) }, _, _, x, rfl, rfl, rfl, by show ((1 + r20 : Nat) : Int) = _; omega, by show nx[((1 + r20 : Nat) : Int).toNat]? = _; rw [Int.toNat_natCast]; exact hx, rfl, ⟨fun c k hw hr => ?_, by show (⟨#[]⟩ : ByteArray).size ≤ 1000; decide, by show ([] : List Rg).length ≤ 60000; decide⟩⟩
        have := good_status hV hi hw hr hj hji hjk ((r89 : Int) == 1)
        rw [hjc, hjn] at this
        exact this
      · refine WC_seq (WC_region ?_)
        refine Lq (q_field (o' := 0) Tryd.underlying31 rfl ti28 rfl rfl) ?_
        refine Lq (q_field (o' := 2) Tryd.underlying28 rfl ti26 rfl rfl) ?_
        refine WL_main rfl (OW_store1 ti26 rfl rfl rfl (.s (.s (.z))) (.z) ?_)
        refine WL_nil (thenN (WC_seq (WC_region ?_)))
        refine Lq (q_field (o' := 3) Tryd.underlying51 rfl ti3 rfl rfl) ?_
        refine Lq (q_load1 Tryd.underlying3 rfl rfl (ownS (ownS (ownS (own0)))) rfl) ?_
        refine Lq (q_move rfl) ?_
        refine Lq (q_add rfl rfl (wr64 (by omega)) (c := ((cellsN ((textsOf H.ents).take i) + 1 : Nat) : Int))) ?_
        refine WL_main rfl (OW_call0 (rest_r m.a (cellsN ((textsOf H.ents).take i) + 1) (by omega)) (.cons rfl (.cons rfl (.nil))) (by decide) mem0 fun u8_4 Lo fs hres => ?_)
        obtain ⟨r42, hr42, hm42, rfl, rfl, rfl⟩ := hres
        refine Lq (q_field (o' := 3) Tryd.underlying31 rfl ti3 rfl rfl) ?_
        refine WL_main rfl (OW_store1 ti3 rfl rfl rfl (.s (.s (.s (.z)))) (.z) ?_)
        refine WL_nil (thenN ?_)
        refine WC_draw _ _ [8] (.c 0 0 (.c 1 0 (.c 4 0 (.c 5 0 (.c 2 2 (.c 3 0 (.c 6 2 (.c 7 0 (.c 8 3 .nil))))))))) mixed (fun _ _ _ _ h => h) (List.Sublist.cons_cons _ (List.Sublist.cons_cons _ (List.Sublist.cons_cons _ (List.Sublist.cons_cons _ (List.Sublist.refl _))))) (fun _ h => h) (by kernel_rfl) (by decide) fun ws Z0 => ?_
        refine Qe rfl (q_field (o' := 5) Tryd.underlying51 rfl ti3 rfl rfl) ?_
        refine Qe rfl (q_load1 Tryd.underlying3 rfl rfl (ownS (ownS (ownS (own0)))) rfl) ?_
        refine Qe rfl (q_field (o' := 4) Tryd.underlying51 rfl ti3 rfl rfl) ?_
        refine Qe rfl (q_load1 Tryd.underlying3 rfl rfl (ownS (ownS (ownS (own0)))) rfl) ?_
        refine WE_main rfl rfl (OW_call0 (rest_r m.n 12 (by omega)) (.cons rfl (.cons rfl (.nil))) (by decide) mem0 fun u9_2 Lo fs hres => ?_)
        obtain ⟨r46, hr46, hm46, rfl, rfl, rfl⟩ := hres
        refine ⟨⟨(List.Sublist.cons_cons _ (List.Sublist.cons_cons _ (List.Sublist.cons_cons _ (List.Sublist.cons_cons _ (List.Sublist.refl _))))), (.head _)⟩, ?_⟩
        refine Qe rfl (q_add rfl rfl (wr64 (by omega)) (c := ((1 + r46 : Nat) : Int))) ?_
        refine WE_main rfl rfl (OW_call0 (words_g (1 + r46) m.b (by omega)) (.cons rfl (.cons rfl (.nil))) (by decide) mem0 fun u9_6 Lo fs hres => ?_)
        obtain ⟨ls, hls, rfl, rfl, rfl⟩ := hres
        refine ⟨⟨(List.Sublist.cons_cons _ (List.Sublist.cons_cons _ (List.Sublist.cons_cons _ (List.Sublist.cons_cons _ (List.Sublist.refl _))))), (.head _)⟩, ?_⟩
        refine Qe rfl (q_field (o' := 4) Tryd.underlying31 rfl ti9 rfl rfl) ?_
        refine WE_end (WF_last rfl rfl (OW_store1 ti9 rfl rfl rfl (.s (.s (.s (.s (.z))))) (.z) ?_))
        refine WF_nil ?_
        refine blockN (thenN ?_)
        refine WC_fr [(10, _), (6, _)] (.cons rfl (.cons rfl (.nil _))) ?_
        refine WC_seq (WC_region ?_)
        refine Lq (q_loadN (vs := [_, _, _, _, _, _, _, _, _]) Tryd.underlying31 rfl ti31 rfl own0 rfl rfl) ?_
        refine WL_main rfl (OW_storeN (cs' := [_, _, _, _, _, _, _, _, _]) (vs := [_, _, _, _, _, _, _, _, _]) ti31 rfl rfl rfl rfl rfl (Nat.le_of_ble_eq_true rfl) (.s (.s (.z))) ?_)
        refine WL_nil (thenN (WC_ret ?_))
        refine ⟨_, [_], [_], fun Z w hs => RV_ownN hs Tryd.underlying31 rfl ti31 rfl (ownS (ownS (own0))) rfl (.nil), ?_, fun Z w hs => hs.out (List.Sublist.cons _ (List.Sublist.cons_cons _ (List.Sublist.cons _ (List.Sublist.cons _ (List.Sublist.refl _))))) (fun _ h => .tail _ (.tail _ h))⟩
        refine ⟨{ zeroOp with c := ((1 + r20 : Nat) : Int), n := x + 1, kind := 1, at_ := (r42 : Int), text := txOf ls }, _, _, x, rfl, rfl, rfl, by show ((1 + r20 : Nat) : Int) = _; omega, by show nx[((1 + r20 : Nat) : Int).toNat]? = _; rw [Int.toNat_natCast]; exact hx, rfl, ⟨fun c k hw hr => ?_, by have := txOf_size ls; show (txOf ls).size ≤ _; omega, by show ([] : List Rg).length ≤ 60000; decide⟩⟩
        exact good_ins (a := (r42 : Int)) (ls := ls) hV hi hw hr (by rw [← hcb]; omega) (by omega)
    · refine Ln rfl rfl rfl g71 ?_
      refine Ln rfl rfl rfl g71 ?_
      refine Ln rfl rfl rfl g71 ?_
      refine Lq (q_pickF rfl g71 rfl) ?_
      refine Lq (q_assign rfl) ?_
      refine WL_nil (thenN (WC_false rfl rfl (WC_seq (WC_region ?_))))
      refine Lq (q_field (o' := 0) Tryd.underlying31 rfl ti28 rfl rfl) ?_
      refine Lq (q_field (o' := 2) Tryd.underlying28 rfl ti26 rfl rfl) ?_
      refine WL_main rfl (OW_store1 ti26 rfl rfl rfl (.s (.s (.z))) (.z) ?_)
      refine WL_nil (thenN (WC_seq (WC_region ?_)))
      refine Lq (q_field (o' := 3) Tryd.underlying51 rfl ti3 rfl rfl) ?_
      refine Lq (q_load1 Tryd.underlying3 rfl rfl (ownS (ownS (ownS (own0)))) rfl) ?_
      refine Lq (q_move rfl) ?_
      refine Lq (q_add rfl rfl (wr64 (by omega)) (c := ((cellsN ((textsOf H.ents).take i) + 1 : Nat) : Int))) ?_
      refine WL_main rfl (OW_call0 (rest_r m.a (cellsN ((textsOf H.ents).take i) + 1) (by omega)) (.cons rfl (.cons rfl (.nil))) (by decide) mem0 fun u8_4 Lo fs hres => ?_)
      obtain ⟨r42, hr42, hm42, rfl, rfl, rfl⟩ := hres
      refine Lq (q_field (o' := 3) Tryd.underlying31 rfl ti3 rfl rfl) ?_
      refine WL_main rfl (OW_store1 ti3 rfl rfl rfl (.s (.s (.s (.z)))) (.z) ?_)
      refine WL_nil (thenN ?_)
      refine WC_draw _ _ [8] (.c 0 0 (.c 1 0 (.c 4 0 (.c 5 0 (.c 2 2 (.c 3 0 (.c 6 2 (.c 7 0 (.c 8 3 .nil))))))))) mixed (fun _ _ _ _ h => h) (List.Sublist.cons_cons _ (List.Sublist.cons_cons _ (List.Sublist.cons_cons _ (List.Sublist.cons_cons _ (List.Sublist.refl _))))) (fun _ h => h) (by kernel_rfl) (by decide) fun ws Z0 => ?_
      refine Qe rfl (q_field (o' := 5) Tryd.underlying51 rfl ti3 rfl rfl) ?_
      refine Qe rfl (q_load1 Tryd.underlying3 rfl rfl (ownS (ownS (ownS (own0)))) rfl) ?_
      refine Qe rfl (q_field (o' := 4) Tryd.underlying51 rfl ti3 rfl rfl) ?_
      refine Qe rfl (q_load1 Tryd.underlying3 rfl rfl (ownS (ownS (ownS (own0)))) rfl) ?_
      refine WE_main rfl rfl (OW_call0 (rest_r m.n 12 (by omega)) (.cons rfl (.cons rfl (.nil))) (by decide) mem0 fun u9_2 Lo fs hres => ?_)
      obtain ⟨r46, hr46, hm46, rfl, rfl, rfl⟩ := hres
      refine ⟨⟨(List.Sublist.cons_cons _ (List.Sublist.cons_cons _ (List.Sublist.cons_cons _ (List.Sublist.cons_cons _ (List.Sublist.refl _))))), (.head _)⟩, ?_⟩
      refine Qe rfl (q_add rfl rfl (wr64 (by omega)) (c := ((1 + r46 : Nat) : Int))) ?_
      refine WE_main rfl rfl (OW_call0 (words_g (1 + r46) m.b (by omega)) (.cons rfl (.cons rfl (.nil))) (by decide) mem0 fun u9_6 Lo fs hres => ?_)
      obtain ⟨ls, hls, rfl, rfl, rfl⟩ := hres
      refine ⟨⟨(List.Sublist.cons_cons _ (List.Sublist.cons_cons _ (List.Sublist.cons_cons _ (List.Sublist.cons_cons _ (List.Sublist.refl _))))), (.head _)⟩, ?_⟩
      refine Qe rfl (q_field (o' := 4) Tryd.underlying31 rfl ti9 rfl rfl) ?_
      refine WE_end (WF_last rfl rfl (OW_store1 ti9 rfl rfl rfl (.s (.s (.s (.s (.z))))) (.z) ?_))
      refine WF_nil ?_
      refine blockN (thenN ?_)
      refine WC_fr [(10, _), (6, _)] (.cons rfl (.cons rfl (.nil _))) ?_
      refine WC_seq (WC_region ?_)
      refine Lq (q_loadN (vs := [_, _, _, _, _, _, _, _, _]) Tryd.underlying31 rfl ti31 rfl own0 rfl rfl) ?_
      refine WL_main rfl (OW_storeN (cs' := [_, _, _, _, _, _, _, _, _]) (vs := [_, _, _, _, _, _, _, _, _]) ti31 rfl rfl rfl rfl rfl (Nat.le_of_ble_eq_true rfl) (.s (.s (.z))) ?_)
      refine WL_nil (thenN (WC_ret ?_))
      refine ⟨_, [_], [_], fun Z w hs => RV_ownN hs Tryd.underlying31 rfl ti31 rfl (ownS (ownS (own0))) rfl (.nil), ?_, fun Z w hs => hs.out (List.Sublist.cons _ (List.Sublist.cons_cons _ (List.Sublist.cons _ (List.Sublist.cons _ (List.Sublist.refl _))))) (fun _ h => .tail _ (.tail _ h))⟩
      refine ⟨{ zeroOp with c := ((1 + r20 : Nat) : Int), n := x + 1, kind := 1, at_ := (r42 : Int), text := txOf ls }, _, _, x, rfl, rfl, rfl, by show ((1 + r20 : Nat) : Int) = _; omega, by show nx[((1 + r20 : Nat) : Int).toNat]? = _; rw [Int.toNat_natCast]; exact hx, rfl, ⟨fun c k hw hr => ?_, by have := txOf_size ls; show (txOf ls).size ≤ _; omega, by show ([] : List Rg).length ≤ 60000; decide⟩⟩
      exact good_ins (a := (r42 : Int)) (ls := ls) hV hi hw hr (by rw [← hcb]; omega) (by omega)

end Go.Proofs.YtggdddkbhigjoaaDoor
/- What notes builds, plain. -/
namespace Go.GW
open Go
theorem WF_pick {P : Program} {n : Nat} {R : Post} {l : Fr} {Ps Ps' : List Part} {As : List Fact} {ops : Array Oper} {ws : World} {Z0 : Nat → Prop} {Ps0 : List Part} {r : OT} {p : Part} (hd : DelAt Ps p Ps') (k : WF P n ops R ws Z0 Ps0 r l (p :: Ps') As) : WF P n ops R ws Z0 Ps0 r l Ps As := fun Z w a hs ha => k Z w a (hs.pick hd) ha
end Go.GW
namespace Go.Proofs.YtggdddkbhigjoaaDoor
open Go Go.GW
def preI {α : Type} (l : List α) (i : Nat) (x : α) (k : Nat) : List α := if k ≤ i then l.take k else (insAt l i x).take (k + 1)
theorem insAt_length {α : Type} {l : List α} {i : Nat} (x : α) (h : i ≤ l.length) : (insAt l i x).length = l.length + 1 := by
  unfold insAt; simp only [List.length_append, List.length_take, List.length_cons, List.length_drop]; omega
theorem insAt_at {α : Type} {l : List α} {i : Nat} {x : α} (h : i ≤ l.length) : (insAt l i x)[i]? = some x := by
  unfold insAt
  rw [List.getElem?_append_right (by rw [List.length_take]; omega), List.length_take, show i - min i l.length = 0 from by omega]; rfl
theorem insAt_hi {α : Type} {l : List α} {i k : Nat} {x : α} (h : i ≤ l.length) (hk : i ≤ k) : (insAt l i x)[k + 1]? = l[k]? := by
  unfold insAt
  rw [List.getElem?_append_right (by rw [List.length_take]; omega), List.length_take, show k + 1 - min i l.length = (k - i) + 1 from by omega, List.getElem?_cons_succ, List.getElem?_drop, show i + (k - i) = k from by omega]
theorem preI_zero {α : Type} (l : List α) (i : Nat) (x : α) : preI l i x 0 = [] := by unfold preI; rw [if_pos (Nat.zero_le _)]; rfl
theorem take_snoc_get {α : Type} {l : List α} {k : Nat} {y : α} (h : l[k]? = some y) : l.take (k + 1) = l.take k ++ [y] := by
  rw [List.take_add_one, h]; rfl
theorem preI_lt {α : Type} {l : List α} {i k : Nat} {x : α} (hk : k < l.length) (h : k < i) : preI l i x (k + 1) = preI l i x k ++ [l[k]] := by
  unfold preI
  rw [if_pos (by omega), if_pos (by omega), List.take_succ_eq_append_getElem hk]
theorem preI_eq {α : Type} {l : List α} {i : Nat} {x : α} (hi : i < l.length) : preI l i x (i + 1) = preI l i x i ++ [x] ++ [l[i]] := by
  unfold preI
  rw [if_neg (by omega), if_pos (Nat.le_refl _)]
  rw [take_snoc_get (k := i + 1) (y := l[i]) (by rw [insAt_hi (by omega) (Nat.le_refl _), List.getElem?_eq_getElem hi]), take_snoc_get (insAt_at (by omega))]
  unfold insAt
  rw [List.take_append_of_le_length (by rw [List.length_take]; omega), List.take_take, Nat.min_self]
theorem preI_eq2 {α : Type} {l : List α} {i : Nat} {x : α} (hi : i = l.length) : preI l i x (i + 1) = preI l i x i ++ [x] := by
  unfold preI
  rw [if_neg (by omega), if_pos (Nat.le_refl _)]
  rw [List.take_of_length_le (by rw [insAt_length x (by omega)]; omega)]
  unfold insAt
  rw [List.drop_eq_nil_of_le (by omega)]
theorem preI_gt {α : Type} {l : List α} {i k : Nat} {x : α} (hi : i ≤ l.length) (hk : k < l.length) (h : i < k) : preI l i x (k + 1) = preI l i x k ++ [l[k]] := by
  unfold preI
  rw [if_neg (by omega), if_neg (by omega)]
  exact take_snoc_get (by rw [insAt_hi hi (by omega), List.getElem?_eq_getElem hk])
theorem preI_end {α : Type} {l : List α} {i k : Nat} {x : α} (hi : i ≤ l.length) (hk : ¬ k < l.length) (h : i < k) : preI l i x (k + 1) = preI l i x k := by
  have := insAt_length x hi
  unfold preI
  rw [if_neg (by omega), if_neg (by omega), List.take_of_length_le (by omega), List.take_of_length_le (by omega)]
theorem preI_done {α : Type} {l : List α} {i k : Nat} {x : α} (hi : i ≤ l.length) (hk : l.length < k) : preI l i x k = insAt l i x := by
  have := insAt_length x hi
  unfold preI
  rw [if_neg (by omega), List.take_of_length_le (by omega)]
theorem preI_len {α : Type} (l : List α) (i : Nat) (x : α) (k : Nat) : (preI l i x k).length ≤ k + 1 := by
  unfold preI; split
  · rw [List.length_take]; omega
  · rw [List.length_take]; omega
/-- A round of notes. -/
theorem preI_next {α : Type} {l : List α} {i k : Nat} {x : α} (hi : i ≤ l.length) (hk : k ≤ l.length) : preI l i x (k + 1) = preI l i x k ++ ((if k = i then [x] else []) ++ (match l[k]? with | some y => [y] | none => [])) := by
  by_cases h1 : k < l.length
  · rw [List.getElem?_eq_getElem h1]
    rcases Nat.lt_trichotomy k i with h | h | h
    · rw [if_neg (by omega)]; simpa using preI_lt h1 h
    · subst h; rw [if_pos rfl]; simpa using preI_eq h1
    · rw [if_neg (by omega)]; simpa using preI_gt hi h1 h
  · rw [List.getElem?_eq_none (by omega)]
    by_cases h : k = i
    · subst h; rw [if_pos rfl]; simpa using preI_eq2 (x := x) (by omega : k = l.length)
    · rw [if_neg h]; simpa using preI_end hi h1 (by omega)
def strs (xs : List ByteArray) : List Value := xs.map Value.string
theorem strs_append (a b : List ByteArray) : strs (a ++ b) = strs a ++ strs b := by unfold strs; simp
theorem strs_flat (xs : List ByteArray) : (xs.map fun x => [Value.string x]).flatten = strs xs := by
  induction xs with
  | nil => rfl
  | cons x xs ih => simp only [List.map_cons, List.flatten_cons, ih]; rfl
theorem vw_nextI {a b c d e : Value} {nx : List Int} {k x : Int} (h : nx[k.toNat]? = some x) : (a :: b :: c :: d :: e :: ints .i64 nx)[5 + k.toNat * 1]? = some (.int .i64 x) := by
  rw [Nat.mul_one, Nat.add_comm 5 k.toNat]
  simp [ints, h]
theorem vw_setI {a b c d e : Value} {nx : List Int} {k x : Int} : (a :: b :: c :: d :: e :: ints .i64 nx).set (5 + k.toNat * 1) (.int .i64 x) = a :: b :: c :: d :: e :: ints .i64 (nx.set k.toNat x) := by
  rw [Nat.mul_one, Nat.add_comm 5 k.toNat]
  simp [ints, List.map_set]
structure NoI (ids : List (Int × Int)) (ks : List Int) (ts : List ByteArray) (i : Nat) (d : Int × Int) (z : Int) (s : ByteArray) (k : Nat) (w1 : Value) (p1 : Part) (w2 : Value) (p2 : Part) (w3 : Value) (p3 : Part) : Prop where
  le : k ≤ ids.length + 1
  r1 : Row 25 2 w1 (preI ids i d k).length (flatC idC (preI ids i d k)) p1
  r2 : Row 3 1 w2 (preI ks i z k).length (ints .i64 (preI ks i z k)) p2
  r3 : Row 9 1 w3 (preI ts i s k).length (strs (preI ts i s k)) p3
def NoteP (v h b n : Nat) (ids : List (Int × Int)) (ks : List Int) (ts : List ByteArray) (nx : List Int) (i : Nat) (o : GOp) : Value → List Part → List Fact → Prop := fun u Lo fs =>
  ∃ (A1 : Option Addr) (c1 : Nat) (A2 : Option Addr) (c2 : Nat) (A3 : Option Addr) (c3 : Nat), u = .tuple #[] ∧ Lo = [vwP v h b A1 (n + 1) c1 A2 c2 A3 c3 (nxF nx o.c o.n)] ∧
    fs = [RdF idD A1 c1 (insAt ids i (o.c, o.n)), RdF (De.int .i64) A2 c2 (insAt ks i (kindN o)), RdF De.str A3 c3 (insAt ts i o.text)]
end Go.Proofs.YtggdddkbhigjoaaDoor
/- Walks: notes. -/
namespace Go.Proofs.YtggdddkbhigjoaaDoor
open Go Go.GW
set_option maxRecDepth 10000 in
theorem notes_s (v h b n : Nat) (A1 : Option Addr) (c1 : Nat) (A2 : Option Addr) (c2 : Nat) (A3 : Option Addr) (c3 : Nat) (nx : List Int) (ids : List (Int × Int)) (ks : List Int) (ts : List ByteArray) (i : Nat) (o : GOp) (Ao : Option Addr) (co : Nat) (hn : n = ids.length) (hk2 : ks.length = ids.length) (hk3 : ts.length = ids.length) (hi : i ≤ ids.length) (hb : n ≤ 1000000) (hnx : nx.length = 9) (hc : 1 ≤ o.c ∧ o.c ≤ 8) : Sp Tryd.prog 34 [.pointer (some ⟨v, 0, none⟩), .int .i64 i, opV o Ao co] [vwP v h b A1 n c1 A2 c2 A3 c3 nx] [RdF idD A1 c1 ids, RdF (De.int .i64) A2 c2 ks, RdF De.str A3 c3 ts] (NoteP v h b n ids ks ts nx i o) := by
  subst hn
  obtain ⟨x, hx⟩ : ∃ x, nx[o.c.toNat]? = some x := ⟨_, List.getElem?_eq_getElem (by omega)⟩
  refine Sp.of (n := 121) ⟨_, Tryd.func34, rfl, rfl, rfl, rfl⟩ (Nat.le_of_ble_eq_true rfl) fun Ps As => ?_
  refine WC_seq (WC_region ?_)
  refine WL_main rfl (OW_box (cs := [_, _, _, _, _, _, _, _, _]) rfl rfl (by decide) fun b5 => ?_)
  refine WL_nil (thenN (WC_seq (WC_region ?_)))
  refine Lq (q_assign rfl) ?_
  refine WL_nil (thenN ?_)
  refine WC_meet (α := Int)
    (fun z => [(0, .pointer (some ⟨v, 0, none⟩)), (1, .int .i64 i), (5, .pointer (some ⟨b5, 0, none⟩)), (6, .int .i64 z)])
    (fun z => (([(b5, cellsO (opC o Ao co) 31)]) :: vwP v h b A1 ids.length c1 A2 c2 A3 c3 nx :: Ps))
    (fun z => (RdF idD A1 c1 ids :: RdF (De.int .i64) A2 c2 ks :: RdF De.str A3 c3 ts :: As))
    (fun z => z = if o.kind = 2 then 1 else 0) ?_ ?_
  · refine WC_seq (WC_region ?_)
    refine Lq (q_field (o' := 0) Tryd.underlying31 rfl ti28 rfl rfl) ?_
    refine Lq (q_field (o' := 2) Tryd.underlying28 rfl ti26 rfl rfl) ?_
    refine Lq (q_load1 Tryd.underlying26 rfl rfl own0 rfl) ?_
    refine Lq (q_eql rfl rfl) ?_
    refine WL_nil (thenN ?_)
    refine WC_cond rfl (fun h14 => ?_) (fun h14 => ?_)
    · refine WC_region ?_
      refine Lq (q_assign rfl) ?_
      refine WL_nil (thenK ?_)
      refine ⟨_, ?_, (.cons rfl (.cons rfl (.cons rfl (.cons rfl (.nil _))))), (List.Sublist.cons_cons _ (List.Sublist.cons_cons _ (List.Sublist.refl _))), (fun _ h => h)⟩
      first | exact (if_pos (by simpa using h14)).symm | exact (if_neg (by simpa using h14)).symm
    · refine WC_skip (thenK ?_)
      refine ⟨_, ?_, (.cons rfl (.cons rfl (.cons rfl (.cons rfl (.nil _))))), (List.Sublist.cons_cons _ (List.Sublist.cons_cons _ (List.Sublist.refl _))), (fun _ h => h)⟩
      first | exact (if_pos (by simpa using h14)).symm | exact (if_neg (by simpa using h14)).symm
  · rintro z hz4
    refine WC_meet (α := Int)
      (fun z => [(0, .pointer (some ⟨v, 0, none⟩)), (1, .int .i64 i), (5, .pointer (some ⟨b5, 0, none⟩)), (6, .int .i64 z)])
      (fun z => (([(b5, cellsO (opC o Ao co) 31)]) :: vwP v h b A1 ids.length c1 A2 c2 A3 c3 nx :: Ps))
      (fun z => (RdF idD A1 c1 ids :: RdF (De.int .i64) A2 c2 ks :: RdF De.str A3 c3 ts :: As))
      (fun z => z = kindN o) ?_ ?_
    · refine WC_seq (WC_region ?_)
      refine Lq (q_field (o' := 0) Tryd.underlying31 rfl ti28 rfl rfl) ?_
      refine Lq (q_field (o' := 2) Tryd.underlying28 rfl ti26 rfl rfl) ?_
      refine Lq (q_load1 Tryd.underlying26 rfl rfl own0 rfl) ?_
      refine Lq (q_eql rfl rfl) ?_
      refine WL_nil (thenN ?_)
      refine WC_cond rfl (fun h18 => ?_) (fun h18 => ?_)
      · refine WC_region ?_
        refine Lq (q_assign rfl) ?_
        refine WL_nil (thenK ?_)
        refine ⟨_, ?_, (.cons rfl (.cons rfl (.cons rfl (.cons rfl (.nil _))))), (List.Sublist.cons_cons _ (List.Sublist.cons_cons _ (List.Sublist.refl _))), (fun _ h => h)⟩
        unfold kindN
        first | exact (if_pos (by simpa using h18)).symm | (rw [if_neg (by simpa using h18)]; exact hz4)
      · refine WC_skip (thenK ?_)
        refine ⟨_, ?_, (.cons rfl (.cons rfl (.cons rfl (.cons rfl (.nil _))))), (List.Sublist.cons_cons _ (List.Sublist.cons_cons _ (List.Sublist.refl _))), (fun _ h => h)⟩
        unfold kindN
        first | exact (if_pos (by simpa using h18)).symm | (rw [if_neg (by simpa using h18)]; exact hz4)
    · rintro z hz6
      refine WC_seq (WC_region ?_)
      refine Lq (q_assign rfl) ?_
      refine WL_nil (thenN (WC_seq (WC_region ?_)))
      refine Lq (q_assign rfl) ?_
      refine WL_nil (thenN (WC_seq (WC_region ?_)))
      refine Lq (q_assign rfl) ?_
      refine WL_nil (thenN (WC_seq (WC_seq (WC_region ?_))))
      refine Lq (q_assign rfl) ?_
      refine WL_nil (thenN (WC_block ?_))
      refine WC_nilPart ?_
      refine WC_nilPart ?_
      refine WC_nilPart ?_
      refine WC_loopE (α := Nat × Value × Part × Value × Part × Value × Part) (fun (k, w1, p1, w2, p2, w3, p3) => ids.length + 1 - k)
        (fun (k, w1, p1, w2, p2, w3, p3) => [(0, .pointer (some ⟨v, 0, none⟩)), (1, .int .i64 i), (5, .pointer (some ⟨b5, 0, none⟩)), (6, .int .i64 z), (7, w1), (8, w2), (9, w3), (10, .int .i64 k)])
        (fun (k, w1, p1, w2, p2, w3, p3) => (p1 :: p2 :: p3 :: ([(b5, cellsO (opC o Ao co) 31)]) :: vwP v h b A1 ids.length c1 A2 c2 A3 c3 nx :: Ps))
        (fun (k, w1, p1, w2, p2, w3, p3) => (RdF idD A1 c1 ids :: RdF (De.int .i64) A2 c2 ks :: RdF De.str A3 c3 ts :: As))
        (fun (k, w1, p1, w2, p2, w3, p3) => NoI ids ks ts i (o.c, o.n) z o.text k w1 p1 w2 p2 w3 p3)
        (0, .slice none 0 0, [], .slice none 0 0, [], .slice none 0 0, []) ?_ (.cons rfl (.cons rfl (.cons rfl (.cons rfl (.cons rfl (.cons rfl (.cons rfl (.cons rfl (.nil _))))))))) (List.Sublist.cons_cons _ (List.Sublist.cons_cons _ (List.Sublist.cons_cons _ (List.Sublist.cons_cons _ (List.Sublist.cons_cons _ (List.Sublist.refl _)))))) (fun _ h => h) ?_
      · exact ⟨Nat.zero_le _, by rw [preI_zero]; exact Row.nil _ _, by rw [preI_zero]; exact Row.nil _ _, by rw [preI_zero]; exact Row.nil _ _⟩
      · rintro ⟨k, w1, p1, w2, p2, w3, p3⟩ hI
        refine WC_seq (WC_seq (WC_region ?_))
        refine Lq (q_move rfl) ?_
        refine Lq (q_move rfl) ?_
        refine Lq (q_nil rfl) ?_
        refine Lq (q_field (o' := 2) Tryd.underlying61 rfl ti56 rfl rfl) ?_
        refine Lq (q_load1 Tryd.underlying56 rfl rfl (ownS (ownS (ownS (ownS (own0))))) rfl) ?_
        refine Lq (q_len Tryd.underlying56 rfl) ?_
        refine Lq (q_leq rfl rfl) ?_
        refine WL_nil (thenN ?_)
        refine WC_cond rfl (fun h25 => ?_) (fun h25 => ?_)
        · refine WC_skip (thenN (WC_seq (WC_block (WC_seq (WC_seq ?_)))))
          have hkn : k ≤ ids.length := by simp only [decide_eq_true_eq] at h25; omega
          have l1 := preI_len ids i (o.c, o.n) k
          have l2 := preI_len ks i z k
          have l3 := preI_len ts i o.text k
          have e1 := preI_next (x := (o.c, o.n)) hi hkn
          have e2 := preI_next (x := z) (l := ks) (i := i) (by omega) (by omega : k ≤ ks.length)
          have e3 := preI_next (x := o.text) (l := ts) (i := i) (by omega) (by omega : k ≤ ts.length)
          refine WC_region ?_
          refine Lq (q_move rfl) ?_
          refine Lq (q_move rfl) ?_
          refine Lq (q_eql rfl rfl) ?_
          refine WL_nil (thenN ?_)
          refine WC_cond rfl (fun h30 => ?_) (fun h30 => ?_)
          · refine WC_seq (WC_region ?_)
            refine Lq (q_move rfl) ?_
            refine Lq (q_field (o' := 0) Tryd.underlying31 rfl ti28 rfl rfl) ?_
            refine Lq (q_field (o' := 0) Tryd.underlying28 rfl ti25 rfl rfl) ?_
            refine Lq (q_loadN (vs := [_, _]) Tryd.underlying25 rfl ti25 rfl (ownS (ownS (ownS (own0)))) rfl rfl) ?_
            refine WL_main rfl (OW_slice1 (cs := [_, _]) Tryd.underlying56 ti25 (by decide) (by decide) rfl rfl rfl rfl (by decide) fun b35 => ?_)
            refine WL_main rfl (OW_append1 (news := [_, _]) Tryd.underlying56 ti25 rfl (by decide) rfl rfl hI.r1 own0 rfl rfl (by omega) (by unfold maxLen; omega) (by decide) (DelAt.perm (.s (.z))) fun v36 p36 hr36 => ?_)
            refine Lq (q_assign rfl) ?_
            refine WL_nil (thenN (WC_seq (WC_region ?_)))
            refine Lq (q_move rfl) ?_
            refine Lq (q_move rfl) ?_
            refine WL_main rfl (OW_slice1 (cs := [_]) Tryd.underlying57 ti3 (by decide) (by decide) rfl rfl rfl rfl (by decide) fun b39 => ?_)
            refine WL_main rfl (OW_append1 (news := [_]) Tryd.underlying57 ti3 rfl (by decide) rfl rfl hI.r2 own0 rfl rfl (by omega) (by unfold maxLen; omega) (by decide) (DelAt.perm (.s (.s (.s (.z))))) fun v40 p40 hr40 => ?_)
            refine Lq (q_assign rfl) ?_
            refine WL_nil (thenN (WC_region ?_))
            refine Lq (q_move rfl) ?_
            refine Lq (q_field (o' := 4) Tryd.underlying31 rfl ti9 rfl rfl) ?_
            refine Lq (q_load1 Tryd.underlying9 rfl rfl (ownS (ownS (ownS (ownS (ownS (own0)))))) rfl) ?_
            refine WL_main rfl (OW_slice1 (cs := [_]) Tryd.underlying58 ti9 (by decide) (by decide) rfl rfl rfl rfl (by decide) fun b44 => ?_)
            refine WL_main rfl (OW_append1 (news := [_]) Tryd.underlying58 ti9 rfl (by decide) rfl rfl hI.r3 own0 rfl rfl (by omega) (by unfold maxLen; omega) (by decide) (DelAt.perm (.s (.s (.s (.s (.s (.z))))))) fun v45 p45 hr45 => ?_)
            refine Lq (q_assign rfl) ?_
            refine WL_nil (thenN (WC_seq (WC_region ?_)))
            refine Lq (q_move rfl) ?_
            refine Lq (q_move rfl) ?_
            refine Lq (q_nil rfl) ?_
            refine Lq (q_field (o' := 2) Tryd.underlying61 rfl ti56 rfl rfl) ?_
            refine Lq (q_load1 Tryd.underlying56 rfl rfl (ownS (ownS (ownS (ownS (ownS (ownS (ownS (own0)))))))) rfl) ?_
            refine Lq (q_len Tryd.underlying56 rfl) ?_
            refine Lq (q_lss rfl rfl) ?_
            refine WL_nil (thenN ?_)
            refine WC_cond rfl (fun h52 => ?_) (fun h52 => ?_)
            · refine WC_seq ?_
              have hk1 : k < ids.length := by simp only [decide_eq_true_eq] at h52; omega
              have hk2 : k < ks.length := by omega
              have hk3 : k < ts.length := by omega
              refine WC_elem (k := k) (.head _) (List.getElem?_eq_getElem hk1) (id_open _) fun b17 q17 y17 e17 => ?_
              cases e17
              refine WC_region ?_
              refine Lq (q_move rfl) ?_
              refine Lq (q_move rfl) ?_
              refine Lq (q_nil rfl) ?_
              refine Lq (q_field (o' := 2) Tryd.underlying61 rfl ti56 rfl rfl) ?_
              refine Lq (q_load1 Tryd.underlying56 rfl rfl (ownS (ownS (ownS (ownS (ownS (ownS (ownS (own0)))))))) rfl) ?_
              refine Lq (q_move rfl) ?_
              refine Lq (q_idxRd Tryd.underlying56 ti25 rfl rfl (by omega) (by omega)) ?_
              refine Lq (q_loadFN (k := 0) (vs := [_, _]) Tryd.underlying25 rfl ti25 rfl (.head _) rfl rfl rfl) ?_
              refine WL_main rfl (OW_slice1 (cs := [_, _]) Tryd.underlying56 ti25 (by decide) (by decide) rfl rfl rfl rfl (by decide) fun b61 => ?_)
              refine WL_main rfl (OW_append1 (news := [_, _]) Tryd.underlying56 ti25 rfl (by decide) rfl rfl hr36 own0 rfl rfl (by omega) (by unfold maxLen; omega) (by decide) (DelAt.perm (.s (.s (.s (.s (.s (.z))))))) fun v62 p62 hr62 => ?_)
              refine Lq (q_assign rfl) ?_
              refine WL_nil (thenN (WC_seq ?_))
              refine WC_elem (k := k) (.tail _ (.tail _ (.head _))) (List.getElem?_eq_getElem hk2) (i64_open _) fun b18 q18 y18 e18 => ?_
              cases e18
              refine WC_region ?_
              refine Lq (q_move rfl) ?_
              refine Lq (q_move rfl) ?_
              refine Lq (q_nil rfl) ?_
              refine Lq (q_field (o' := 3) Tryd.underlying61 rfl ti57 rfl rfl) ?_
              refine Lq (q_load1 Tryd.underlying57 rfl rfl (ownS (ownS (ownS (ownS (ownS (ownS (ownS (ownS (own0))))))))) rfl) ?_
              refine Lq (q_move rfl) ?_
              refine Lq (q_idxRd Tryd.underlying57 ti3 rfl rfl (by omega) (by omega)) ?_
              refine Lq (q_loadF1 (j := 0) Tryd.underlying3 rfl rfl (.head _) rfl rfl) ?_
              refine WL_main rfl (OW_slice1 (cs := [_]) Tryd.underlying57 ti3 (by decide) (by decide) rfl rfl rfl rfl (by decide) fun b71 => ?_)
              refine WL_main rfl (OW_append1 (news := [_]) Tryd.underlying57 ti3 rfl (by decide) rfl rfl hr40 own0 rfl rfl (by omega) (by unfold maxLen; omega) (by decide) (DelAt.perm (.s (.s (.s (.s (.s (.z))))))) fun v72 p72 hr72 => ?_)
              refine Lq (q_assign rfl) ?_
              refine WL_nil (thenN ?_)
              refine WC_elem (k := k) (.tail _ (.tail _ (.tail _ (.tail _ (.head _))))) (List.getElem?_eq_getElem hk3) (str_open _) fun b19 q19 y19 e19 => ?_
              cases e19
              refine WC_region ?_
              refine Lq (q_move rfl) ?_
              refine Lq (q_move rfl) ?_
              refine Lq (q_nil rfl) ?_
              refine Lq (q_field (o' := 4) Tryd.underlying61 rfl ti58 rfl rfl) ?_
              refine Lq (q_load1 Tryd.underlying58 rfl rfl (ownS (ownS (ownS (ownS (ownS (ownS (ownS (ownS (ownS (own0)))))))))) rfl) ?_
              refine Lq (q_move rfl) ?_
              refine Lq (q_idxRd Tryd.underlying58 ti9 rfl rfl (by omega) (by omega)) ?_
              refine Lq (q_loadF1 (j := 0) Tryd.underlying9 rfl rfl (.head _) rfl rfl) ?_
              refine WL_main rfl (OW_slice1 (cs := [_]) Tryd.underlying58 ti9 (by decide) (by decide) rfl rfl rfl rfl (by decide) fun b81 => ?_)
              refine WL_main rfl (OW_append1 (news := [_]) Tryd.underlying58 ti9 rfl (by decide) rfl rfl hr45 own0 rfl rfl (by omega) (by unfold maxLen; omega) (by decide) (DelAt.perm (.s (.s (.s (.s (.s (.z))))))) fun v82 p82 hr82 => ?_)
              refine Lq (q_assign rfl) ?_
              refine WL_nil (blockN (thenN ?_))
              refine WC_pick (.z) ?_
              refine WC_pick (.s (.s (.z))) ?_
              refine WC_pick (.s (.s (.s (.s (.z))))) ?_
              have hki : k = i := by have := beq_iff_eq.1 h30; omega
              rw [if_pos hki, List.getElem?_eq_getElem hk1] at e1
              simp only [List.nil_append, List.append_nil, ← List.append_assoc] at e1
              rw [if_pos hki, List.getElem?_eq_getElem hk2] at e2
              simp only [List.nil_append, List.append_nil, ← List.append_assoc] at e2
              rw [if_pos hki, List.getElem?_eq_getElem hk3] at e3
              simp only [List.nil_append, List.append_nil, ← List.append_assoc] at e3
              refine WC_region ?_
              refine Lq (q_move rfl) ?_
              refine Lq (q_add rfl rfl (wr64 (by omega)) (c := ((k + 1 : Nat) : Int))) ?_
              refine Lq (q_assign rfl) ?_
              refine WL_nil (thenK ?_)
              refine ⟨(k + 1, v62, p62, v72, p72, v82, p82), ?_, (.cons rfl (.cons rfl (.cons rfl (.cons rfl (.cons rfl (.cons rfl (.cons rfl (.cons rfl (.nil _))))))))), (List.Sublist.cons_cons _ (List.Sublist.cons_cons _ (List.Sublist.cons_cons _ (List.Sublist.cons _ (List.Sublist.cons _ (List.Sublist.cons _ (List.Sublist.cons _ (List.Sublist.cons _ (List.Sublist.cons _ (List.Sublist.cons_cons _ (List.Sublist.cons_cons _ (List.Sublist.refl _)))))))))))), (fun _ h => .tail _ (.tail _ (.tail _ h)))⟩
              exact ⟨by show ids.length + 1 - (k + 1) < ids.length + 1 - k; omega, by show k + 1 ≤ ids.length + 1; omega, by rw [e1]; simp only [List.length_append, flatC_append, flatC_one]; exact hr62, by rw [e2]; simp only [List.length_append, ints_append]; exact hr72, by rw [e3]; simp only [List.length_append, strs_append]; exact hr82⟩
            · refine WC_skip (blockN (thenN ?_))
              refine WC_pick (.z) ?_
              refine WC_pick (.s (.s (.z))) ?_
              refine WC_pick (.s (.s (.s (.s (.z))))) ?_
              have hki : k = i := by have := beq_iff_eq.1 h30; omega
              rw [if_pos hki, List.getElem?_eq_none (by simp only [decide_eq_false_iff_not] at h52; omega)] at e1
              simp only [List.nil_append, List.append_nil, ← List.append_assoc] at e1
              rw [if_pos hki, List.getElem?_eq_none (by simp only [decide_eq_false_iff_not] at h52; omega)] at e2
              simp only [List.nil_append, List.append_nil, ← List.append_assoc] at e2
              rw [if_pos hki, List.getElem?_eq_none (by simp only [decide_eq_false_iff_not] at h52; omega)] at e3
              simp only [List.nil_append, List.append_nil, ← List.append_assoc] at e3
              refine WC_region ?_
              refine Lq (q_move rfl) ?_
              refine Lq (q_add rfl rfl (wr64 (by omega)) (c := ((k + 1 : Nat) : Int))) ?_
              refine Lq (q_assign rfl) ?_
              refine WL_nil (thenK ?_)
              refine ⟨(k + 1, v36, p36, v40, p40, v45, p45), ?_, (.cons rfl (.cons rfl (.cons rfl (.cons rfl (.cons rfl (.cons rfl (.cons rfl (.cons rfl (.nil _))))))))), (List.Sublist.cons_cons _ (List.Sublist.cons_cons _ (List.Sublist.cons_cons _ (List.Sublist.cons _ (List.Sublist.cons _ (List.Sublist.cons _ (List.Sublist.cons_cons _ (List.Sublist.cons_cons _ (List.Sublist.refl _))))))))), (fun _ h => h)⟩
              exact ⟨by show ids.length + 1 - (k + 1) < ids.length + 1 - k; omega, by show k + 1 ≤ ids.length + 1; omega, by rw [e1]; simp only [List.length_append, flatC_append, flatC_one]; exact hr36, by rw [e2]; simp only [List.length_append, ints_append]; exact hr40, by rw [e3]; simp only [List.length_append, strs_append]; exact hr45⟩
          · refine WC_skip (thenN (WC_seq (WC_region ?_)))
            refine Lq (q_move rfl) ?_
            refine Lq (q_move rfl) ?_
            refine Lq (q_nil rfl) ?_
            refine Lq (q_field (o' := 2) Tryd.underlying61 rfl ti56 rfl rfl) ?_
            refine Lq (q_load1 Tryd.underlying56 rfl rfl (ownS (ownS (ownS (ownS (own0))))) rfl) ?_
            refine Lq (q_len Tryd.underlying56 rfl) ?_
            refine Lq (q_lss rfl rfl) ?_
            refine WL_nil (thenN ?_)
            refine WC_cond rfl (fun h52 => ?_) (fun h52 => ?_)
            · refine WC_seq ?_
              have hk1 : k < ids.length := by simp only [decide_eq_true_eq] at h52; omega
              have hk2 : k < ks.length := by omega
              have hk3 : k < ts.length := by omega
              refine WC_elem (k := k) (.head _) (List.getElem?_eq_getElem hk1) (id_open _) fun b17 q17 y17 e17 => ?_
              cases e17
              refine WC_region ?_
              refine Lq (q_move rfl) ?_
              refine Lq (q_move rfl) ?_
              refine Lq (q_nil rfl) ?_
              refine Lq (q_field (o' := 2) Tryd.underlying61 rfl ti56 rfl rfl) ?_
              refine Lq (q_load1 Tryd.underlying56 rfl rfl (ownS (ownS (ownS (ownS (own0))))) rfl) ?_
              refine Lq (q_move rfl) ?_
              refine Lq (q_idxRd Tryd.underlying56 ti25 rfl rfl (by omega) (by omega)) ?_
              refine Lq (q_loadFN (k := 0) (vs := [_, _]) Tryd.underlying25 rfl ti25 rfl (.head _) rfl rfl rfl) ?_
              refine WL_main rfl (OW_slice1 (cs := [_, _]) Tryd.underlying56 ti25 (by decide) (by decide) rfl rfl rfl rfl (by decide) fun b61 => ?_)
              refine WL_main rfl (OW_append1 (news := [_, _]) Tryd.underlying56 ti25 rfl (by decide) rfl rfl hI.r1 own0 rfl rfl (by omega) (by unfold maxLen; omega) (by decide) (DelAt.perm (.s (.z))) fun v62 p62 hr62 => ?_)
              refine Lq (q_assign rfl) ?_
              refine WL_nil (thenN (WC_seq ?_))
              refine WC_elem (k := k) (.tail _ (.tail _ (.head _))) (List.getElem?_eq_getElem hk2) (i64_open _) fun b18 q18 y18 e18 => ?_
              cases e18
              refine WC_region ?_
              refine Lq (q_move rfl) ?_
              refine Lq (q_move rfl) ?_
              refine Lq (q_nil rfl) ?_
              refine Lq (q_field (o' := 3) Tryd.underlying61 rfl ti57 rfl rfl) ?_
              refine Lq (q_load1 Tryd.underlying57 rfl rfl (ownS (ownS (ownS (ownS (ownS (own0)))))) rfl) ?_
              refine Lq (q_move rfl) ?_
              refine Lq (q_idxRd Tryd.underlying57 ti3 rfl rfl (by omega) (by omega)) ?_
              refine Lq (q_loadF1 (j := 0) Tryd.underlying3 rfl rfl (.head _) rfl rfl) ?_
              refine WL_main rfl (OW_slice1 (cs := [_]) Tryd.underlying57 ti3 (by decide) (by decide) rfl rfl rfl rfl (by decide) fun b71 => ?_)
              refine WL_main rfl (OW_append1 (news := [_]) Tryd.underlying57 ti3 rfl (by decide) rfl rfl hI.r2 own0 rfl rfl (by omega) (by unfold maxLen; omega) (by decide) (DelAt.perm (.s (.s (.s (.z))))) fun v72 p72 hr72 => ?_)
              refine Lq (q_assign rfl) ?_
              refine WL_nil (thenN ?_)
              refine WC_elem (k := k) (.tail _ (.tail _ (.tail _ (.tail _ (.head _))))) (List.getElem?_eq_getElem hk3) (str_open _) fun b19 q19 y19 e19 => ?_
              cases e19
              refine WC_region ?_
              refine Lq (q_move rfl) ?_
              refine Lq (q_move rfl) ?_
              refine Lq (q_nil rfl) ?_
              refine Lq (q_field (o' := 4) Tryd.underlying61 rfl ti58 rfl rfl) ?_
              refine Lq (q_load1 Tryd.underlying58 rfl rfl (ownS (ownS (ownS (ownS (ownS (ownS (own0))))))) rfl) ?_
              refine Lq (q_move rfl) ?_
              refine Lq (q_idxRd Tryd.underlying58 ti9 rfl rfl (by omega) (by omega)) ?_
              refine Lq (q_loadF1 (j := 0) Tryd.underlying9 rfl rfl (.head _) rfl rfl) ?_
              refine WL_main rfl (OW_slice1 (cs := [_]) Tryd.underlying58 ti9 (by decide) (by decide) rfl rfl rfl rfl (by decide) fun b81 => ?_)
              refine WL_main rfl (OW_append1 (news := [_]) Tryd.underlying58 ti9 rfl (by decide) rfl rfl hI.r3 own0 rfl rfl (by omega) (by unfold maxLen; omega) (by decide) (DelAt.perm (.s (.s (.s (.s (.s (.z))))))) fun v82 p82 hr82 => ?_)
              refine Lq (q_assign rfl) ?_
              refine WL_nil (blockN (thenN ?_))
              refine WC_pick (.z) ?_
              refine WC_pick (.s (.s (.z))) ?_
              refine WC_pick (.s (.s (.s (.s (.z))))) ?_
              have hki : k ≠ i := fun e => by rw [e] at h30; simp at h30
              rw [if_neg hki, List.getElem?_eq_getElem hk1] at e1
              simp only [List.nil_append, List.append_nil, ← List.append_assoc] at e1
              rw [if_neg hki, List.getElem?_eq_getElem hk2] at e2
              simp only [List.nil_append, List.append_nil, ← List.append_assoc] at e2
              rw [if_neg hki, List.getElem?_eq_getElem hk3] at e3
              simp only [List.nil_append, List.append_nil, ← List.append_assoc] at e3
              refine WC_region ?_
              refine Lq (q_move rfl) ?_
              refine Lq (q_add rfl rfl (wr64 (by omega)) (c := ((k + 1 : Nat) : Int))) ?_
              refine Lq (q_assign rfl) ?_
              refine WL_nil (thenK ?_)
              refine ⟨(k + 1, v62, p62, v72, p72, v82, p82), ?_, (.cons rfl (.cons rfl (.cons rfl (.cons rfl (.cons rfl (.cons rfl (.cons rfl (.cons rfl (.nil _))))))))), (List.Sublist.cons_cons _ (List.Sublist.cons_cons _ (List.Sublist.cons_cons _ (List.Sublist.cons _ (List.Sublist.cons _ (List.Sublist.cons _ (List.Sublist.cons_cons _ (List.Sublist.cons_cons _ (List.Sublist.refl _))))))))), (fun _ h => .tail _ (.tail _ (.tail _ h)))⟩
              exact ⟨by show ids.length + 1 - (k + 1) < ids.length + 1 - k; omega, by show k + 1 ≤ ids.length + 1; omega, by rw [e1]; simp only [List.length_append, flatC_append, flatC_one]; exact hr62, by rw [e2]; simp only [List.length_append, ints_append]; exact hr72, by rw [e3]; simp only [List.length_append, strs_append]; exact hr82⟩
            · refine WC_skip (blockN (thenN ?_))
              refine WC_pick (.s (.s (.z))) ?_
              refine WC_pick (.s (.s (.z))) ?_
              refine WC_pick (.s (.s (.z))) ?_
              have hki : k ≠ i := fun e => by rw [e] at h30; simp at h30
              rw [if_neg hki, List.getElem?_eq_none (by simp only [decide_eq_false_iff_not] at h52; omega)] at e1
              simp only [List.nil_append, List.append_nil, ← List.append_assoc] at e1
              rw [if_neg hki, List.getElem?_eq_none (by simp only [decide_eq_false_iff_not] at h52; omega)] at e2
              simp only [List.nil_append, List.append_nil, ← List.append_assoc] at e2
              rw [if_neg hki, List.getElem?_eq_none (by simp only [decide_eq_false_iff_not] at h52; omega)] at e3
              simp only [List.nil_append, List.append_nil, ← List.append_assoc] at e3
              refine WC_region ?_
              refine Lq (q_move rfl) ?_
              refine Lq (q_add rfl rfl (wr64 (by omega)) (c := ((k + 1 : Nat) : Int))) ?_
              refine Lq (q_assign rfl) ?_
              refine WL_nil (thenK ?_)
              refine ⟨(k + 1, w1, p1, w2, p2, w3, p3), ?_, (.cons rfl (.cons rfl (.cons rfl (.cons rfl (.cons rfl (.cons rfl (.cons rfl (.cons rfl (.nil _))))))))), (List.Sublist.cons_cons _ (List.Sublist.cons_cons _ (List.Sublist.cons_cons _ (List.Sublist.cons_cons _ (List.Sublist.cons_cons _ (List.Sublist.refl _)))))), (fun _ h => h)⟩
              exact ⟨by show ids.length + 1 - (k + 1) < ids.length + 1 - k; omega, by show k + 1 ≤ ids.length + 1; omega, by rw [e1]; exact hI.r1, by rw [e2]; exact hI.r2, by rw [e3]; exact hI.r3⟩
        · refine WC_exit (thenExit (thenExit (blockHit (thenN (WC_seq ?_)))))
          have hkd : ids.length < k := by simp only [decide_eq_false_iff_not] at h25; omega
          have d1 := preI_done (x := (o.c, o.n)) hi hkd
          have d2 := preI_done (x := z) (l := ks) (i := i) (k := k) (by omega) (by omega)
          have d3 := preI_done (x := o.text) (l := ts) (i := i) (k := k) (by omega) (by omega)
          have q1 := hI.r1
          have q2 := hI.r2
          have q3 := hI.r3
          rw [d1] at q1
          rw [d2] at q2
          rw [d3] at q3
          refine WC_fact (A := RepsF idD (insAt ids i (o.c, o.n)) ((insAt ids i (o.c, o.n)).map (idC))) (fun Z w _ => reps_of (f := idC) (fun _ _ _ => rfl) _ Z w) ?_
          refine WC_freeze (e := idD) (xs := (insAt ids i (o.c, o.n))) (css := ((insAt ids i (o.c, o.n)).map (idC))) q1 (.z) rfl (.head _) fun A91 c91 e91 => ?_
          cases e91
          refine WC_fact (A := RepsF (De.int .i64) (insAt ks i z) ((insAt ks i z).map (fun x => [Value.int .i64 x]))) (fun Z w _ => reps_of (f := fun x => [Value.int .i64 x]) (fun _ _ _ => rfl) _ Z w) ?_
          refine WC_freeze (e := (De.int .i64)) (xs := (insAt ks i z)) (css := ((insAt ks i z).map (fun x => [Value.int .i64 x]))) (by rw [ints_flat]; exact q2) (.z) rfl (.head _) fun A92 c92 e92 => ?_
          cases e92
          refine WC_fact (A := RepsF De.str (insAt ts i o.text) ((insAt ts i o.text).map (fun x => [Value.string x]))) (fun Z w _ => reps_of (f := fun x => [Value.string x]) (fun _ _ _ => rfl) _ Z w) ?_
          refine WC_freeze (e := De.str) (xs := (insAt ts i o.text)) (css := ((insAt ts i o.text).map (fun x => [Value.string x]))) (by rw [strs_flat]; exact q3) (.z) rfl (.head _) fun A93 c93 e93 => ?_
          cases e93
          have hl1 := insAt_length (o.c, o.n) hi
          have hl2 := insAt_length (l := ks) z (show i ≤ ks.length by omega)
          have hl3 := insAt_length (l := ts) o.text (show i ≤ ts.length by omega)
          rw [hk2] at hl2
          rw [hk3] at hl3
          rw [hl1, hl2, hl3]
          refine WC_region ?_
          refine Lq (q_move rfl) ?_
          refine Lq (q_move rfl) ?_
          refine Lq (q_nil rfl) ?_
          refine Lq (q_field (o' := 2) Tryd.underlying61 rfl ti56 rfl rfl) ?_
          refine WL_main rfl (OW_store1 ti56 rfl rfl rfl (.s (.s (.z))) (.s (.z)) ?_)
          refine WL_nil (thenN (WC_seq (WC_region ?_)))
          refine Lq (q_move rfl) ?_
          refine Lq (q_move rfl) ?_
          refine Lq (q_nil rfl) ?_
          refine Lq (q_field (o' := 3) Tryd.underlying61 rfl ti57 rfl rfl) ?_
          refine WL_main rfl (OW_store1 ti57 rfl rfl rfl (.s (.s (.s (.z)))) (.s (.z)) ?_)
          refine WL_nil (thenN (WC_seq (WC_region ?_)))
          refine Lq (q_move rfl) ?_
          refine Lq (q_move rfl) ?_
          refine Lq (q_nil rfl) ?_
          refine Lq (q_field (o' := 4) Tryd.underlying61 rfl ti58 rfl rfl) ?_
          refine WL_main rfl (OW_store1 ti58 rfl rfl rfl (.s (.s (.s (.s (.z))))) (.s (.z)) ?_)
          refine WL_nil (thenN (WC_seq ?_))
          refine WC_draw _ _ [] (.c 0 0 (.c 1 0 (.c 2 0 (.c 3 0 (.c 4 0 (.c 5 0 (.c 6 0 (.c 7 0 (.c 8 0 (.c 9 0 (.c 10 0 (.c 11 0 (.c 12 0 (.c 13 0 .nil)))))))))))))) mixed (fun _ _ _ _ h => h) (List.Sublist.cons_cons _ (List.Sublist.cons_cons _ (List.Sublist.refl _))) (fun _ h => h) (by kernel_rfl) (by decide) fun ws Z0 => ?_
          refine Qe rfl (q_field (o' := 0) Tryd.underlying31 rfl ti28 rfl rfl) ?_
          refine Qe rfl (q_field (o' := 0) Tryd.underlying28 rfl ti25 rfl rfl) ?_
          refine Qe rfl (q_idxA (o' := 1) Tryd.underlying25 ti3 rfl rfl (by decide) (by decide) rfl) ?_
          refine Qe rfl (q_load1 Tryd.underlying3 rfl rfl own0 rfl) ?_
          refine Qe rfl (q_move rfl) ?_
          refine Qe rfl (q_field (o' := 0) Tryd.underlying31 rfl ti28 rfl rfl) ?_
          refine Qe rfl (q_field (o' := 0) Tryd.underlying28 rfl ti25 rfl rfl) ?_
          refine Qe rfl (q_idxA (o' := 0) Tryd.underlying25 ti3 rfl rfl (by decide) (by decide) rfl) ?_
          refine Qe rfl (q_load1 Tryd.underlying3 rfl rfl own0 rfl) ?_
          refine Qe rfl (q_nil rfl) ?_
          refine Qe rfl (q_field (o' := 5) Tryd.underlying61 rfl ti59 rfl rfl) ?_
          refine Qe rfl (q_idxA Tryd.underlying59 ti3 rfl rfl (by omega) (by omega) rfl) ?_
          refine Qe rfl (q_load1 Tryd.underlying3 rfl rfl (ownS (own0)) (vw_nextI hx)) ?_
          refine Qe rfl (q_gtr rfl rfl) ?_
          refine WE_end (WF_nil ?_)
          refine thenN ?_
          refine WC_fr [(108, _), (0, _), (5, _)] (.cons rfl (.cons rfl (.cons rfl (.nil _)))) ?_
          refine WC_cond rfl (fun h108 => ?_) (fun h108 => ?_)
          · refine WC_draw _ _ [12] (.c 0 0 (.c 1 0 (.c 2 0 (.c 3 0 (.c 4 0 (.c 5 0 (.c 6 0 (.c 7 0 (.c 8 0 (.c 9 0 (.c 10 0 (.c 11 0 (.c 12 3 .nil))))))))))))) mixed (fun _ _ _ _ h => h) (List.Sublist.cons_cons _ (List.Sublist.cons_cons _ (List.Sublist.refl _))) (fun _ h => h) (by kernel_rfl) (by decide) fun ws Z0 => ?_
            refine Qe rfl (q_move rfl) ?_
            refine Qe rfl (q_field (o' := 0) Tryd.underlying31 rfl ti28 rfl rfl) ?_
            refine Qe rfl (q_field (o' := 0) Tryd.underlying28 rfl ti25 rfl rfl) ?_
            refine Qe rfl (q_idxA (o' := 0) Tryd.underlying25 ti3 rfl rfl (by decide) (by decide) rfl) ?_
            refine Qe rfl (q_load1 Tryd.underlying3 rfl rfl own0 rfl) ?_
            refine Qe rfl (q_field (o' := 0) Tryd.underlying31 rfl ti28 rfl rfl) ?_
            refine Qe rfl (q_field (o' := 0) Tryd.underlying28 rfl ti25 rfl rfl) ?_
            refine Qe rfl (q_idxA (o' := 1) Tryd.underlying25 ti3 rfl rfl (by decide) (by decide) rfl) ?_
            refine Qe rfl (q_load1 Tryd.underlying3 rfl rfl own0 rfl) ?_
            refine Qe rfl (q_nil rfl) ?_
            refine Qe rfl (q_field (o' := 5) Tryd.underlying61 rfl ti59 rfl rfl) ?_
            refine Qe rfl (q_idxA Tryd.underlying59 ti3 rfl rfl (by omega) (by omega) rfl) ?_
            refine WE_end (WF_last rfl rfl (OW_storeC ti3 rfl rfl rfl (by simp only [List.length_cons, ints, List.length_map]; omega) (.s (.z)) ?_))
            refine WF_nil ?_
            have hnx : nxF nx o.c o.n = nx.set o.c.toNat o.n := by unfold nxF; rw [List.getD_eq_getElem?_getD, hx]; exact if_pos (by simpa using h108)
            rw [vw_setI]
            refine ⟨_, [_], [_, _, _], fun Z w hs => .nil, ?_, fun Z w hs => hs.out (List.Sublist.cons _ (List.Sublist.cons_cons _ (List.Sublist.refl _))) (memc (.tail _ (.tail _ (.tail _ (.tail _ (.tail _ (.tail _ (.head _))))))) (memc (.tail _ (.tail _ (.tail _ (.tail _ (.head _))))) (memc (.tail _ (.tail _ (.head _))) (fun _ h => .tail _ (.tail _ (.tail _ (.tail _ (.tail _ (.tail _ (.tail _ (.tail _ h)))))))))))⟩
            exact ⟨A91, c91, A92, c92, A93, c93, rfl, by rw [hnx], by rw [hz6]⟩
          · refine WC_skip ?_
            have hnx : nxF nx o.c o.n = nx := by unfold nxF; rw [List.getD_eq_getElem?_getD, hx]; exact if_neg (by simpa using h108)
            refine ⟨_, [_], [_, _, _], fun Z w hs => .nil, ?_, fun Z w hs => hs.out (List.Sublist.cons _ (List.Sublist.cons_cons _ (List.Sublist.refl _))) (memc (.tail _ (.tail _ (.tail _ (.tail _ (.tail _ (.head _)))))) (memc (.tail _ (.tail _ (.tail _ (.head _)))) (memc (.tail _ (.head _)) (fun _ h => .tail _ (.tail _ (.tail _ (.tail _ (.tail _ (.tail _ (.tail _ h))))))))))⟩
            exact ⟨A91, c91, A92, c92, A93, c93, rfl, by rw [hnx], by rw [hz6]⟩

end Go.Proofs.YtggdddkbhigjoaaDoor
/- A command that a view takes, plain: all that the walk asks. -/
namespace Go.Proofs.YtggdddkbhigjoaaDoor
open Go Go.GW
structure Tk (H : Hist) (X : List Ce) (n i : Nat) (o : GOp) (H2 : Hist) (eff : GOp) : Prop where
  put : putF H i o = (H2, eff, 0)
  ids : insAt (idsOf H.ents) i (o.c, o.n) = idsOf H2.ents
  ks : insAt (kindsOf H.ents) i (kindN o) = kindsOf H2.ents
  ts : insAt (textsOf H.ents) i o.text = textsOf H2.ents
  len : H2.ents.length = n + 1
  tot : (cellsN ((textsOf H2.ents).take (n + 1)) : Int) = H2.total
  cb : ∀ j, cellsN ((textsOf H2.ents).take j) ≤ 60000
  app : eff.kind ≠ 0 → EffOk eff X
  noEff : eff.kind = 0 → eff = zeroOp ∧ o.kind = 4
  text : eff.text.size ≤ o.text.size
  rs : eff.rs.length ≤ 60001
theorem take_facts {N : Int} {n : Nat} {H : Hist} {X : List Ce} {nx : List Int} (h : VI N n H X nx) {i : Nat} {o : GOp} (g : Good H i o) : ∃ H2 eff, Tk H X n i o H2 eff := by
  obtain ⟨es, nw, eff, p⟩ := put_good h.hv g
  have hp := p.put
  have hv2 := put_hv h.hv g p
  have hrow := put_row h.hv g p h.rule (by rw [h.len]; have := h.le; omega)
  refine ⟨_, eff, hp, ?_, ?_, ?_, ?_, ?_, ?_, hrow.1, hrow.2.1, ?_, ?_⟩
  · have := p.noted (fun o => (o.c, o.n)) (fun a b hs => by rw [hs.c, hs.n]) h.hv g
    rw [hp] at this; exact this.symm
  · have := p.noted kindN (fun a b hs => by unfold kindN; rw [hs.kind]) h.hv g
    rw [hp] at this; exact this.symm
  · have := p.noted (·.text) (fun a b hs => hs.text) h.hv g
    rw [hp] at this; exact this.symm
  · have := p.length h.hv g
    rw [hp, h.len] at this; exact this
  · rw [cells_before hv2, before_ops, List.take_of_length_le, ← hv2.tot]
    have := p.length h.hv g
    rw [hp, h.len] at this
    unfold Hist.ops
    rw [List.length_map]; exact Nat.le_of_eq this
  · intro j
    have h1 := cells_before hv2 j
    obtain ⟨s1, s2, s3, s4⟩ := hv2.split j
    have h2 := sumO_nonneg s2
    have h3 := hv2.le
    simp only at *
    omega
  · rcases g.right.kind with hk | hk | hk
    · rw [(p.ins hk).2.2]; exact Nat.le_refl _
    · rw [(p.hide hk).2.2]; exact Nat.zero_le _
    · rw [(p.status hk).2.2]
      rcases turned_cases H i o with e | ⟨k, e, _, _, _, _, h5⟩
      · rw [e]; exact Nat.zero_le _
      · rw [h5]; exact Nat.zero_le _
  · obtain ⟨c1, c2, c3, c4, c5⟩ := cross_good h.hv g
    have ht := h.total
    have hl := h.le
    rcases g.right.kind with hk | hk | hk
    · rw [(p.ins hk).2.2]; exact Nat.zero_le _
    · rw [(p.hide hk).2.2]
      obtain ⟨t1, t2⟩ := c2.cov (c4.kind.trans hk) (by omega)
      have := t2.len (by omega)
      show (carryF o (H.ops.drop i)).1.rs.length ≤ _
      omega
    · rw [(p.status hk).2.2]
      rcases turned_cases H i o with e | ⟨k, e, _, h2, _, _, h5⟩
      · rw [e]; exact Nat.zero_le _
      · rw [h5]
        have := (h.hv.pls e (List.mem_of_getElem? h2)).len (by omega)
        show e.now.length ≤ _
        omega
theorem good_fit {N : Int} {n : Nat} {H : Hist} {X : List Ce} {nx : List Int} (h : VI N n H X nx) {i : Nat} {o : GOp} (g : Good H i o) (ht : o.text.size ≤ 1073741824) : Fit o := by
  have hl := h.le
  have htt := h.total
  have hr := h.room i
  have hrs : o.rs.length ≤ 4398046511104 := by
    by_cases hk : o.kind = 2
    · have := (g.right.cov hk (by omega)).2.len (by omega)
      omega
    · rw [g.right.noRs hk]; exact Nat.zero_le _
  have hat : 0 ≤ o.at_ ∧ o.at_ ≤ 65535 := by
    rcases g.right.kind with hk | hk | hk
    · have := g.right.ins hk; omega
    all_goals
      have hh := (g.right.head g.right.w0).2.2
      have h0 : o.at_ = 0 := by
        unfold extraF at hh
        have h1 : o.kind ≠ 1 := by omega
        rcases Int.lt_trichotomy o.at_ 0 with h2 | h2 | h2
        · exfalso; apply hh; have : o.at_ ≠ 0 := by omega
          simp [h1, this]
        · exact h2
        · exfalso; apply hh; have : o.at_ ≠ 0 := by omega
          simp [h1, this]
      omega
  exact ⟨by omega, hrs, by omega, by omega⟩
def TakeP (v h m b : Nat) (H2 : Hist) (X2 : List Ce) (nx2 : List Int) : Value → List Part → List Fact → Prop := fun u Lo fs => u = .bool true ∧ ViewAt v h m b H2 X2 nx2 Lo fs
end Go.Proofs.YtggdddkbhigjoaaDoor
/- Ranges are held against each other. -/
namespace Go.Proofs.YtggdddkbhigjoaaDoor
open Go Go.GW
theorem eq37 (a b c d : Int) : EqT Tryd.prog 37 #[.int .i64 a, .int .i64 b] #[.int .i64 c, .int .i64 d] (a == c && b == d) := ⟨by kernel_rfl, fun k w => by
  have h1 : ∀ (cs : List Value) (o : Nat) (v : Value) w, cs[o]? = some v → (part 3 cs.toArray o).run Tryd.prog w = .ok v w := fun cs o v w h => run_part1 Tryd.underlying3 rfl h
  have h2 : ∀ (x y : Int) w, (Op.equalIn (k + 8) 3 (.int .i64 x) (.int .i64 y)).run Tryd.prog w = .ok (x == y) w := fun x y w => run_equalIn_int w (k + 7) 3 .i64 .i64 x y Tryd.underlying3
  have hf : ∃ f1 f2 : Field, (Tryd.prog.fieldsOf 37).toList = [f1, f2] ∧ (f1.name ≠ "_" ∧ f1.type = 3 ∧ f1.offset = 0) ∧ (f2.name ≠ "_" ∧ f2.type = 3 ∧ f2.offset = 1) := ⟨⟨ "Lo", 3, 0, false, "", "", 0⟩, ⟨ "Hi", 3, 1, false, "", "", 8⟩, by kernel_rfl, ⟨by decide, rfl, rfl⟩, ⟨by decide, rfl, rfl⟩⟩
  obtain ⟨f1, f2, e, ⟨n1, t1, o1⟩, ⟨n2, t2, o2⟩⟩ := hf
  rw [show k + 9 = (k + 8) + 1 from rfl, run_equalIn_struct w (k + 8) 37 _ _ (by kernel_rfl) (by kernel_rfl), e]
  simp only [Op.eqFields, n1, n2, t1, t2, o1, o2, ne_eq, not_false_eq_true, if_true, Sem.run_bind, h1 [.int .i64 a, .int .i64 b] 0 _ _ rfl, h1 [.int .i64 c, .int .i64 d] 0 _ _ rfl, h1 [.int .i64 a, .int .i64 b] 1 _ _ rfl, h1 [.int .i64 c, .int .i64 d] 1 _ _ rfl, Result.andThen_ok, h2]
  cases h3 : (a == c) <;> cases h4 : (b == d) <;> simp [h1 [.int .i64 a, .int .i64 b] 1 _ _ rfl, h1 [.int .i64 c, .int .i64 d] 1 _ _ rfl, h2, h4, Op.eqFields]⟩
end Go.Proofs.YtggdddkbhigjoaaDoor
/- Walks: xform, single operations. -/
namespace Go.Proofs.YtggdddkbhigjoaaDoor
open Go Go.GW
set_option maxRecDepth 10000 in
theorem own_s (o : GOp) (A : Option Addr) (c : Nat) (hf : Fit o) : Sp Tryd.prog 69 [opV o A c] [] [barF, RdF rgD A c o.rs] (Is (.int .i64 (ownF o))) := by
  refine Sp.of (n := 23) ⟨_, Tryd.func69, rfl, rfl, rfl, rfl⟩ (Nat.le_of_ble_eq_true rfl) fun Ps As => ?_
  refine WC_seq (WC_region ?_)
  refine WL_main rfl (OW_box (cs := [_, _, _, _, _, _, _, _, _]) rfl rfl (by decide) fun b1 => ?_)
  refine Lq (q_assign rfl) ?_
  refine WL_nil (thenN (WC_seq (WC_seq (WC_region ?_))))
  refine Lq (q_field (o' := 0) Tryd.underlying31 rfl ti28 rfl rfl) ?_
  refine Lq (q_field (o' := 2) Tryd.underlying28 rfl ti26 rfl rfl) ?_
  refine Lq (q_load1 Tryd.underlying26 rfl rfl own0 rfl) ?_
  refine Lq (q_eql rfl rfl) ?_
  refine Lq (q_move rfl) ?_
  refine WL_guard (t := 7) rfl (fun g7 => ?_) (fun g7 => ?_)
  · refine Lg rfl rfl rfl g7 (q_field (o' := 3) Tryd.underlying31 rfl ti3 rfl rfl) ?_
    refine Lg rfl rfl rfl g7 (q_load1 Tryd.underlying3 rfl rfl own0 rfl) ?_
    refine Lg rfl rfl rfl g7 (q_geq rfl rfl) ?_
    refine Lq (q_pickT rfl g7 rfl) ?_
    refine Lq (q_move rfl) ?_
    refine WL_guard (t := 12) rfl (fun g12 => ?_) (fun g12 => ?_)
    · refine Lg rfl rfl rfl g12 (q_field (o' := 3) Tryd.underlying31 rfl ti3 rfl rfl) ?_
      refine Lg rfl rfl rfl g12 (q_load1 Tryd.underlying3 rfl rfl own0 rfl) ?_
      refine Lg rfl rfl rfl g12 (q_leq rfl rfl) ?_
      refine Lq (q_pickT rfl g12 rfl) ?_
      refine WL_nil (thenN ?_)
      refine WC_fr [(16, _), (2, _), (1, _)] (.cons rfl (.cons rfl (.cons rfl (.nil _)))) ?_
      refine WC_cond rfl (fun h16 => ?_) (fun h16 => ?_)
      · refine WC_seq (WC_region ?_)
        refine Lq (q_loadN (vs := [_, _, _, _, _, _, _, _, _]) Tryd.underlying31 rfl ti31 rfl own0 rfl rfl) ?_
        refine Lq (q_field (o' := 3) Tryd.underlying31 rfl ti3 rfl rfl) ?_
        refine Lq (q_load1 Tryd.underlying3 rfl rfl own0 rfl) ?_
        refine WL_main rfl (OW_call0 (opCheck_s o A c o.at_ (by have := hf.text; omega) hf.rs) (.cons rfl (.cons rfl (.nil))) (by decide) (memc (.head _) (memc (.tail _ (.head _)) mem0)) fun u2_3 Lo fs hres => ?_)
        obtain ⟨rfl, rfl, rfl⟩ := hres
        refine Lq (q_assign rfl) ?_
        refine WL_nil (thenN (WC_ret (thenRet ?_)))
        refine ⟨_, [], [], fun Z w hs => .tmp rfl (.nil), ?_, fun Z w hs => hs.out (List.Sublist.cons _ (List.Sublist.refl _)) (fun _ h => h)⟩
        try simp only [Bq0, Bq1, Bq2, Bq3, Bq4, Bq5, Bq6, Bq7, Bq8, Bq9, Bq10, Bq11, Bq12] at *
        exact ⟨congrArg (Value.int .i64) (by unfold ownF; first | (simp_all; done) | (simp_all; intros; omega) | (simp_all; repeat' split; all_goals omega) | (repeat' split; all_goals first | rfl | omega)), rfl, rfl⟩
      · refine WC_skip (thenN (WC_seq (WC_region ?_)))
        refine Lq (q_loadN (vs := [_, _, _, _, _, _, _, _, _]) Tryd.underlying31 rfl ti31 rfl own0 rfl rfl) ?_
        refine WL_main rfl (OW_call0 (opCheck_s o A c 1048576 (by have := hf.text; omega) hf.rs) (.cons rfl (.cons rfl (.nil))) (by decide) (memc (.head _) (memc (.tail _ (.head _)) mem0)) fun u3_1 Lo fs hres => ?_)
        obtain ⟨rfl, rfl, rfl⟩ := hres
        refine Lq (q_assign rfl) ?_
        refine WL_nil (thenN (WC_ret ?_))
        refine ⟨_, [], [], fun Z w hs => .tmp rfl (.nil), ?_, fun Z w hs => hs.out (List.Sublist.cons _ (List.Sublist.refl _)) (fun _ h => h)⟩
        try simp only [Bq0, Bq1, Bq2, Bq3, Bq4, Bq5, Bq6, Bq7, Bq8, Bq9, Bq10, Bq11, Bq12] at *
        exact ⟨congrArg (Value.int .i64) (by unfold ownF; first | (simp_all; done) | (simp_all; intros; omega) | (simp_all; repeat' split; all_goals omega) | (repeat' split; all_goals first | rfl | omega)), rfl, rfl⟩
    · refine Ln rfl rfl rfl g12 ?_
      refine Ln rfl rfl rfl g12 ?_
      refine Ln rfl rfl rfl g12 ?_
      refine Lq (q_pickF rfl g12 rfl) ?_
      refine WL_nil (thenN ?_)
      refine WC_fr [(16, _), (2, _), (1, _)] (.cons rfl (.cons rfl (.cons rfl (.nil _)))) ?_
      refine WC_false rfl rfl (WC_skip (thenN (WC_seq (WC_region ?_))))
      refine Lq (q_loadN (vs := [_, _, _, _, _, _, _, _, _]) Tryd.underlying31 rfl ti31 rfl own0 rfl rfl) ?_
      refine WL_main rfl (OW_call0 (opCheck_s o A c 1048576 (by have := hf.text; omega) hf.rs) (.cons rfl (.cons rfl (.nil))) (by decide) (memc (.head _) (memc (.tail _ (.head _)) mem0)) fun u3_1 Lo fs hres => ?_)
      obtain ⟨rfl, rfl, rfl⟩ := hres
      refine Lq (q_assign rfl) ?_
      refine WL_nil (thenN (WC_ret ?_))
      refine ⟨_, [], [], fun Z w hs => .tmp rfl (.nil), ?_, fun Z w hs => hs.out (List.Sublist.cons _ (List.Sublist.refl _)) (fun _ h => h)⟩
      try simp only [Bq0, Bq1, Bq2, Bq3, Bq4, Bq5, Bq6, Bq7, Bq8, Bq9, Bq10, Bq11, Bq12] at *
      exact ⟨congrArg (Value.int .i64) (by unfold ownF; first | (simp_all; done) | (simp_all; intros; omega) | (simp_all; repeat' split; all_goals omega) | (repeat' split; all_goals first | rfl | omega)), rfl, rfl⟩
  · refine Ln rfl rfl rfl g7 ?_
    refine Ln rfl rfl rfl g7 ?_
    refine Ln rfl rfl rfl g7 ?_
    refine Lq (q_pickF rfl g7 rfl) ?_
    refine Lq (q_move rfl) ?_
    refine Ln rfl rfl rfl rfl ?_
    refine Ln rfl rfl rfl rfl ?_
    refine Ln rfl rfl rfl rfl ?_
    refine Lq (q_pickF rfl rfl rfl) ?_
    refine WL_nil (thenN ?_)
    refine WC_fr [(16, _), (2, _), (1, _)] (.cons rfl (.cons rfl (.cons rfl (.nil _)))) ?_
    refine WC_false rfl rfl (WC_skip (thenN (WC_seq (WC_region ?_))))
    refine Lq (q_loadN (vs := [_, _, _, _, _, _, _, _, _]) Tryd.underlying31 rfl ti31 rfl own0 rfl rfl) ?_
    refine WL_main rfl (OW_call0 (opCheck_s o A c 1048576 (by have := hf.text; omega) hf.rs) (.cons rfl (.cons rfl (.nil))) (by decide) (memc (.head _) (memc (.tail _ (.head _)) mem0)) fun u3_1 Lo fs hres => ?_)
    obtain ⟨rfl, rfl, rfl⟩ := hres
    refine Lq (q_assign rfl) ?_
    refine WL_nil (thenN (WC_ret ?_))
    refine ⟨_, [], [], fun Z w hs => .tmp rfl (.nil), ?_, fun Z w hs => hs.out (List.Sublist.cons _ (List.Sublist.refl _)) (fun _ h => h)⟩
    try simp only [Bq0, Bq1, Bq2, Bq3, Bq4, Bq5, Bq6, Bq7, Bq8, Bq9, Bq10, Bq11, Bq12] at *
    exact ⟨congrArg (Value.int .i64) (by unfold ownF; first | (simp_all; done) | (simp_all; intros; omega) | (simp_all; repeat' split; all_goals omega) | (repeat' split; all_goals first | rfl | omega)), rfl, rfl⟩

structure OwI (xs : List GOp) (k : Nat) : Prop where
  le : k ≤ xs.length
  eq : ownsF xs = ownsF (xs.drop k)
theorem OwI.next {xs : List GOp} {k : Nat} (h : OwI xs k) (hk : k < xs.length) (h0 : ownF xs[k] = 0) : OwI xs (k + 1) := by
  refine ⟨hk, ?_⟩
  rw [h.eq, List.drop_eq_getElem_cons hk, ownsF, if_neg (by simpa using h0)]
theorem OwI.bad {xs : List GOp} {k : Nat} (h : OwI xs k) (hk : k < xs.length) (h0 : ownF xs[k] ≠ 0) : ownsF xs = ownF xs[k] := by
  rw [h.eq, List.drop_eq_getElem_cons hk, ownsF, if_pos h0]
theorem OwI.done {xs : List GOp} {k : Nat} (h : OwI xs k) (hk : ¬ k < xs.length) : ownsF xs = 0 := by
  rw [h.eq, List.drop_eq_nil_of_le (by omega)]; rfl

set_option maxRecDepth 10000 in
theorem owns_s (A : Option Addr) (c : Nat) (xs : List GOp) (hf : ∀ o ∈ xs, Fit o) (hl : xs.length ≤ 4398046511104) : Sp Tryd.prog 46 [.slice A xs.length c] [] [barF, RdF opD A c xs] (Is (.int .i64 (ownsF xs))) := by
  refine Sp.of (n := 18) ⟨_, Tryd.func46, rfl, rfl, rfl, rfl⟩ (Nat.le_of_ble_eq_true rfl) fun Ps As => ?_
  refine WC_seq (WC_region ?_)
  refine Lq (q_assign rfl) ?_
  refine WL_nil (thenN (WC_seq (WC_seq (WC_region ?_))))
  refine Lq (q_move rfl) ?_
  refine Lq (q_len Tryd.underlying45 rfl) ?_
  refine Lq (q_move rfl) ?_
  refine WL_nil (thenN (WC_block ?_))
  refine WC_loopE (α := Nat) (fun k => xs.length - k)
    (fun k => [(6, .slice A xs.length c), (7, .int .i64 xs.length), (8, .int .i64 k)])
    (fun k => Ps)
    (fun k => (barF :: RdF opD A c xs :: As))
    (fun k => OwI xs k)
    0 ?_ (.cons rfl (.cons rfl (.cons rfl (.nil _)))) (List.Sublist.refl _) (fun _ h => h) ?_
  · exact ⟨Nat.zero_le _, rfl⟩
  · rintro k hI
    refine WC_seq (WC_region ?_)
    refine Lq (q_lss rfl rfl) ?_
    refine WL_nil (thenN (WC_seq ?_))
    refine WC_cond rfl (fun h9 => ?_) (fun h9 => ?_)
    · refine WC_skip (thenN (WC_seq (WC_block (WC_seq ?_))))
      have hk : k < xs.length := by simpa using h9
      refine WC_elem (k := k) (.tail _ (.head _)) (List.getElem?_eq_getElem hk) (op_open _) fun b3 q3 y3 e3 => ?_
      cases e3
      refine WC_region ?_
      refine Lq (q_idxRd Tryd.underlying45 ti31 rfl rfl (by omega) (by omega)) ?_
      refine Lq (q_loadFN (k := 0) (vs := [_, _, _, _, _, _, _, _, _]) Tryd.underlying31 rfl ti31 rfl (.head _) rfl rfl rfl) ?_
      refine WL_main rfl (OW_alloc (cs := [_, _, _, _, _, _, _, _, _]) ti31 rfl (by decide) fun b4 => ?_)
      refine WL_main rfl (OW_storeN (cs' := [_, _, _, _, _, _, _, _, _]) (vs := [_, _, _, _, _, _, _, _, _]) ti31 rfl rfl rfl rfl rfl (Nat.le_of_ble_eq_true rfl) (.z) ?_)
      refine WL_nil (thenN (WC_seq (WC_region ?_)))
      refine Lq (q_loadN (vs := [_, _, _, _, _, _, _, _, _]) Tryd.underlying31 rfl ti31 rfl own0 rfl rfl) ?_
      refine WL_main rfl (OW_call0 (own_s xs[k] y3.1 y3.2 (hf _ (List.getElem_mem hk))) (.cons rfl (.nil)) (by decide) (memc (.tail _ (.tail _ (.head _))) (memc (.tail _ (.head _)) mem0)) fun u4_1 Lo fs hres => ?_)
      obtain ⟨rfl, rfl, rfl⟩ := hres
      refine Lq (q_assign rfl) ?_
      refine WL_nil (thenN (WC_seq (WC_region ?_)))
      refine Lq (q_move rfl) ?_
      refine Lq (q_neq rfl rfl) ?_
      refine WL_nil (thenN ?_)
      refine WC_cond rfl (fun h15 => ?_) (fun h15 => ?_)
      · refine WC_seq (WC_region ?_)
        refine Lq (q_move rfl) ?_
        refine Lq (q_assign rfl) ?_
        refine WL_nil (thenN (WC_ret (blockRet (thenRet (thenRet (blockRet (thenRet ?_)))))))
        refine ⟨_, [], [], fun Z w hs => .tmp rfl (.nil), ?_, fun Z w hs => hs.out (List.Sublist.cons _ (List.Sublist.refl _)) (fun _ h => .tail _ (.tail _ h))⟩
        try simp only [Bq0, Bq1, Bq2, Bq3, Bq4, Bq5, Bq6, Bq7, Bq8, Bq9, Bq10, Bq11, Bq12] at *
        first
          | exact ⟨by rw [hI.done (by omega)]; rfl, rfl, rfl⟩
          | exact ⟨by rw [hI.bad hk (by omega)]; rfl, rfl, rfl⟩
      · refine WC_skip (blockN (thenN (WC_region ?_)))
        refine Lq (q_add rfl rfl (wr64 (by omega))) ?_
        refine Lq (q_move rfl) ?_
        refine WL_nil (thenK ?_)
        refine ⟨k + 1, ?_, (.cons rfl (.cons rfl (.cons rfl (.nil _)))), (List.Sublist.cons _ (List.Sublist.refl _)), (fun _ h => .tail _ (.tail _ h))⟩
        try simp only [Bq0, Bq1, Bq2, Bq3, Bq4, Bq5, Bq6, Bq7, Bq8, Bq9, Bq10, Bq11, Bq12] at *
        exact ⟨by omega, hI.next hk (by omega)⟩
    · refine WC_exit (thenExit (thenExit (blockHit (thenN (WC_seq (WC_region ?_))))))
      refine Lq (q_assign rfl) ?_
      refine WL_nil (thenN (WC_ret ?_))
      refine ⟨_, [], [], fun Z w hs => .tmp rfl (.nil), ?_, fun Z w hs => hs.out (List.Sublist.refl _) (fun _ h => h)⟩
      try simp only [Bq0, Bq1, Bq2, Bq3, Bq4, Bq5, Bq6, Bq7, Bq8, Bq9, Bq10, Bq11, Bq12] at *
      first
        | exact ⟨by rw [hI.done (by omega)]; rfl, rfl, rfl⟩
        | exact ⟨by rw [hI.bad hk (by omega)]; rfl, rfl, rfl⟩

theorem bd31Xw9  (w : World) : (Instr.build 31 #[]).run Tryd.prog w = .ok (.agg #[.int .i64 0, .int .i64 0, .int .i64 0, .int .i64 0, .string ⟨#[]⟩, .slice none 0 0, .int .i64 0, .int .i64 0, .bool false]) w := by kernel_rfl

set_option maxRecDepth 10000 in
theorem moved_s (a : GOp) (A : Option Addr) (c : Nat) (at_ : Int) (hs : a.text.size ≤ 2305843009213693952) (ha : -4611686018427387904 ≤ at_ ∧ at_ ≤ 4611686018427387904) : Sp Tryd.prog 71 [opV a A c, .int .i64 at_] [] [barF] (OpP (movedF a at_)) := by
  refine Sp.of (n := 16) ⟨_, Tryd.func71, rfl, rfl, rfl, rfl⟩ (Nat.le_of_ble_eq_true rfl) fun Ps As => ?_
  refine WC_seq (WC_region ?_)
  refine WL_main rfl (OW_box (cs := [_, _, _, _, _, _, _, _, _]) rfl rfl (by decide) fun b2 => ?_)
  refine WL_main rfl (OW_alloc (cs := [_, _, _, _, _, _, _, _, _]) ti31 rfl (by decide) fun b4 => ?_)
  refine Lq (q_assign rfl) ?_
  refine WL_nil (thenN (WC_seq (WC_seq ?_)))
  refine WC_fact (A := RdF rgD none 0 []) (fun Z w hs => RdS.nil _ _ _) ?_
  have hw := widthF_le a
  refine WC_region ?_
  refine Lq (q_move rfl) ?_
  refine Lq (q_loadN (vs := [_, _, _, _, _, _, _, _, _]) Tryd.underlying31 rfl ti31 rfl (ownS (own0)) rfl rfl) ?_
  refine WL_main rfl (OW_call0 (width_s a A c (by omega)) (.cons rfl (.nil)) (by decide) (memc (.tail _ (.head _)) mem0) fun u1_2 Lo fs hres => ?_)
  obtain ⟨rfl, rfl, rfl⟩ := hres
  refine Lq (q_add rfl rfl (wr64 (by omega))) ?_
  refine Lq (q_gtr rfl rfl) ?_
  refine WL_nil (thenN ?_)
  refine WC_cond rfl (fun h10 => ?_) (fun h10 => ?_)
  · refine WC_seq (WC_region ?_)
    refine Lq (q_build (.nil) (bd31Xw9)) ?_
    refine WL_main rfl (OW_storeN (cs' := [_, _, _, _, _, _, _, _, _]) (vs := [_, _, _, _, _, _, _, _, _]) ti31 rfl rfl rfl rfl rfl (Nat.le_of_ble_eq_true rfl) (.z) ?_)
    refine Lq (q_assign rfl) ?_
    refine WL_nil (thenN (WC_ret (thenRet ?_)))
    refine ⟨_, [], [RdF rgD none 0 []], fun Z w hs => RV_ownN hs Tryd.underlying31 rfl ti31 rfl own0 rfl (.tmp rfl (.nil)), ?_, fun Z w hs => hs.out (List.Sublist.cons _ (List.Sublist.cons _ (List.Sublist.refl _))) (fun _ h => h)⟩
    try simp only [Bq0, Bq1, Bq2, Bq3, Bq4, Bq5, Bq6, Bq7, Bq8, Bq9, Bq10, Bq11, Bq12] at *
    exact ⟨none, 0, by unfold movedF; first | (rw [if_pos (by omega)]; rfl) | (rw [if_neg (by omega)]; rfl), rfl, by unfold movedF; first | (rw [if_pos (by omega)]; rfl) | (rw [if_neg (by omega)])⟩
  · refine WC_skip (thenN (WC_seq (WC_region ?_)))
    refine Lq (q_move rfl) ?_
    refine Lq (q_field (o' := 3) Tryd.underlying31 rfl ti3 rfl rfl) ?_
    refine WL_main rfl (OW_store1 ti3 rfl rfl rfl (.s (.s (.s (.z)))) (.s (.z)) ?_)
    refine WL_nil (thenN (WC_seq (WC_region ?_)))
    refine Lq (q_field (o' := 5) Tryd.underlying31 rfl ti29 rfl rfl) ?_
    refine WL_main rfl (OW_store1 ti29 rfl rfl rfl (.s (.s (.s (.s (.s (.z)))))) (.s (.z)) ?_)
    refine WL_nil (thenN (WC_seq (WC_region ?_)))
    refine Lq (q_loadN (vs := [_, _, _, _, _, _, _, _, _]) Tryd.underlying31 rfl ti31 rfl (ownS (own0)) rfl rfl) ?_
    refine WL_main rfl (OW_storeN (cs' := [_, _, _, _, _, _, _, _, _]) (vs := [_, _, _, _, _, _, _, _, _]) ti31 rfl rfl rfl rfl rfl (Nat.le_of_ble_eq_true rfl) (.z) ?_)
    refine Lq (q_assign rfl) ?_
    refine WL_nil (thenN ?_)
    refine WC_fr [(5, _), (4, _)] (.cons rfl (.cons rfl (.nil _))) ?_
    refine WC_ret ?_
    refine ⟨_, [], [RdF rgD none 0 []], fun Z w hs => RV_ownN hs Tryd.underlying31 rfl ti31 rfl own0 rfl (.tmp rfl (.nil)), ?_, fun Z w hs => hs.out (List.Sublist.cons _ (List.Sublist.cons _ (List.Sublist.refl _))) (fun _ h => h)⟩
    try simp only [Bq0, Bq1, Bq2, Bq3, Bq4, Bq5, Bq6, Bq7, Bq8, Bq9, Bq10, Bq11, Bq12] at *
    exact ⟨none, 0, by unfold movedF; first | (rw [if_pos (by omega)]; rfl) | (rw [if_neg (by omega)]; rfl), rfl, by unfold movedF; first | (rw [if_pos (by omega)]; rfl) | (rw [if_neg (by omega)])⟩


set_option maxRecDepth 10000 in
theorem ranged_s (a : GOp) (A A2 : Option Addr) (c c2 : Nat) (l : List Rg) (e : Int) : Sp Tryd.prog 72 [opV a A c, .slice A2 l.length c2, .int .i64 e] [] [RdF rgD A2 c2 l] (OpP (rangedF a l e)) := by
  refine Sp.of (n := 15) ⟨_, Tryd.func72, rfl, rfl, rfl, rfl⟩ (Nat.le_of_ble_eq_true rfl) fun Ps As => ?_
  refine WC_seq (WC_region ?_)
  refine WL_main rfl (OW_box (cs := [_, _, _, _, _, _, _, _, _]) rfl rfl (by decide) fun b3 => ?_)
  refine WL_main rfl (OW_alloc (cs := [_, _, _, _, _, _, _, _, _]) ti31 rfl (by decide) fun b6 => ?_)
  refine Lq (q_assign rfl) ?_
  refine WL_nil (thenN (WC_seq (WC_seq ?_)))
  refine WC_fact (A := RdF rgD none 0 []) (fun Z w hs => RdS.nil _ _ _) ?_
  refine WC_region ?_
  refine Lq (q_move rfl) ?_
  refine Lq (q_neq rfl rfl) ?_
  refine WL_nil (thenN ?_)
  refine WC_cond rfl (fun h9 => ?_) (fun h9 => ?_)
  · refine WC_seq (WC_region ?_)
    refine Lq (q_build (.nil) (bd31Xw9)) ?_
    refine Lq (q_move rfl) ?_
    refine WL_main rfl (OW_storeN (cs' := [_, _, _, _, _, _, _, _, _]) (vs := [_, _, _, _, _, _, _, _, _]) ti31 rfl rfl rfl rfl rfl (Nat.le_of_ble_eq_true rfl) (.z) ?_)
    refine Lq (q_assign rfl) ?_
    refine WL_nil (thenN (WC_ret (thenRet ?_)))
    refine ⟨_, [], [RdF rgD none 0 []], fun Z w hs => RV_ownN hs Tryd.underlying31 rfl ti31 rfl own0 rfl (.tmp rfl (.nil)), ?_, fun Z w hs => hs.out (List.Sublist.cons _ (List.Sublist.cons _ (List.Sublist.refl _))) (fun _ h => h)⟩
    try simp only [Bq0, Bq1, Bq2, Bq3, Bq4, Bq5, Bq6, Bq7, Bq8, Bq9, Bq10, Bq11, Bq12] at *
    exact ⟨none, 0, by unfold rangedF; rw [if_pos (by omega)]; rfl, rfl, by unfold rangedF; rw [if_pos (by omega)]; rfl⟩
  · refine WC_skip (thenN (WC_seq (WC_region ?_)))
    refine Lq (q_move rfl) ?_
    refine Lq (q_field (o' := 5) Tryd.underlying31 rfl ti29 rfl rfl) ?_
    refine WL_main rfl (OW_store1 ti29 rfl rfl rfl (.s (.s (.s (.s (.s (.z)))))) (.s (.z)) ?_)
    refine WL_nil (thenN (WC_seq (WC_region ?_)))
    refine Lq (q_loadN (vs := [_, _, _, _, _, _, _, _, _]) Tryd.underlying31 rfl ti31 rfl (ownS (own0)) rfl rfl) ?_
    refine WL_main rfl (OW_storeN (cs' := [_, _, _, _, _, _, _, _, _]) (vs := [_, _, _, _, _, _, _, _, _]) ti31 rfl rfl rfl rfl rfl (Nat.le_of_ble_eq_true rfl) (.z) ?_)
    refine Lq (q_assign rfl) ?_
    refine WL_nil (thenN (WC_ret ?_))
    refine ⟨_, [], [RdF rgD A2 c2 l], fun Z w hs => RV_ownN hs Tryd.underlying31 rfl ti31 rfl own0 rfl (.tmp rfl (.nil)), ?_, fun Z w hs => hs.out (List.Sublist.cons _ (List.Sublist.cons _ (List.Sublist.refl _))) (memc (.tail _ (.head _)) (fun _ h => .tail _ h))⟩
    try simp only [Bq0, Bq1, Bq2, Bq3, Bq4, Bq5, Bq6, Bq7, Bq8, Bq9, Bq10, Bq11, Bq12] at *
    exact ⟨A2, c2, by unfold rangedF; rw [if_neg (by omega)]; rfl, rfl, by unfold rangedF; rw [if_neg (by omega)]⟩


set_option maxRecDepth 10000 in
theorem include_s (a b : GOp) (Aa Ab : Option Addr) (ca cb : Nat) (earlier : Bool) (ha : Fit a) (hb : Fit b) : Sp Tryd.prog 48 [opV a Aa ca, opV b Ab cb, .bool earlier] [] [barF, RdF rgD Aa ca a.rs] (OpP (includeF a b earlier)) := by
  refine Sp.of (n := 71) ⟨_, Tryd.func48, rfl, rfl, rfl, rfl⟩ (Nat.le_of_ble_eq_true rfl) fun Ps As => ?_
  refine WC_seq (WC_region ?_)
  refine WL_main rfl (OW_box (cs := [_, _, _, _, _, _, _, _, _]) rfl rfl (by decide) fun b3 => ?_)
  refine WL_main rfl (OW_box (cs := [_, _, _, _, _, _, _, _, _]) rfl rfl (by decide) fun b4 => ?_)
  refine WL_main rfl (OW_alloc (cs := [_, _, _, _, _, _, _, _, _]) ti31 rfl (by decide) fun b6 => ?_)
  refine Lq (q_assign rfl) ?_
  refine WL_nil (thenN (WC_seq (WC_seq ?_)))
  refine WC_fact (A := RdF rgD none 0 []) (fun Z w hs => RdS.nil _ _ _) ?_
  refine WC_region ?_
  refine Lq (q_loadN (vs := [_, _, _, _, _, _, _, _, _]) Tryd.underlying31 rfl ti31 rfl (ownS (ownS (own0))) rfl rfl) ?_
  refine Lq (q_loadN (vs := [_, _, _, _, _, _, _, _, _]) Tryd.underlying31 rfl ti31 rfl (ownS (own0)) rfl rfl) ?_
  refine WL_main rfl (OW_call0 (clash_s a b Aa Ab ca cb) (.cons rfl (.cons rfl (.nil))) (by decide) mem0 fun u1_2 Lo fs hres => ?_)
  obtain ⟨rfl, rfl, rfl⟩ := hres
  refine WL_nil (thenN ?_)
  refine WC_cond rfl (fun h13 => ?_) (fun h13 => ?_)
  · refine WC_seq (WC_region ?_)
    refine Lq (q_build (.nil) (bd31Xw9)) ?_
    refine WL_main rfl (OW_storeN (cs' := [_, _, _, _, _, _, _, _, _]) (vs := [_, _, _, _, _, _, _, _, _]) ti31 rfl rfl rfl rfl rfl (Nat.le_of_ble_eq_true rfl) (.z) ?_)
    refine Lq (q_assign rfl) ?_
    refine WL_nil (thenN (WC_ret (thenRet ?_)))
    refine ⟨_, [], [RdF rgD none 0 []], fun Z w hs => RV_ownN hs Tryd.underlying31 rfl ti31 rfl own0 rfl (.tmp rfl (.nil)), ?_, fun Z w hs => hs.out (List.Sublist.cons _ (List.Sublist.cons _ (List.Sublist.cons _ (List.Sublist.refl _)))) (fun _ h => h)⟩
    try simp only [Bq0, Bq1, Bq2, Bq3, Bq4, Bq5, Bq6, Bq7, Bq8, Bq9, Bq10, Bq11, Bq12] at *
    have hF : includeF a b earlier = (zeroOp, 50) := by
      unfold includeF clashF
      first | exact if_pos ‹_› | (simp_all; done) | (simp_all; omega) | (repeat' split; all_goals first | rfl | omega | (simp_all; done) | (simp_all; omega))
    exact ⟨none, 0, by rw [hF]; rfl, rfl, by first | (rw [hF]; done) | (rw [hF]; rfl)⟩
  · refine WC_skip (thenN (WC_seq (WC_seq (WC_region ?_))))
    refine Lq (q_field (o' := 0) Tryd.underlying31 rfl ti28 rfl rfl) ?_
    refine Lq (q_field (o' := 2) Tryd.underlying28 rfl ti26 rfl rfl) ?_
    refine Lq (q_load1 Tryd.underlying26 rfl rfl (ownS (own0)) rfl) ?_
    refine Lq (q_neq rfl rfl) ?_
    refine WL_nil (thenN ?_)
    refine WC_fr [(18, _), (7, _), (6, _), (4, _), (3, _), (2, _)] (.cons rfl (.cons rfl (.cons rfl (.cons rfl (.cons rfl (.cons rfl (.nil _))))))) ?_
    refine WC_cond rfl (fun h18 => ?_) (fun h18 => ?_)
    · refine WC_seq (WC_region ?_)
      refine Lq (q_loadN (vs := [_, _, _, _, _, _, _, _, _]) Tryd.underlying31 rfl ti31 rfl (ownS (ownS (own0))) rfl rfl) ?_
      refine WL_main rfl (OW_call0 (clone_s a Aa ca ha.rs) (.cons rfl (.nil)) (by decide) (memc (.tail _ (.tail _ (.head _))) mem0) fun u4_1 Lo fs hres => ?_)
      obtain ⟨A1, c1, rfl, rfl, rfl⟩ := hres
      refine WL_main rfl (OW_storeN (cs' := [_, _, _, _, _, _, _, _, _]) (vs := [_, _, _, _, _, _, _, _, _]) ti31 rfl rfl rfl rfl rfl (Nat.le_of_ble_eq_true rfl) (.z) ?_)
      refine Lq (q_assign rfl) ?_
      refine WL_nil (thenN (WC_ret (thenRet ?_)))
      refine ⟨_, [], [RdF rgD A1 c1 a.rs], fun Z w hs => RV_ownN hs Tryd.underlying31 rfl ti31 rfl own0 rfl (.tmp rfl (.nil)), ?_, fun Z w hs => hs.out (List.Sublist.cons _ (List.Sublist.cons _ (List.Sublist.cons _ (List.Sublist.refl _)))) (memc (.head _) (fun _ h => .tail _ (.tail _ h)))⟩
      try simp only [Bq0, Bq1, Bq2, Bq3, Bq4, Bq5, Bq6, Bq7, Bq8, Bq9, Bq10, Bq11, Bq12] at *
      have hF : includeF a b earlier = (a, 0) := by
        unfold includeF clashF
        first | exact if_pos ‹_› | (simp_all; done) | (simp_all; omega) | (repeat' split; all_goals first | rfl | omega | (simp_all; done) | (simp_all; omega))
      exact ⟨A1, c1, by rw [hF]; rfl, rfl, by first | (rw [hF]; done) | (rw [hF]; rfl)⟩
    · refine WC_skip (thenN (WC_seq (WC_region ?_)))
      refine Lq (q_loadN (vs := [_, _, _, _, _, _, _, _, _]) Tryd.underlying31 rfl ti31 rfl (ownS (own0)) rfl rfl) ?_
      refine WL_main rfl (OW_call0 (width_s b Ab cb (by have := hb.text; omega)) (.cons rfl (.nil)) (by decide) (memc (.tail _ (.head _)) mem0) fun u5_1 Lo fs hres => ?_)
      obtain ⟨rfl, rfl, rfl⟩ := hres
      refine Lq (q_assign rfl) ?_
      refine WL_nil (thenN (WC_seq (WC_seq (WC_region ?_))))
      refine Lq (q_field (o' := 0) Tryd.underlying31 rfl ti28 rfl rfl) ?_
      refine Lq (q_field (o' := 2) Tryd.underlying28 rfl ti26 rfl rfl) ?_
      refine Lq (q_load1 Tryd.underlying26 rfl rfl (ownS (ownS (own0))) rfl) ?_
      refine WL_nil (thenN (WC_block (WC_seq (WC_region ?_))))
      refine Lq (q_eql rfl rfl) ?_
      refine Lq (q_assign rfl) ?_
      refine WL_nil (thenN ?_)
      refine WC_fr [(26, _), (25, _), (8, _), (7, _), (6, _), (4, _), (3, _), (2, _)] (.cons rfl (.cons rfl (.cons rfl (.cons rfl (.cons rfl (.cons rfl (.cons rfl (.cons rfl (.nil _))))))))) ?_
      refine WC_cond rfl (fun h26 => ?_) (fun h26 => ?_)
      · refine WC_seq (WC_region ?_)
        refine Lq (q_field (o' := 3) Tryd.underlying31 rfl ti3 rfl rfl) ?_
        refine Lq (q_load1 Tryd.underlying3 rfl rfl (ownS (own0)) rfl) ?_
        refine Lq (q_field (o' := 3) Tryd.underlying31 rfl ti3 rfl rfl) ?_
        refine Lq (q_load1 Tryd.underlying3 rfl rfl (ownS (ownS (own0))) rfl) ?_
        refine Lq (q_lss rfl rfl) ?_
        refine Lq (q_move rfl) ?_
        refine WL_guard (t := 33) rfl (fun g33 => ?_) (fun g33 => ?_)
        · refine Ln rfl rfl rfl g33 ?_
          refine Ln rfl rfl rfl g33 ?_
          refine Ln rfl rfl rfl g33 ?_
          refine Ln rfl rfl rfl g33 ?_
          refine Ln rfl rfl rfl g33 ?_
          refine Ln rfl rfl rfl g33 ?_
          refine WL_gun rfl rfl rfl (by decide) ?_
          refine Ln rfl rfl rfl g33 ?_
          refine Lq (q_pickT rfl g33 rfl) ?_
          refine WL_nil (thenN ?_)
          refine WC_fr [(42, _), (8, _), (7, _), (6, _), (3, _)] (.cons rfl (.cons rfl (.cons rfl (.cons rfl (.cons rfl (.nil _)))))) ?_
          refine WC_true rfl rfl (WC_seq (WC_region ?_))
          refine Lq (q_loadN (vs := [_, _, _, _, _, _, _, _, _]) Tryd.underlying31 rfl ti31 rfl (ownS (ownS (own0))) rfl rfl) ?_
          refine Lq (q_field (o' := 3) Tryd.underlying31 rfl ti3 rfl rfl) ?_
          refine Lq (q_load1 Tryd.underlying3 rfl rfl (ownS (ownS (own0))) rfl) ?_
          refine Lq (q_move rfl) ?_
          refine Lq (q_add rfl rfl (wr64 (by have := ha.lo; have := ha.hi; have := hb.text; have := widthF_le b; omega))) ?_
          refine WL_main rfl (OW_call0 (moved_s a Aa ca (a.at_ + widthF b) ha.text (by have := ha.lo; have := ha.hi; have := hb.text; have := widthF_le b; omega)) (.cons rfl (.cons rfl (.nil))) (by decide) (memc (.tail _ (.head _)) mem0) fun u9_5 Lo fs hres => ?_)
          obtain ⟨A2, c2, rfl, rfl, rfl⟩ := hres
          refine Lq (q_extract (vs := [_, _]) rfl rfl) ?_
          refine Lq (q_extract (vs := [_, _]) rfl rfl) ?_
          refine WL_main rfl (OW_storeN (cs' := [_, _, _, _, _, _, _, _, _]) (vs := [_, _, _, _, _, _, _, _, _]) ti31 rfl rfl rfl rfl rfl (Nat.le_of_ble_eq_true rfl) (.z) ?_)
          refine Lq (q_assign rfl) ?_
          refine WL_nil (thenN (WC_ret (blockRet (thenRet ?_))))
          refine ⟨_, [], [RdF rgD A2 c2 (movedF a (a.at_ + widthF b)).1.rs], fun Z w hs => RV_ownN hs Tryd.underlying31 rfl ti31 rfl own0 rfl (.tmp rfl (.nil)), ?_, fun Z w hs => hs.out (List.Sublist.cons _ (List.Sublist.cons _ (List.Sublist.cons _ (List.Sublist.refl _)))) (memc (.head _) (fun _ h => .tail _ (.tail _ h)))⟩
          try simp only [Bq0, Bq1, Bq2, Bq3, Bq4, Bq5, Bq6, Bq7, Bq8, Bq9, Bq10, Bq11, Bq12] at *
          have hF : includeF a b earlier = movedF a (a.at_ + widthF b) := by
            unfold includeF clashF
            first | exact if_pos ‹_› | (simp_all; done) | (simp_all; omega) | (repeat' split; all_goals first | rfl | omega | (simp_all; done) | (simp_all; omega))
          exact ⟨A2, c2, by rw [hF]; rfl, rfl, by first | (rw [hF]; done) | (rw [hF]; rfl)⟩
        · refine Lg rfl rfl rfl g33 (q_field (o' := 3) Tryd.underlying31 rfl ti3 rfl rfl) ?_
          refine Lg rfl rfl rfl g33 (q_load1 Tryd.underlying3 rfl rfl (ownS (own0)) rfl) ?_
          refine Lg rfl rfl rfl g33 (q_field (o' := 3) Tryd.underlying31 rfl ti3 rfl rfl) ?_
          refine Lg rfl rfl rfl g33 (q_load1 Tryd.underlying3 rfl rfl (ownS (ownS (own0))) rfl) ?_
          refine Lg rfl rfl rfl g33 (q_eql rfl rfl) ?_
          refine Lg rfl rfl rfl g33 (q_move rfl) ?_
          refine WL_guard (t := 39) rfl (fun g39 => ?_) (fun g39 => ?_)
          · refine Lg rfl rfl rfl g39 (q_move rfl) ?_
            refine Lg rfl rfl rfl g33 (q_pickT rfl g39 rfl) ?_
            refine Lq (q_pickF rfl g33 rfl) ?_
            refine WL_nil (thenN ?_)
            refine WC_fr [(42, _), (8, _), (7, _), (6, _), (3, _)] (.cons rfl (.cons rfl (.cons rfl (.cons rfl (.cons rfl (.nil _)))))) ?_
            refine WC_cond rfl (fun h42 => ?_) (fun h42 => ?_)
            · refine WC_seq (WC_region ?_)
              refine Lq (q_loadN (vs := [_, _, _, _, _, _, _, _, _]) Tryd.underlying31 rfl ti31 rfl (ownS (ownS (own0))) rfl rfl) ?_
              refine Lq (q_field (o' := 3) Tryd.underlying31 rfl ti3 rfl rfl) ?_
              refine Lq (q_load1 Tryd.underlying3 rfl rfl (ownS (ownS (own0))) rfl) ?_
              refine Lq (q_move rfl) ?_
              refine Lq (q_add rfl rfl (wr64 (by have := ha.lo; have := ha.hi; have := hb.text; have := widthF_le b; omega))) ?_
              refine WL_main rfl (OW_call0 (moved_s a Aa ca (a.at_ + widthF b) ha.text (by have := ha.lo; have := ha.hi; have := hb.text; have := widthF_le b; omega)) (.cons rfl (.cons rfl (.nil))) (by decide) (memc (.tail _ (.head _)) mem0) fun u9_5 Lo fs hres => ?_)
              obtain ⟨A2, c2, rfl, rfl, rfl⟩ := hres
              refine Lq (q_extract (vs := [_, _]) rfl rfl) ?_
              refine Lq (q_extract (vs := [_, _]) rfl rfl) ?_
              refine WL_main rfl (OW_storeN (cs' := [_, _, _, _, _, _, _, _, _]) (vs := [_, _, _, _, _, _, _, _, _]) ti31 rfl rfl rfl rfl rfl (Nat.le_of_ble_eq_true rfl) (.z) ?_)
              refine Lq (q_assign rfl) ?_
              refine WL_nil (thenN (WC_ret (blockRet (thenRet ?_))))
              refine ⟨_, [], [RdF rgD A2 c2 (movedF a (a.at_ + widthF b)).1.rs], fun Z w hs => RV_ownN hs Tryd.underlying31 rfl ti31 rfl own0 rfl (.tmp rfl (.nil)), ?_, fun Z w hs => hs.out (List.Sublist.cons _ (List.Sublist.cons _ (List.Sublist.cons _ (List.Sublist.refl _)))) (memc (.head _) (fun _ h => .tail _ (.tail _ h)))⟩
              try simp only [Bq0, Bq1, Bq2, Bq3, Bq4, Bq5, Bq6, Bq7, Bq8, Bq9, Bq10, Bq11, Bq12] at *
              have hF : includeF a b earlier = movedF a (a.at_ + widthF b) := by
                unfold includeF clashF
                first | exact if_pos ‹_› | (simp_all; done) | (simp_all; omega) | (repeat' split; all_goals first | rfl | omega | (simp_all; done) | (simp_all; omega))
              exact ⟨A2, c2, by rw [hF]; rfl, rfl, by first | (rw [hF]; done) | (rw [hF]; rfl)⟩
            · refine WC_skip (blockN (thenN (WC_seq (WC_region ?_))))
              refine Lq (q_loadN (vs := [_, _, _, _, _, _, _, _, _]) Tryd.underlying31 rfl ti31 rfl (ownS (ownS (own0))) rfl rfl) ?_
              refine WL_main rfl (OW_call0 (clone_s a Aa ca ha.rs) (.cons rfl (.nil)) (by decide) (memc (.tail _ (.tail _ (.head _))) mem0) fun u14_1 Lo fs hres => ?_)
              obtain ⟨A1, c1, rfl, rfl, rfl⟩ := hres
              refine WL_main rfl (OW_storeN (cs' := [_, _, _, _, _, _, _, _, _]) (vs := [_, _, _, _, _, _, _, _, _]) ti31 rfl rfl rfl rfl rfl (Nat.le_of_ble_eq_true rfl) (.z) ?_)
              refine Lq (q_assign rfl) ?_
              refine WL_nil (thenN (WC_ret ?_))
              refine ⟨_, [], [RdF rgD A1 c1 a.rs], fun Z w hs => RV_ownN hs Tryd.underlying31 rfl ti31 rfl own0 rfl (.tmp rfl (.nil)), ?_, fun Z w hs => hs.out (List.Sublist.cons _ (List.Sublist.cons _ (List.Sublist.cons _ (List.Sublist.refl _)))) (memc (.head _) (fun _ h => .tail _ (.tail _ h)))⟩
              try simp only [Bq0, Bq1, Bq2, Bq3, Bq4, Bq5, Bq6, Bq7, Bq8, Bq9, Bq10, Bq11, Bq12] at *
              have hF : includeF a b earlier = (a, 0) := by
                unfold includeF clashF
                first | exact if_pos ‹_› | (simp_all; done) | (simp_all; omega) | (repeat' split; all_goals first | rfl | omega | (simp_all; done) | (simp_all; omega))
              exact ⟨A1, c1, by rw [hF]; rfl, rfl, by first | (rw [hF]; done) | (rw [hF]; rfl)⟩
          · refine Ln rfl rfl rfl g39 ?_
            refine Lg rfl rfl rfl g33 (q_pickF rfl g39 rfl) ?_
            refine Lq (q_pickF rfl g33 rfl) ?_
            refine WL_nil (thenN ?_)
            refine WC_fr [(42, _), (8, _), (7, _), (6, _), (3, _)] (.cons rfl (.cons rfl (.cons rfl (.cons rfl (.cons rfl (.nil _)))))) ?_
            refine WC_false rfl rfl (WC_skip (blockN (thenN (WC_seq (WC_region ?_)))))
            refine Lq (q_loadN (vs := [_, _, _, _, _, _, _, _, _]) Tryd.underlying31 rfl ti31 rfl (ownS (ownS (own0))) rfl rfl) ?_
            refine WL_main rfl (OW_call0 (clone_s a Aa ca ha.rs) (.cons rfl (.nil)) (by decide) (memc (.tail _ (.tail _ (.head _))) mem0) fun u14_1 Lo fs hres => ?_)
            obtain ⟨A1, c1, rfl, rfl, rfl⟩ := hres
            refine WL_main rfl (OW_storeN (cs' := [_, _, _, _, _, _, _, _, _]) (vs := [_, _, _, _, _, _, _, _, _]) ti31 rfl rfl rfl rfl rfl (Nat.le_of_ble_eq_true rfl) (.z) ?_)
            refine Lq (q_assign rfl) ?_
            refine WL_nil (thenN (WC_ret ?_))
            refine ⟨_, [], [RdF rgD A1 c1 a.rs], fun Z w hs => RV_ownN hs Tryd.underlying31 rfl ti31 rfl own0 rfl (.tmp rfl (.nil)), ?_, fun Z w hs => hs.out (List.Sublist.cons _ (List.Sublist.cons _ (List.Sublist.cons _ (List.Sublist.refl _)))) (memc (.head _) (fun _ h => .tail _ (.tail _ h)))⟩
            try simp only [Bq0, Bq1, Bq2, Bq3, Bq4, Bq5, Bq6, Bq7, Bq8, Bq9, Bq10, Bq11, Bq12] at *
            have hF : includeF a b earlier = (a, 0) := by
              unfold includeF clashF
              first | exact if_pos ‹_› | (simp_all; done) | (simp_all; omega) | (repeat' split; all_goals first | rfl | omega | (simp_all; done) | (simp_all; omega))
            exact ⟨A1, c1, by rw [hF]; rfl, rfl, by first | (rw [hF]; done) | (rw [hF]; rfl)⟩
      · refine WC_seq (WC_seq (WC_region ?_))
        refine Lq (q_eql rfl rfl) ?_
        refine Lq (q_assign rfl) ?_
        refine WL_nil (thenN ?_)
        refine WC_cond rfl (fun h51 => ?_) (fun h51 => ?_)
        · refine WC_skip (thenN ?_)
          refine WC_true rfl h51 ?_
          refine WC_seq (WC_region ?_)
          refine Lq (q_field (o' := 5) Tryd.underlying31 rfl ti29 rfl rfl) ?_
          refine Lq (q_load1 Tryd.underlying29 rfl rfl (ownS (ownS (own0))) rfl) ?_
          refine Lq (q_field (o' := 3) Tryd.underlying31 rfl ti3 rfl rfl) ?_
          refine Lq (q_load1 Tryd.underlying3 rfl rfl (ownS (own0)) rfl) ?_
          refine Lq (q_move rfl) ?_
          refine WL_main rfl (OW_call0 (through_s Aa ca a.rs b.at_ (widthF b) ha.rs) (.cons rfl (.cons rfl (.cons rfl (.nil)))) (by decide) (memc (.tail _ (.tail _ (.head _))) mem0) fun u12_5 Lo fs hres => ?_)
          obtain ⟨A3, c3, rfl, rfl, rfl⟩ := hres
          refine Lq (q_move rfl) ?_
          refine Lq (q_extract (vs := [_, _]) rfl rfl) ?_
          refine Lq (q_extract (vs := [_, _]) rfl rfl) ?_
          refine Lq (q_assign rfl) ?_
          refine Lq (q_assign rfl) ?_
          refine WL_nil (thenN ?_)
          refine WC_fr [(10, _), (9, _), (7, _), (6, _), (3, _)] (.cons rfl (.cons rfl (.cons rfl (.cons rfl (.cons rfl (.nil _)))))) ?_
          refine WC_seq (WC_region ?_)
          refine Lq (q_loadN (vs := [_, _, _, _, _, _, _, _, _]) Tryd.underlying31 rfl ti31 rfl (ownS (ownS (own0))) rfl rfl) ?_
          refine Lq (q_move rfl) ?_
          refine Lq (q_move rfl) ?_
          refine WL_main rfl (OW_call0 (ranged_s a Aa A3 ca c3 (thrF a.rs b.at_ (widthF b)).1 (thrF a.rs b.at_ (widthF b)).2) (.cons rfl (.cons rfl (.cons rfl (.nil)))) (by decide) (memc (.head _) mem0) fun u13_3 Lo fs hres => ?_)
          obtain ⟨A4, c4, rfl, rfl, rfl⟩ := hres
          refine Lq (q_extract (vs := [_, _]) rfl rfl) ?_
          refine Lq (q_extract (vs := [_, _]) rfl rfl) ?_
          refine WL_main rfl (OW_storeN (cs' := [_, _, _, _, _, _, _, _, _]) (vs := [_, _, _, _, _, _, _, _, _]) ti31 rfl rfl rfl rfl rfl (Nat.le_of_ble_eq_true rfl) (.z) ?_)
          refine Lq (q_assign rfl) ?_
          refine WL_nil (thenN (WC_ret (blockRet (thenRet ?_))))
          refine ⟨_, [], [RdF rgD A4 c4 (rangedF a (thrF a.rs b.at_ (widthF b)).1 (thrF a.rs b.at_ (widthF b)).2).1.rs], fun Z w hs => RV_ownN hs Tryd.underlying31 rfl ti31 rfl own0 rfl (.tmp rfl (.nil)), ?_, fun Z w hs => hs.out (List.Sublist.cons _ (List.Sublist.cons _ (List.Sublist.cons _ (List.Sublist.refl _)))) (memc (.head _) (fun _ h => .tail _ (.tail _ (.tail _ h))))⟩
          try simp only [Bq0, Bq1, Bq2, Bq3, Bq4, Bq5, Bq6, Bq7, Bq8, Bq9, Bq10, Bq11, Bq12] at *
          have hF : includeF a b earlier = rangedF a (thrF a.rs b.at_ (widthF b)).1 (thrF a.rs b.at_ (widthF b)).2 := by
            unfold includeF clashF
            first | exact if_pos ‹_› | (simp_all; done) | (simp_all; omega) | (repeat' split; all_goals first | rfl | omega | (simp_all; done) | (simp_all; omega))
          exact ⟨A4, c4, by rw [hF]; rfl, rfl, by first | (rw [hF]; done) | (rw [hF]; rfl)⟩
        · refine WC_region ?_
          refine Lq (q_eql rfl rfl) ?_
          refine Lq (q_assign rfl) ?_
          refine WL_nil (thenN ?_)
          refine WC_cond rfl (fun h51 => ?_) (fun h51 => ?_)
          · refine WC_seq (WC_region ?_)
            refine Lq (q_field (o' := 5) Tryd.underlying31 rfl ti29 rfl rfl) ?_
            refine Lq (q_load1 Tryd.underlying29 rfl rfl (ownS (ownS (own0))) rfl) ?_
            refine Lq (q_field (o' := 3) Tryd.underlying31 rfl ti3 rfl rfl) ?_
            refine Lq (q_load1 Tryd.underlying3 rfl rfl (ownS (own0)) rfl) ?_
            refine Lq (q_move rfl) ?_
            refine WL_main rfl (OW_call0 (through_s Aa ca a.rs b.at_ (widthF b) ha.rs) (.cons rfl (.cons rfl (.cons rfl (.nil)))) (by decide) (memc (.tail _ (.tail _ (.head _))) mem0) fun u12_5 Lo fs hres => ?_)
            obtain ⟨A3, c3, rfl, rfl, rfl⟩ := hres
            refine Lq (q_move rfl) ?_
            refine Lq (q_extract (vs := [_, _]) rfl rfl) ?_
            refine Lq (q_extract (vs := [_, _]) rfl rfl) ?_
            refine Lq (q_assign rfl) ?_
            refine Lq (q_assign rfl) ?_
            refine WL_nil (thenN ?_)
            refine WC_fr [(10, _), (9, _), (7, _), (6, _), (3, _)] (.cons rfl (.cons rfl (.cons rfl (.cons rfl (.cons rfl (.nil _)))))) ?_
            refine WC_seq (WC_region ?_)
            refine Lq (q_loadN (vs := [_, _, _, _, _, _, _, _, _]) Tryd.underlying31 rfl ti31 rfl (ownS (ownS (own0))) rfl rfl) ?_
            refine Lq (q_move rfl) ?_
            refine Lq (q_move rfl) ?_
            refine WL_main rfl (OW_call0 (ranged_s a Aa A3 ca c3 (thrF a.rs b.at_ (widthF b)).1 (thrF a.rs b.at_ (widthF b)).2) (.cons rfl (.cons rfl (.cons rfl (.nil)))) (by decide) (memc (.head _) mem0) fun u13_3 Lo fs hres => ?_)
            obtain ⟨A4, c4, rfl, rfl, rfl⟩ := hres
            refine Lq (q_extract (vs := [_, _]) rfl rfl) ?_
            refine Lq (q_extract (vs := [_, _]) rfl rfl) ?_
            refine WL_main rfl (OW_storeN (cs' := [_, _, _, _, _, _, _, _, _]) (vs := [_, _, _, _, _, _, _, _, _]) ti31 rfl rfl rfl rfl rfl (Nat.le_of_ble_eq_true rfl) (.z) ?_)
            refine Lq (q_assign rfl) ?_
            refine WL_nil (thenN (WC_ret (blockRet (thenRet ?_))))
            refine ⟨_, [], [RdF rgD A4 c4 (rangedF a (thrF a.rs b.at_ (widthF b)).1 (thrF a.rs b.at_ (widthF b)).2).1.rs], fun Z w hs => RV_ownN hs Tryd.underlying31 rfl ti31 rfl own0 rfl (.tmp rfl (.nil)), ?_, fun Z w hs => hs.out (List.Sublist.cons _ (List.Sublist.cons _ (List.Sublist.cons _ (List.Sublist.refl _)))) (memc (.head _) (fun _ h => .tail _ (.tail _ (.tail _ h))))⟩
            try simp only [Bq0, Bq1, Bq2, Bq3, Bq4, Bq5, Bq6, Bq7, Bq8, Bq9, Bq10, Bq11, Bq12] at *
            have hF : includeF a b earlier = rangedF a (thrF a.rs b.at_ (widthF b)).1 (thrF a.rs b.at_ (widthF b)).2 := by
              unfold includeF clashF
              first | exact if_pos ‹_› | (simp_all; done) | (simp_all; omega) | (repeat' split; all_goals first | rfl | omega | (simp_all; done) | (simp_all; omega))
            exact ⟨A4, c4, by rw [hF]; rfl, rfl, by first | (rw [hF]; done) | (rw [hF]; rfl)⟩
          · refine WC_skip (blockN (thenN (WC_seq (WC_region ?_))))
            refine Lq (q_loadN (vs := [_, _, _, _, _, _, _, _, _]) Tryd.underlying31 rfl ti31 rfl (ownS (ownS (own0))) rfl rfl) ?_
            refine WL_main rfl (OW_call0 (clone_s a Aa ca ha.rs) (.cons rfl (.nil)) (by decide) (memc (.tail _ (.tail _ (.head _))) mem0) fun u14_1 Lo fs hres => ?_)
            obtain ⟨A1, c1, rfl, rfl, rfl⟩ := hres
            refine WL_main rfl (OW_storeN (cs' := [_, _, _, _, _, _, _, _, _]) (vs := [_, _, _, _, _, _, _, _, _]) ti31 rfl rfl rfl rfl rfl (Nat.le_of_ble_eq_true rfl) (.z) ?_)
            refine Lq (q_assign rfl) ?_
            refine WL_nil (thenN (WC_ret ?_))
            refine ⟨_, [], [RdF rgD A1 c1 a.rs], fun Z w hs => RV_ownN hs Tryd.underlying31 rfl ti31 rfl own0 rfl (.tmp rfl (.nil)), ?_, fun Z w hs => hs.out (List.Sublist.cons _ (List.Sublist.cons _ (List.Sublist.cons _ (List.Sublist.refl _)))) (memc (.head _) (fun _ h => .tail _ (.tail _ h)))⟩
            try simp only [Bq0, Bq1, Bq2, Bq3, Bq4, Bq5, Bq6, Bq7, Bq8, Bq9, Bq10, Bq11, Bq12] at *
            have hF : includeF a b earlier = (a, 0) := by
              unfold includeF clashF
              first | exact if_pos ‹_› | (simp_all; done) | (simp_all; omega) | (repeat' split; all_goals first | rfl | omega | (simp_all; done) | (simp_all; omega))
            exact ⟨A1, c1, by rw [hF]; rfl, rfl, by first | (rw [hF]; done) | (rw [hF]; rfl)⟩

end Go.Proofs.YtggdddkbhigjoaaDoor
/- Walks: xform.clones. -/
namespace Go.Proofs.YtggdddkbhigjoaaDoor
open Go Go.GW
set_option maxRecDepth 10000 in
theorem clones_s (A : Option Addr) (c : Nat) (xs : List GOp) (hf : ∀ o ∈ xs, Fit o) (hl : xs.length ≤ 1000000000) : Sp Tryd.prog 47 [.slice A xs.length c] [] [RdF opD A c xs] (fun v Lo fs => ∃ p css, RowS 31 9 v xs.length css.flatten p ∧ Lo = [p] ∧ fs = [RepsF opD xs css]) := by
  refine Sp.of (n := 22) ⟨_, Tryd.func47, rfl, rfl, rfl, rfl⟩ (Nat.le_of_ble_eq_true rfl) fun Ps As => ?_
  refine WC_seq (WC_region ?_)
  refine Lq (q_assign rfl) ?_
  refine WL_nil (thenN (WC_seq (WC_region ?_)))
  refine Lq (q_move rfl) ?_
  refine Lq (q_len Tryd.underlying45 rfl) ?_
  refine WL_main rfl (OW_make0 Tryd.underlying45 ti31 rfl rfl (by omega) (by unfold maxLen; omega) (by decide) fun v0 p0 hr0 => ?_)
  refine Lq (q_assign rfl) ?_
  refine WL_nil (thenN (WC_seq (WC_seq (WC_region ?_))))
  refine Lq (q_move rfl) ?_
  refine Lq (q_len Tryd.underlying45 rfl) ?_
  refine Lq (q_move rfl) ?_
  refine WL_nil (thenN (WC_block ?_))
  refine WC_fact (A := RepsF opD (xs.take 0) []) (fun Z w hs => Reps.nil) ?_
  refine WC_loopE (α := Nat × Value × Part × List (List Value)) (fun (k, v, p, css) => xs.length - k)
    (fun (k, v, p, css) => [(9, .slice A xs.length c), (10, .int .i64 xs.length), (11, .int .i64 k), (3, v)])
    (fun (k, v, p, css) => (p :: Ps))
    (fun (k, v, p, css) => (RepsF opD (xs.take k) css :: RdF opD A c xs :: As))
    (fun (k, v, p, css) => k ≤ xs.length ∧ RowS 31 9 v k css.flatten p)
    (0, v0, p0, []) ?_ (.cons rfl (.cons rfl (.cons rfl (.cons rfl (.nil _))))) (List.Sublist.refl _) (fun _ h => h) ?_
  · exact ⟨Nat.zero_le _, hr0⟩
  · rintro ⟨k, v, p, css⟩ hI
    have hle : k ≤ xs.length := hI.1
    refine WC_seq (WC_region ?_)
    refine Lq (q_lss rfl rfl) ?_
    refine WL_nil (thenN (WC_seq ?_))
    refine WC_cond rfl (fun h12 => ?_) (fun h12 => ?_)
    · refine WC_skip (thenN (WC_seq (WC_block (WC_seq ?_))))
      have hk : k < xs.length := by simpa using h12
      refine WC_elem (k := k) (.tail _ (.head _)) (List.getElem?_eq_getElem hk) (op_open _) fun b4 q4 y4 e4 => ?_
      cases e4
      refine WC_region ?_
      refine Lq (q_idxRd Tryd.underlying45 ti31 rfl rfl (by omega) (by omega)) ?_
      refine Lq (q_loadFN (k := 0) (vs := [_, _, _, _, _, _, _, _, _]) Tryd.underlying31 rfl ti31 rfl (.head _) rfl rfl rfl) ?_
      refine WL_main rfl (OW_alloc (cs := [_, _, _, _, _, _, _, _, _]) ti31 rfl (by decide) fun b5 => ?_)
      refine WL_main rfl (OW_storeN (cs' := [_, _, _, _, _, _, _, _, _]) (vs := [_, _, _, _, _, _, _, _, _]) ti31 rfl rfl rfl rfl rfl (Nat.le_of_ble_eq_true rfl) (.z) ?_)
      refine WL_nil (thenN (WC_region ?_))
      refine Lq (q_move rfl) ?_
      refine Lq (q_loadN (vs := [_, _, _, _, _, _, _, _, _]) Tryd.underlying31 rfl ti31 rfl own0 rfl rfl) ?_
      refine WL_main rfl (OW_call0 (clone_s xs[k] y4.1 y4.2 (hf _ (List.getElem_mem hk)).rs) (.cons rfl (.nil)) (by decide) (memc (.tail _ (.head _)) mem0) fun u5_2 Lo fs hres => ?_)
      obtain ⟨A1, c1, rfl, rfl, rfl⟩ := hres
      refine WL_main rfl (OW_slice1 (cs := [_, _, _, _, _, _, _, _, _]) Tryd.underlying45 ti31 (by decide) (by decide) rfl rfl rfl rfl (by decide) fun b18 => ?_)
      refine WL_main rfl (OW_append1 (news := [_, _, _, _, _, _, _, _, _]) Tryd.underlying45 ti31 rfl (by decide) rfl rfl hI.2.row own0 rfl rfl (by omega) (by unfold maxLen; omega) (by decide) (DelAt.perm (.s (.s (.z)))) fun v19 p19 hr19 => ?_)
      refine Lq (q_assign rfl) ?_
      refine WL_nil (blockN (thenN ?_))
      refine WC_repsAdd (u := xs[k]) (cs := opC xs[k] A1 c1) (.tail _ (.tail _ (.tail _ (.head _)))) (fun Z w hs => ⟨A1, c1, rfl, hs.facts _ (.head _)⟩) (List.take_succ_eq_append_getElem hk) ?_
      refine WC_region ?_
      refine Lq (q_add rfl rfl (wr64 (by omega))) ?_
      refine Lq (q_move rfl) ?_
      refine WL_nil (thenK ?_)
      refine ⟨(k + 1, v19, p19, css ++ [opC xs[k] A1 c1]), ?_, (.cons rfl (.cons rfl (.cons rfl (.cons rfl (.nil _))))), (List.Sublist.cons_cons _ (List.Sublist.cons _ (List.Sublist.cons _ (List.Sublist.refl _)))), (memc (.head _) (fun _ h => .tail _ (.tail _ (.tail _ (.tail _ (.tail _ h))))))⟩
      refine ⟨by show xs.length - (k + 1) < xs.length - k; omega, by show k + 1 ≤ xs.length; omega, ?_⟩
      have := hr19.toS (by omega)
      rw [List.flatten_append, show [opC xs[k] A1 c1].flatten = opC xs[k] A1 c1 from by simp]
      exact this
    · refine WC_exit (thenExit (thenExit (blockHit (thenN (WC_seq (WC_region ?_))))))
      refine Lq (q_move rfl) ?_
      refine Lq (q_assign rfl) ?_
      refine WL_nil (thenN (WC_ret ?_))
      refine ⟨_, [p], [RepsF opD (xs.take k) css], fun Z w hs => .tmp rfl (.nil), ?_, fun Z w hs => hs.out (List.Sublist.cons_cons _ (List.Sublist.refl _)) (fun _ h => h)⟩
      try simp only [Bq0, Bq1, Bq2, Bq3, Bq4, Bq5, Bq6, Bq7, Bq8, Bq9, Bq10, Bq11, Bq12] at *
      obtain rfl : k = xs.length := by omega
      exact ⟨p, css, hI.2, rfl, by rw [List.take_length]⟩

end Go.Proofs.YtggdddkbhigjoaaDoor
/- Walks: xform.Cross. -/
namespace Go.Proofs.YtggdddkbhigjoaaDoor
open Go Go.GW
set_option maxRecDepth 10000 in
theorem cross_s (A B : Option Addr) (c d : Nat) (xs ys : List GOp) (hx : ∀ o ∈ xs, Fit o) (hy : ∀ o ∈ ys, Fit o) (hlx : xs.length ≤ 1000000000) (hly : ys.length ≤ 1000000000) : Sp Tryd.prog 21 [.slice A xs.length c, .slice B ys.length d] [] [barF, RdF opD A c xs, RdF opD B d ys] (CrP (crossF xs ys)) := by
  refine Sp.of (n := 71) ⟨_, Tryd.func21, rfl, rfl, rfl, rfl⟩ (Nat.le_of_ble_eq_true rfl) fun Ps As => ?_
  refine WC_seq (WC_region ?_)
  refine Lq (q_assign rfl) ?_
  refine Lq (q_assign rfl) ?_
  refine Lq (q_assign rfl) ?_
  refine WL_nil (thenN (WC_seq (WC_seq ?_)))
  refine WC_fact (A := RdF opD none 0 []) (fun Z w hs => RdS.nil _ _ _) ?_
  refine WC_region ?_
  refine Lq (q_move rfl) ?_
  refine WL_main rfl (OW_call0 (owns_s A c xs hx (by omega)) (.cons rfl (.nil)) (by decide) (memc (.tail _ (.head _)) (memc (.tail _ (.tail _ (.head _))) mem0)) fun u1_1 Lo fs hres => ?_)
  obtain ⟨rfl, rfl, rfl⟩ := hres
  refine Lq (q_assign rfl) ?_
  refine WL_nil (thenN (WC_seq (WC_region ?_)))
  refine Lq (q_move rfl) ?_
  refine Lq (q_neq rfl rfl) ?_
  refine WL_nil (thenN ?_)
  refine WC_cond rfl (fun h14 => ?_) (fun h14 => ?_)
  · refine WC_seq (WC_region ?_)
    refine Lq (q_move rfl) ?_
    refine Lq (q_assign rfl) ?_
    refine Lq (q_assign rfl) ?_
    refine Lq (q_assign rfl) ?_
    refine WL_nil (thenN (WC_ret (thenRet ?_)))
    refine ⟨_, [], [RdF opD none 0 [], RdF opD none 0 []], fun Z w hs => .tmp rfl (.tmp rfl (.tmp rfl (.nil))), ?_, fun Z w hs => hs.out (List.Sublist.refl _) (memc (.head _) (memc (.head _) (fun _ h => .tail _ h)))⟩
    try simp only [Bq0, Bq1, Bq2, Bq3, Bq4, Bq5, Bq6, Bq7, Bq8, Bq9, Bq10, Bq11, Bq12] at *
    have hF : crossF xs ys = _ := crossF_1 (by omega)
    exact ⟨none, 0, none, 0, by rw [hF]; rfl, rfl, by rw [hF]⟩
  · refine WC_skip (thenN (WC_seq (WC_seq (WC_region ?_))))
    refine Lq (q_move rfl) ?_
    refine WL_main rfl (OW_call0 (owns_s B d ys hy (by omega)) (.cons rfl (.nil)) (by decide) (memc (.tail _ (.head _)) (memc (.tail _ (.tail _ (.tail _ (.head _)))) mem0)) fun u4_1 Lo fs hres => ?_)
    obtain ⟨rfl, rfl, rfl⟩ := hres
    refine Lq (q_assign rfl) ?_
    refine WL_nil (thenN (WC_seq (WC_region ?_)))
    refine Lq (q_move rfl) ?_
    refine Lq (q_neq rfl rfl) ?_
    refine WL_nil (thenN ?_)
    refine WC_cond rfl (fun h19 => ?_) (fun h19 => ?_)
    · refine WC_seq (WC_region ?_)
      refine Lq (q_move rfl) ?_
      refine Lq (q_assign rfl) ?_
      refine Lq (q_assign rfl) ?_
      refine Lq (q_assign rfl) ?_
      refine WL_nil (thenN ?_)
      refine WC_fr [(6, _), (5, _), (4, _), (0, _), (1, _)] (.cons rfl (.cons rfl (.cons rfl (.cons rfl (.cons rfl (.nil _)))))) ?_
      refine WC_ret (thenRet ?_)
      refine ⟨_, [], [RdF opD none 0 [], RdF opD none 0 []], fun Z w hs => .tmp rfl (.tmp rfl (.tmp rfl (.nil))), ?_, fun Z w hs => hs.out (List.Sublist.refl _) (memc (.head _) (memc (.head _) (fun _ h => .tail _ h)))⟩
      try simp only [Bq0, Bq1, Bq2, Bq3, Bq4, Bq5, Bq6, Bq7, Bq8, Bq9, Bq10, Bq11, Bq12] at *
      have hF : crossF xs ys = _ := crossF_2 (by omega) (by omega)
      exact ⟨none, 0, none, 0, by rw [hF]; rfl, rfl, by rw [hF]⟩
    · refine WC_skip (thenN (WC_seq (WC_region ?_)))
      refine Lq (q_move rfl) ?_
      refine WL_main rfl (OW_call0 (clones_s A c xs hx hlx) (.cons rfl (.nil)) (by decide) (memc (.tail _ (.tail _ (.head _))) mem0) fun u7_1 Lo fs hres => ?_)
      obtain ⟨pF0, cssF0, hF0, rfl, rfl⟩ := hres
      refine Lq (q_assign rfl) ?_
      refine WL_nil (thenN ?_)
      refine WC_fr [(4, _), (6, _), (5, _), (1, _)] (.cons rfl (.cons rfl (.cons rfl (.cons rfl (.nil _))))) ?_
      refine WC_seq (WC_region ?_)
      refine Lq (q_move rfl) ?_
      refine WL_main rfl (OW_call0 (clones_s B d ys hy hly) (.cons rfl (.nil)) (by decide) (memc (.tail _ (.tail _ (.tail _ (.tail _ (.head _))))) mem0) fun u8_1 Lo fs hres => ?_)
      obtain ⟨pL0, cssL0, hL0, rfl, rfl⟩ := hres
      refine Lq (q_assign rfl) ?_
      refine WL_nil (thenN (WC_seq (WC_seq ?_)))
      try simp only [Bq0, Bq1, Bq2, Bq3, Bq4, Bq5, Bq6, Bq7, Bq8, Bq9, Bq10, Bq11, Bq12] at *
      obtain ⟨hF1, bF, cF, jF, rfl, rfl, hF2, hF3, hF4⟩ := hF0
      obtain ⟨hL1, bL, cL, jL, rfl, rfl, hL2, hL3, hL4⟩ := hL0
      refine WC_region ?_
      refine Lq (q_move rfl) ?_
      refine Lq (q_len Tryd.underlying45 rfl) ?_
      refine Lq (q_move rfl) ?_
      refine WL_nil (thenN (WC_block ?_))
      refine WC_loopE (α := Nat × List GOp × List GOp × List (List Value) × List (List Value)) (fun (i, F, L, cssF, cssL) => ys.length - i)
        (fun (i, F, L, cssF, cssL) => [(4, .slice (some ⟨bF, 0, none⟩) xs.length cF), (5, .slice (some ⟨bL, 0, none⟩) ys.length cL), (26, .int .i64 ys.length), (27, .int .i64 i)])
        (fun (i, F, L, cssF, cssL) => ([(bL, cellsO (cssL.flatten ++ jL) 31)] :: [(bF, cellsO (cssF.flatten ++ jF) 31)] :: Ps))
        (fun (i, F, L, cssF, cssL) => (RepsF opD L cssL :: RepsF opD F cssF :: RdF opD none 0 [] :: barF :: RdF opD A c xs :: RdF opD B d ys :: As))
        (fun (i, F, L, cssF, cssL) => CoI xs ys F L i)
        (0, xs, ys, cssF0, cssL0) ?_ (.cons rfl (.cons rfl (.cons rfl (.cons rfl (.nil _))))) (List.Sublist.cons_cons _ (List.Sublist.cons_cons _ (List.Sublist.refl _))) (fun _ h => h) ?_
      · exact CoI.zero hx hy
      · rintro ⟨i, F, L, cssF, cssL⟩ hI
        refine WC_seq (WC_region ?_)
        refine Lq (q_lss rfl rfl) ?_
        refine WL_nil (thenN (WC_seq ?_))
        refine WC_cond rfl (fun h28 => ?_) (fun h28 => ?_)
        · refine WC_skip (thenN (WC_seq (WC_block (WC_seq (WC_region ?_)))))
          refine Lq (q_move rfl) ?_
          refine Lq (q_assign rfl) ?_
          refine WL_nil (thenN (WC_seq (WC_region ?_)))
          refine Lq (q_move rfl) ?_
          refine Lq (q_len Tryd.underlying45 rfl) ?_
          refine Lq (q_move rfl) ?_
          refine WL_nil (thenN (WC_block ?_))
          have hi : i < L.length := by simp only [decide_eq_true_eq] at h28; have := hI.lenL; omega
          refine WC_fact (A := RepsF opD (L.set i L[i]) cssL) (fun Z w hs => by rw [List.set_getElem_self]; exact hs.facts _ (.head _)) ?_
          refine WC_loopE (α := Nat × List GOp × GOp × List (List Value) × List (List Value)) (fun (k, G, l, cssG, cssM) => xs.length - k)
            (fun (k, G, l, cssG, cssM) => [(4, .slice (some ⟨bF, 0, none⟩) xs.length cF), (5, .slice (some ⟨bL, 0, none⟩) ys.length cL), (26, .int .i64 ys.length), (27, .int .i64 i), (7, .int .i64 i), (31, .int .i64 xs.length), (32, .int .i64 k)])
            (fun (k, G, l, cssG, cssM) => ([(bL, cellsO (cssM.flatten ++ jL) 31)] :: [(bF, cellsO (cssG.flatten ++ jF) 31)] :: Ps))
            (fun (k, G, l, cssG, cssM) => (RepsF opD (L.set i l) cssM :: RepsF opD G cssG :: RdF opD none 0 [] :: barF :: RdF opD A c xs :: RdF opD B d ys :: As))
            (fun (k, G, l, cssG, cssM) => CiI L[i] F G l k)
            (0, F, L[i], cssF, cssL) ?_ (.cons rfl (.cons rfl (.cons rfl (.cons rfl (.cons rfl (.cons rfl (.cons rfl (.nil _)))))))) (List.Sublist.cons_cons _ (List.Sublist.cons_cons _ (List.Sublist.refl _))) (memc (.head _) (fun _ h => .tail _ (.tail _ h))) ?_
          · exact CiI.zero hI.fitF (hI.fitL _ (List.getElem_mem hi))
          · rintro ⟨k, G, l, cssG, cssM⟩ hI2
            refine WC_seq (WC_region ?_)
            refine Lq (q_lss rfl rfl) ?_
            refine WL_nil (thenN (WC_seq ?_))
            refine WC_cond rfl (fun h33 => ?_) (fun h33 => ?_)
            · refine WC_skip (thenN (WC_seq (WC_block (WC_seq (WC_region ?_)))))
              refine Lq (q_move rfl) ?_
              refine Lq (q_assign rfl) ?_
              refine WL_nil (thenN (WC_seq ?_))
              have hk : k < G.length := by simp only [decide_eq_true_eq] at h33; have := hI.lenF; have := hI2.len; omega
              have hi2 : i < ys.length := by have := hI.lenL; omega
              have hk2 : k < xs.length := by have := hI.lenF; have := hI2.len; omega
              refine WC_reps (k := i) (u := l) (.head _) (by simp [hi]) (op_open _) fun yl hyl => ?_
              refine WC_reps (k := k) (.tail _ (.tail _ (.head _))) (List.getElem?_eq_getElem hk) (op_open _) fun yf hyf => ?_
              refine WC_repsLen (.tail _ (.tail _ (.head _))) fun hlM hlsM => ?_
              refine WC_repsLen (.tail _ (.tail _ (.tail _ (.head _)))) fun hlG hlsG => ?_
              rw [List.length_set] at hlM
              refine WC_draw _ _ [11] (.c 0 0 (.c 1 0 (.c 2 0 (.c 3 0 (.c 4 0 (.c 5 0 (.c 6 0 (.c 7 0 (.c 8 4 (.c 9 4 (.c 10 2 (.c 11 3 .nil)))))))))))) mixed (fun _ _ _ _ h => h) (List.Sublist.cons_cons _ (List.Sublist.cons_cons _ (List.Sublist.refl _))) (fun _ h => h) (by kernel_rfl) (by decide) fun ws Z0 => ?_
              refine Qe rfl (q_move rfl) ?_
              refine Qe rfl (q_move rfl) ?_
              refine Qe rfl (q_idxOwn Tryd.underlying45 ti31 rfl rfl (by omega) (by omega)) ?_
              refine Qe rfl (q_loadR (i := i) Tryd.underlying31 rfl ti31 rfl (by simp) own0 hlsM hyl) ?_
              refine Qe rfl (q_move rfl) ?_
              refine Qe rfl (q_move rfl) ?_
              refine Qe rfl (q_idxOwn Tryd.underlying45 ti31 rfl rfl (by omega) (by omega)) ?_
              refine Qe rfl (q_loadR (i := k) Tryd.underlying31 rfl ti31 rfl (by simp) (ownS (own0)) hlsG hyf) ?_
              refine WE_alloc2 rfl rfl (cs1 := [_, _, _, _, _, _, _, _, _]) (cs2 := [_, _, _, _, _, _, _, _, _]) ti31 rfl ti31 rfl (by decide) (by decide) (by decide) (List.Sublist.cons_cons _ (List.Sublist.cons_cons _ (List.Sublist.refl _))) (.head _) fun b9 b10 => ?_
              refine WE_main rfl rfl (OW_storeN (cs' := [_, _, _, _, _, _, _, _, _]) (vs := [_, _, _, _, _, _, _, _, _]) ti31 rfl rfl rfl rfl rfl (Nat.le_of_ble_eq_true rfl) (.s (.z)) ?_)
              refine ⟨⟨(List.Sublist.cons _ (List.Sublist.cons _ (List.Sublist.cons_cons _ (List.Sublist.cons_cons _ (List.Sublist.refl _))))), (.head _)⟩, ?_⟩
              refine WE_end (WF_last rfl rfl (OW_storeN (cs' := [_, _, _, _, _, _, _, _, _]) (vs := [_, _, _, _, _, _, _, _, _]) ti31 rfl rfl rfl rfl rfl (Nat.le_of_ble_eq_true rfl) (.z) ?_))
              refine WF_nil ?_
              refine thenN (WC_seq (WC_seq (WC_region ?_)))
              refine Lq (q_move rfl) ?_
              refine Lq (q_move rfl) ?_
              refine Lq (q_loadN (vs := [_, _, _, _, _, _, _, _, _]) Tryd.underlying31 rfl ti31 rfl (ownS (own0)) rfl rfl) ?_
              refine Lq (q_loadN (vs := [_, _, _, _, _, _, _, _, _]) Tryd.underlying31 rfl ti31 rfl own0 rfl rfl) ?_
              refine WL_main rfl (OW_call0 (include_s l G[k] yl.1 yf.1 yl.2 yf.2 true hI2.fitl (hI2.fit _ (List.getElem_mem hk))) (.cons rfl (.cons rfl (.cons rfl (.nil)))) (by decide) (memc (.tail _ (.tail _ (.tail _ (.tail _ (.tail _ (.tail _ (.head _))))))) (memc (.tail _ (.tail _ (.head _))) mem0)) fun u16_4 Lo fs hres => ?_)
              obtain ⟨A1, c1, rfl, rfl, rfl⟩ := hres
              refine Lq (q_move rfl) ?_
              refine Lq (q_extract (vs := [_, _]) rfl rfl) ?_
              refine Lq (q_extract (vs := [_, _]) rfl rfl) ?_
              refine Lq (q_idxOwn Tryd.underlying45 ti31 rfl rfl (by omega) (by omega)) ?_
              refine WL_main rfl (OW_storeR (i := i) (c := opC (includeF l G[k] true).1 A1 c1) ti31 rfl (by simp) rfl rfl rfl hlsM (by omega) (.s (.s (.z))) ?_)
              refine WL_repsSet (xs' := L.set i (includeF l G[k] true).1) i (.tail _ (.tail _ (.tail _ (.tail _ (.head _))))) (fun Z w hs => ⟨A1, c1, rfl, hs.facts _ (.head _)⟩) (by rw [List.set_set]) ?_
              refine Lq (q_assign rfl) ?_
              refine WL_nil (thenN (WC_seq (WC_region ?_)))
              refine Lq (q_move rfl) ?_
              refine Lq (q_neq rfl rfl) ?_
              refine WL_nil (thenN ?_)
              refine WC_cond rfl (fun h53 => ?_) (fun h53 => ?_)
              · refine WC_seq (WC_region ?_)
                refine Lq (q_move rfl) ?_
                refine Lq (q_assign rfl) ?_
                refine Lq (q_assign rfl) ?_
                refine Lq (q_assign rfl) ?_
                refine WL_nil (thenN (WC_ret (thenRet (blockRet (thenRet (thenRet (blockRet ?_)))))))
                refine blockRet (thenRet (thenRet (blockRet (thenRet ?_))))
                refine ⟨_, [], [RdF opD none 0 [], RdF opD none 0 []], fun Z w hs => .tmp rfl (.tmp rfl (.tmp rfl (.nil))), ?_, fun Z w hs => hs.out (List.Sublist.cons _ (List.Sublist.cons _ (List.Sublist.cons _ (List.Sublist.cons _ (List.Sublist.refl _))))) (memc (.tail _ (.tail _ (.tail _ (.tail _ (.tail _ (.tail _ (.tail _ (.head _)))))))) (memc (.tail _ (.tail _ (.tail _ (.tail _ (.tail _ (.tail _ (.tail _ (.head _)))))))) (fun _ h => .tail _ (.tail _ (.tail _ (.tail _ (.tail _ (.tail _ (.tail _ (.tail _ h))))))))))⟩
                try simp only [Bq0, Bq1, Bq2, Bq3, Bq4, Bq5, Bq6, Bq7, Bq8, Bq9, Bq10, Bq11, Bq12] at *
                have hF : crossF xs ys = _ := crossF_3 (by omega) (by omega) (hI.err hi (hI2.err1 hk (by omega)))
                exact ⟨none, 0, none, 0, by rw [hF]; rfl, rfl, by rw [hF]⟩
              · refine WC_skip (thenN (WC_seq (WC_region ?_)))
                refine Lq (q_move rfl) ?_
                refine Lq (q_move rfl) ?_
                refine Lq (q_loadN (vs := [_, _, _, _, _, _, _, _, _]) Tryd.underlying31 rfl ti31 rfl own0 rfl rfl) ?_
                refine Lq (q_loadN (vs := [_, _, _, _, _, _, _, _, _]) Tryd.underlying31 rfl ti31 rfl (ownS (own0)) rfl rfl) ?_
                refine WL_main rfl (OW_call0 (include_s G[k] l yf.1 yl.1 yf.2 yl.2 false (hI2.fit _ (List.getElem_mem hk)) hI2.fitl) (.cons rfl (.cons rfl (.cons rfl (.nil)))) (by decide) (memc (.tail _ (.tail _ (.tail _ (.tail _ (.tail _ (.tail _ (.tail _ (.tail _ (.head _))))))))) (memc (.tail _ (.tail _ (.tail _ (.head _)))) mem0)) fun u19_4 Lo fs hres => ?_)
                obtain ⟨A2, c2, rfl, rfl, rfl⟩ := hres
                refine Lq (q_move rfl) ?_
                refine Lq (q_extract (vs := [_, _]) rfl rfl) ?_
                refine Lq (q_extract (vs := [_, _]) rfl rfl) ?_
                refine Lq (q_idxOwn Tryd.underlying45 ti31 rfl rfl (by omega) (by omega)) ?_
                refine WL_main rfl (OW_storeR (i := k) (c := opC (includeF G[k] l false).1 A2 c2) ti31 rfl (by simp) rfl rfl rfl hlsG (by omega) (.s (.s (.s (.z)))) ?_)
                refine WL_repsSet k (.tail _ (.tail _ (.tail _ (.tail _ (.tail _ (.tail _ (.tail _ (.head _)))))))) (fun Z w hs => ⟨A2, c2, rfl, hs.facts _ (.head _)⟩) rfl ?_
                refine Lq (q_assign rfl) ?_
                refine WL_nil (thenN (WC_seq (WC_region ?_)))
                refine Lq (q_move rfl) ?_
                refine Lq (q_neq rfl rfl) ?_
                refine WL_nil (thenN ?_)
                refine WC_cond rfl (fun h65 => ?_) (fun h65 => ?_)
                · refine WC_seq (WC_region ?_)
                  refine Lq (q_move rfl) ?_
                  refine Lq (q_assign rfl) ?_
                  refine Lq (q_assign rfl) ?_
                  refine Lq (q_assign rfl) ?_
                  refine WL_nil (thenN (WC_ret (blockRet (thenRet (thenRet (blockRet (blockRet ?_)))))))
                  refine thenRet (thenRet (blockRet (thenRet ?_)))
                  refine ⟨_, [], [RdF opD none 0 [], RdF opD none 0 []], fun Z w hs => .tmp rfl (.tmp rfl (.tmp rfl (.nil))), ?_, fun Z w hs => hs.out (List.Sublist.cons _ (List.Sublist.cons _ (List.Sublist.cons _ (List.Sublist.cons _ (List.Sublist.refl _))))) (memc (.tail _ (.tail _ (.tail _ (.tail _ (.tail _ (.tail _ (.tail _ (.tail _ (.tail _ (.head _)))))))))) (memc (.tail _ (.tail _ (.tail _ (.tail _ (.tail _ (.tail _ (.tail _ (.tail _ (.tail _ (.head _)))))))))) (fun _ h => .tail _ (.tail _ (.tail _ (.tail _ (.tail _ (.tail _ (.tail _ (.tail _ (.tail _ (.tail _ h))))))))))))⟩
                  try simp only [Bq0, Bq1, Bq2, Bq3, Bq4, Bq5, Bq6, Bq7, Bq8, Bq9, Bq10, Bq11, Bq12] at *
                  have hF : crossF xs ys = _ := crossF_3 (by omega) (by omega) (hI.err hi (hI2.err2 hk (by omega) (by omega)))
                  exact ⟨none, 0, none, 0, by rw [hF]; rfl, rfl, by rw [hF]⟩
                · refine WC_skip (blockN (thenN (WC_region ?_)))
                  refine Lq (q_add rfl rfl (wr64 (by omega))) ?_
                  refine Lq (q_move rfl) ?_
                  refine WL_nil (thenK ?_)
                  refine ⟨(k + 1, G.set k (includeF G[k] l false).1, (includeF l G[k] true).1, cssG.set k (opC (includeF G[k] l false).1 A2 c2), cssM.set i (opC (includeF l G[k] true).1 A1 c1)), ?_, (.cons rfl (.cons rfl (.cons rfl (.cons rfl (.cons rfl (.cons rfl (.cons rfl (.nil _)))))))), (List.Sublist.cons _ (List.Sublist.cons _ (List.Sublist.cons_cons _ (List.Sublist.cons_cons _ (List.Sublist.refl _))))), (memc (.tail _ (.tail _ (.head _))) (memc (.head _) (fun _ h => .tail _ (.tail _ (.tail _ (.tail _ (.tail _ (.tail _ (.tail _ (.tail _ (.tail _ h)))))))))))⟩
                  try simp only [Bq0, Bq1, Bq2, Bq3, Bq4, Bq5, Bq6, Bq7, Bq8, Bq9, Bq10, Bq11, Bq12] at *
                  exact ⟨by show xs.length - (k + 1) < xs.length - k; omega, hI2.next hk (by omega) (by omega)⟩
            · refine WC_exit (thenExit (thenExit (blockHit (blockN (thenN (WC_region ?_))))))
              refine Lq (q_add rfl rfl (wr64 (by have := hI.lenL; omega))) ?_
              refine Lq (q_move rfl) ?_
              refine WL_nil (thenK ?_)
              refine ⟨(i + 1, G, L.set i l, cssG, cssM), ?_, (.cons rfl (.cons rfl (.cons rfl (.cons rfl (.nil _))))), (List.Sublist.cons_cons _ (List.Sublist.cons_cons _ (List.Sublist.refl _))), (fun _ h => h)⟩
              try simp only [Bq0, Bq1, Bq2, Bq3, Bq4, Bq5, Bq6, Bq7, Bq8, Bq9, Bq10, Bq11, Bq12] at *
              exact ⟨by show ys.length - (i + 1) < ys.length - i; omega, hI.next hi (hI2.done (by have := hI.lenF; have := hI2.len; omega)) hI2.len hI2.fit hI2.fitl⟩
        · refine WC_exit (thenExit (thenExit (blockHit (thenN (WC_seq ?_)))))
          try simp only [Bq0, Bq1, Bq2, Bq3, Bq4, Bq5, Bq6, Bq7, Bq8, Bq9, Bq10, Bq11, Bq12] at *
          have hcr := hI.done (by have := hI.lenL; omega)
          refine WC_repsLen (.head _) fun hlL hlsL => ?_
          refine WC_repsLen (.tail _ (.head _)) fun hlF hlsF => ?_
          refine WC_freeze (e := opD) (css := cssL) (xs := L) (Row.again hL1 hL2 hL3 hL4 (by have := hI.lenL; omega) hlsL) (.z) (by have := hI.lenL; omega) (.head _) fun AL cL' eL => ?_
          obtain ⟨rfl, _, rfl⟩ := Value.slice.inj eL
          refine WC_freeze (e := opD) (css := cssF) (xs := F) (Row.again hF1 hF2 hF3 hF4 (by have := hI.lenF; omega) hlsF) (.z) (by have := hI.lenF; omega) (.tail _ (.tail _ (.head _))) fun AF cF' eF => ?_
          obtain ⟨rfl, _, rfl⟩ := Value.slice.inj eF
          refine WC_region ?_
          refine Lq (q_move rfl) ?_
          refine Lq (q_move rfl) ?_
          refine Lq (q_assign rfl) ?_
          refine Lq (q_assign rfl) ?_
          refine Lq (q_assign rfl) ?_
          refine WL_nil (thenN (WC_ret ?_))
          refine ⟨_, [], [RdF opD (some ⟨bF, 0, none⟩) cF F, RdF opD (some ⟨bL, 0, none⟩) cL L], fun Z w hs => .tmp rfl (.tmp rfl (.tmp rfl (.nil))), ?_, fun Z w hs => hs.out (List.Sublist.refl _) (memc (.head _) (memc (.tail _ (.head _)) (fun _ h => .tail _ (.tail _ (.tail _ (.tail _ (.tail _ h)))))))⟩
          have hF := crossF_4 (by omega) (by omega) hcr
          exact ⟨some ⟨bF, 0, none⟩, cF, some ⟨bL, 0, none⟩, cL, by rw [hF, hI.lenF, hI.lenL]; rfl, rfl, by rw [hF]⟩

end Go.Proofs.YtggdddkbhigjoaaDoor
/- Walks: history, what it tells of itself. -/
namespace Go.Proofs.YtggdddkbhigjoaaDoor
open Go Go.GW
theorem ops_len (H : Hist) : H.ops.length = H.ents.length := by simp [Hist.ops]
theorem ops_at {H : Hist} {k : Nat} (h : k < H.ents.length) : H.ops[k]'(by rw [ops_len]; exact h) = H.ents[k].op := by simp [Hist.ops]
theorem bd97_1Xw12 (x1_ : Option Nat) (w : World) : (Instr.build 97 #[(1, .map x1_)]).run Tryd.prog w = .ok (.agg #[.slice none 0 0, .map x1_, .int .i64 0]) w := by kernel_rfl

set_option maxRecDepth 10000 in
theorem new_s : Sp Tryd.prog 9 [] [] [] (fun v Lo fs => ∃ h m, v = .pointer (some ⟨h, 0, none⟩) ∧ Lo = [hdP h none 0 0 m 0, mpP m [], mkP []] ∧ fs = [RdF opD none 0 [], AllF ([] : List MR) nowF]) := by
  refine Sp.of (n := 4) ⟨_, Tryd.func9, rfl, rfl, rfl, rfl⟩ (Nat.le_of_ble_eq_true rfl) fun Ps As => ?_
  refine WC_seq (WC_region ?_)
  refine Lq (q_assign rfl) ?_
  refine WL_nil (thenN (WC_seq ?_))
  refine WC_nilPart ?_
  refine WC_fact (A := AllF ([] : List MR) nowF) (fun Z w hs x hx => by cases hx) ?_
  refine WC_fact (A := RdF opD none 0 []) (fun Z w hs => RdS.nil _ _ _) ?_
  refine WC_region ?_
  refine WL_main rfl (OW_makeMap (by decide) fun b1 => ?_)
  refine Lq (q_build (.cons rfl (.nil)) (bd97_1Xw12 _)) ?_
  refine WL_main rfl (OW_box (cs := [_, _, _]) rfl rfl (by decide) fun b3 => ?_)
  refine Lq (q_assign rfl) ?_
  refine WL_nil (thenN (WC_ret ?_))
  refine ⟨_, [_, _, _], [_, _], fun Z w hs => .tmp rfl (.nil), ?_, fun Z w hs => hs.out (List.Sublist.cons_cons _ (List.Sublist.cons_cons _ (List.Sublist.cons_cons _ (List.Sublist.refl _)))) (fun _ h => h)⟩
  exact ⟨b3, b1, rfl, rfl, rfl⟩


set_option maxRecDepth 10000 in
theorem hlen_s (h m len cap : Nat) (A : Option Addr) (total : Int) : Sp Tryd.prog 13 [.pointer (some ⟨h, 0, none⟩)] [hdP h A len cap m total] [] (fun v Lo fs => v = .int .i64 len ∧ Lo = [hdP h A len cap m total] ∧ fs = []) := by
  refine Sp.of (n := 8) ⟨_, Tryd.func13, rfl, rfl, rfl, rfl⟩ (Nat.le_of_ble_eq_true rfl) fun Ps As => ?_
  refine WC_seq (WC_region ?_)
  refine Lq (q_assign rfl) ?_
  refine WL_nil (thenN (WC_seq (WC_region ?_)))
  refine Lq (q_move rfl) ?_
  refine Lq (q_nil rfl) ?_
  refine Lq (q_field (o' := 0) Tryd.underlying97 rfl ti45 rfl rfl) ?_
  refine Lq (q_load1 Tryd.underlying45 rfl rfl own0 rfl) ?_
  refine Lq (q_len Tryd.underlying45 rfl) ?_
  refine Lq (q_assign rfl) ?_
  refine WL_nil (thenN (WC_ret ?_))
  refine ⟨_, [_], [], fun Z w hs => .tmp rfl (.nil), ?_, fun Z w hs => hs.out (List.Sublist.cons_cons _ (List.Sublist.refl _)) (fun _ h => h)⟩
  exact ⟨rfl, rfl, rfl⟩


set_option maxRecDepth 10000 in
theorem htotal_s (h m len cap : Nat) (A : Option Addr) (total : Int) : Sp Tryd.prog 14 [.pointer (some ⟨h, 0, none⟩)] [hdP h A len cap m total] [] (fun v Lo fs => v = .int .i64 total ∧ Lo = [hdP h A len cap m total] ∧ fs = []) := by
  refine Sp.of (n := 7) ⟨_, Tryd.func14, rfl, rfl, rfl, rfl⟩ (Nat.le_of_ble_eq_true rfl) fun Ps As => ?_
  refine WC_seq (WC_region ?_)
  refine Lq (q_assign rfl) ?_
  refine WL_nil (thenN (WC_seq (WC_region ?_)))
  refine Lq (q_move rfl) ?_
  refine Lq (q_nil rfl) ?_
  refine Lq (q_field (o' := 2) Tryd.underlying97 rfl ti3 rfl rfl) ?_
  refine Lq (q_load1 Tryd.underlying3 rfl rfl own0 rfl) ?_
  refine Lq (q_assign rfl) ?_
  refine WL_nil (thenN (WC_ret ?_))
  refine ⟨_, [_], [], fun Z w hs => .tmp rfl (.nil), ?_, fun Z w hs => hs.out (List.Sublist.cons_cons _ (List.Sublist.refl _)) (fun _ h => h)⟩
  exact ⟨rfl, rfl, rfl⟩


set_option maxRecDepth 10000 in
theorem before_s (h m cap : Nat) (A : Option Addr) (H : Hist) (L : List MR) (hr : HR H L) (i : Nat) (hi : i ≤ H.ents.length) : Sp Tryd.prog 66 [.pointer (some ⟨h, 0, none⟩), .int .i64 i] [hdP h A H.ops.length cap m H.total] [barF, RdF opD A cap H.ops] (fun v Lo fs => v = .int .i64 (beforeF H i) ∧ Lo = [hdP h A H.ops.length cap m H.total] ∧ fs = []) := by
  have hol := ops_len H
  have hlen := hr.len
  refine Sp.of (n := 25) ⟨_, Tryd.func66, rfl, rfl, rfl, rfl⟩ (Nat.le_of_ble_eq_true rfl) fun Ps As => ?_
  refine WC_seq (WC_region ?_)
  refine Lq (q_assign rfl) ?_
  refine WL_nil (thenN (WC_seq (WC_region ?_)))
  refine Lq (q_assign rfl) ?_
  refine WL_nil (thenN (WC_seq (WC_seq ?_)))
  refine WC_capLe (.tail _ (.head _)) fun hcap hcap2 => ?_
  obtain ⟨B, hB⟩ : ∃ B, B = cutA A 0 cap 9 := ⟨_, rfl⟩
  refine WC_fact (A := RdF opD B cap (H.ops.take i)) (fun Z w hs => by rw [hB]; exact RdS.cut (lo := 0) (hi := i) (m := cap) (hs.facts _ (.tail _ (.head _))) (Nat.zero_le _) (by omega) (by omega) (Nat.le_refl _)) ?_
  refine WC_region ?_
  refine Lq (q_move rfl) ?_
  refine Lq (q_nil rfl) ?_
  refine Lq (q_field (o' := 0) Tryd.underlying97 rfl ti45 rfl rfl) ?_
  refine Lq (q_load1 Tryd.underlying45 rfl rfl own0 rfl) ?_
  refine Lq (q_move rfl) ?_
  refine Lq (q_cutHi Tryd.underlying45 ti31 rfl rfl (by omega) (by omega)) ?_
  refine Lq (q_len Tryd.underlying45 rfl) ?_
  refine Lq (q_move rfl) ?_
  refine WL_nil (thenN (WC_block ?_))
  refine WC_loopE (α := Nat) (fun k => i - k)
    (fun k => [(5, .int .i64 (sumW (H.ents.take k))), (13, .slice B i cap), (14, .int .i64 i), (15, .int .i64 k)])
    (fun k => (hdP h A H.ops.length cap m H.total :: Ps))
    (fun k => (RdF opD B cap (H.ops.take i) :: barF :: RdF opD A cap H.ops :: As))
    (fun k => k ≤ i)
    0 ?_ (.cons rfl (.cons (by rw [hB]; rfl) (.cons rfl (.cons rfl (.nil _))))) (List.Sublist.cons_cons _ (List.Sublist.refl _)) (fun _ h => h) ?_
  · exact Nat.zero_le _
  · rintro k hI
    refine WC_seq (WC_region ?_)
    refine Lq (q_lss rfl rfl) ?_
    refine WL_nil (thenN (WC_seq ?_))
    refine WC_cond rfl (fun h16 => ?_) (fun h16 => ?_)
    · refine WC_skip (thenN (WC_seq (WC_block (WC_seq ?_))))
      try simp only [Bq0, Bq1, Bq2, Bq3, Bq4, Bq5, Bq6, Bq7, Bq8, Bq9, Bq10, Bq11, Bq12] at *
      have hk : k < (H.ops.take i).length := by rw [List.length_take]; omega
      have hke : k < H.ents.length := by rw [List.length_take] at hk; omega
      have hop : (H.ops.take i)[k] = H.ents[k].op := by rw [List.getElem_take, ops_at]
      refine WC_elem (k := k) (.head _) (List.getElem?_eq_getElem hk) (op_open _) fun b4 q4 y4 e4 => ?_
      cases e4
      refine WC_region ?_
      refine Lq (q_idxRd Tryd.underlying45 ti31 rfl rfl (by omega) (by omega)) ?_
      refine Lq (q_loadFN (k := 0) (vs := [_, _, _, _, _, _, _, _, _]) Tryd.underlying31 rfl ti31 rfl (.head _) rfl rfl rfl) ?_
      refine WL_main rfl (OW_alloc (cs := [_, _, _, _, _, _, _, _, _]) ti31 rfl (by decide) fun b7 => ?_)
      refine WL_main rfl (OW_storeN (cs' := [_, _, _, _, _, _, _, _, _]) (vs := [_, _, _, _, _, _, _, _, _]) ti31 rfl rfl rfl rfl rfl (Nat.le_of_ble_eq_true rfl) (.z) ?_)
      refine WL_nil (thenN (WC_region ?_))
      refine Lq (q_move rfl) ?_
      refine Lq (q_loadN (vs := [_, _, _, _, _, _, _, _, _]) Tryd.underlying31 rfl ti31 rfl own0 rfl rfl) ?_
      refine WL_main rfl (OW_call0 (width_s (H.ops.take i)[k] y4.1 y4.2 (by have := (hr.fit _ (List.getElem_mem hke)).text; rw [hop]; omega)) (.cons rfl (.nil)) (by decide) (memc (.tail _ (.tail _ (.tail _ (.head _)))) mem0) fun u5_2 Lo fs hres => ?_)
      obtain ⟨rfl, rfl, rfl⟩ := hres
      refine Lq (q_add rfl rfl (wr64 (by have h1 := sumW_le (H.ents.take k) (fun e he => hr.wid e (List.mem_of_mem_take he)); have h2 := hr.wid _ (List.getElem_mem hke); have h3 := widthF_le (H.ops.take i)[k]; rw [hop] at h3; rw [hop]; rw [List.length_take] at h1; omega))) ?_
      refine Lq (q_assign rfl) ?_
      refine WL_nil (blockN (thenN (WC_region ?_)))
      refine Lq (q_add rfl rfl (wr64 (by omega))) ?_
      refine Lq (q_move rfl) ?_
      refine WL_nil (thenK ?_)
      have hsum : sumW (H.ents.take k) + widthF (H.ops.take i)[k] = sumW (H.ents.take (k + 1)) := by
        rw [List.take_succ_eq_append_getElem hke, sumW_append, hop]; simp [sumW]
      refine ⟨k + 1, ?_, (.cons (congrArg (fun z => some (Value.int .i64 z)) hsum) (.cons rfl (.cons rfl (.cons rfl (.nil _))))), (List.Sublist.cons _ (List.Sublist.cons_cons _ (List.Sublist.refl _))), (fun _ h => .tail _ (.tail _ h))⟩
      exact ⟨by omega, by omega⟩
    · refine WC_exit (thenExit (thenExit (blockHit (thenN (WC_seq (WC_region ?_))))))
      refine Lq (q_move rfl) ?_
      refine Lq (q_assign rfl) ?_
      refine WL_nil (thenN (WC_ret ?_))
      try simp only [Bq0, Bq1, Bq2, Bq3, Bq4, Bq5, Bq6, Bq7, Bq8, Bq9, Bq10, Bq11, Bq12] at *
      obtain rfl : k = i := by omega
      refine ⟨_, [_], [], fun Z w hs => .tmp rfl (.nil), ?_, fun Z w hs => hs.out (List.Sublist.cons_cons _ (List.Sublist.refl _)) (fun _ h => .tail _ h)⟩
      exact ⟨rfl, rfl, rfl⟩

end Go.Proofs.YtggdddkbhigjoaaDoor
