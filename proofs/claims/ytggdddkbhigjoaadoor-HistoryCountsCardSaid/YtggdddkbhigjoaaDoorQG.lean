/- 'redraft/redraftlaw06.HistoryCounts' answers true, whatever its arguments and the world in which it is called: on every schedule and every choice; what is handed in reads as_ it did. Its condition: the table of package utext holds what its initialiser lays (the card ties that to the program's text). -/
import Derived.Test.YtggdddkbhigjoaaDoorTie
import Derived.Test.YtggdddkbhigjoaaDoorQF
set_option linter.unusedVariables false
set_option linter.unusedSimpArgs false
/- Places of inserts: each place is one insert's, and holds its text's rune. -/
namespace Go.Proofs.YtggdddkbhigjoaaDoor
open Go Go.GW
/-- The places of a list, one by one. -/
def placesF (rs : List Rg) : List Int := rs.flatMap fun r => (List.range (r.hi - r.lo).toNat).map fun (j : Nat) => r.lo + j
theorem places_cons (r : Rg) (rs : List Rg) : placesF (r :: rs) = ((List.range (r.hi - r.lo).toNat).map fun (j : Nat) => r.lo + j) ++ placesF rs := by simp [placesF]
theorem places_append (a b : List Rg) : placesF (a ++ b) = placesF a ++ placesF b := by simp [placesF]
theorem mem_run {lo hi q : Int} : q ∈ ((List.range (hi - lo).toNat).map fun (j : Nat) => lo + j) ↔ lo ≤ q ∧ q < hi := by
  simp only [List.mem_map, List.mem_range]
  constructor
  · rintro ⟨j, hj, rfl⟩; omega
  · intro h; exact ⟨(q - lo).toNat, by omega, by omega⟩
theorem mem_places {q : Int} : ∀ {rs : List Rg}, q ∈ placesF rs ↔ memR q rs
  | [] => by simp [placesF, memR]
  | r :: rs => by rw [places_cons, List.mem_append, mem_run, mem_places, memR_cons]
theorem run_sorted (lo : Int) (n : Nat) : ((List.range n).map fun (j : Nat) => lo + j).Pairwise (· < ·) := by
  rw [List.pairwise_map]
  exact List.pairwise_lt_range.imp fun h => by omega
theorem places_sorted : ∀ {b : Int} {rs : List Rg}, NormB b rs → (placesF rs).Pairwise (· < ·)
  | _, [], _ => List.Pairwise.nil
  | b, r :: rs, h => by
    rw [places_cons, List.pairwise_append]
    refine ⟨run_sorted _ _, places_sorted h.2.2, fun x hx y hy => ?_⟩
    have h1 := mem_run.1 hx
    have h2 := h.2.2.below (mem_places.1 hy)
    omega
theorem sorted_ext : ∀ {a b : List Int}, a.Pairwise (· < ·) → b.Pairwise (· < ·) → (∀ q, q ∈ a ↔ q ∈ b) → a = b
  | [], [], _, _, _ => rfl
  | [], y :: b, _, _, h => by have := (h y).2 List.mem_cons_self; cases this
  | x :: a, [], _, _, h => by have := (h x).1 List.mem_cons_self; cases this
  | x :: a, y :: b, h1, h2, h => by
    rw [List.pairwise_cons] at h1 h2
    have e : x = y := by
      rcases List.mem_cons.1 ((h x).1 List.mem_cons_self) with e | e
      · exact e
      · rcases List.mem_cons.1 ((h y).2 List.mem_cons_self) with e' | e'
        · exact e'.symm
        · have := h1.1 _ e'; have := h2.1 _ e; omega
    subst e
    rw [sorted_ext h1.2 h2.2 fun q => ?_]
    constructor
    · intro hq
      rcases List.mem_cons.1 ((h q).1 (List.mem_cons_of_mem _ hq)) with e | e
      · have := h1.1 _ hq; omega
      · exact e
    · intro hq
      rcases List.mem_cons.1 ((h q).2 (List.mem_cons_of_mem _ hq)) with e | e
      · have := h2.1 _ hq; omega
      · exact e
def shQ (at_ n q : Int) : Int := if q < at_ then q else q + n
theorem places_shift {T at_ n : Int} {xs : List Rg} (h : Pls T xs) (hT : 0 ≤ T) (ha : 0 ≤ at_ ∧ at_ ≤ T) (hn : 0 ≤ n) (hs : T + n ≤ 65535) : placesF (thrF xs at_ n).1 = (placesF xs).map (shQ at_ n) := by
  obtain ⟨t1, t2, t3, t4⟩ := thr_ok h hT ha hn hs
  refine sorted_ext (places_sorted t2.norm) ?_ fun q => ?_
  · rw [List.pairwise_map]
    exact (places_sorted h.norm).imp fun {x y} hxy => by unfold shQ; split <;> split <;> omega
  · rw [mem_places, t3, List.mem_map]
    constructor
    · rintro (⟨h1, h2⟩ | ⟨h1, h2⟩)
      · exact ⟨q, mem_places.2 h2, by unfold shQ; rw [if_pos h1]⟩
      · exact ⟨q - n, mem_places.2 h2, by unfold shQ; rw [if_neg (by omega)]; omega⟩
    · rintro ⟨p, hp, rfl⟩
      have hp := mem_places.1 hp
      unfold shQ
      split
      · exact .inl ⟨by assumption, hp⟩
      · exact .inr ⟨by omega, by rw [Int.add_sub_cancel]; exact hp⟩
/-! ### What an entry is of, and what it stands for -/
abbrev Sig := Int × ByteArray × List Rg
def sigE (e : Ent) : Sig := (e.op.kind, e.op.text, e.now)
def sigs (es : List Ent) : List Sig := es.map sigE
theorem sigs_zipE : ∀ (xs : List GOp) (es : List Ent), Sames (es.map (·.op)) xs → sigs (zipE xs es) = sigs es
  | [], [], _ => rfl
  | x :: xs, e :: es, h => by
    cases h with
    | cons h hr => show sigE ⟨x, e.now, e.off⟩ :: sigs (zipE xs es) = _ ; rw [sigs_zipE xs es hr]; unfold sigs sigE; simp only [List.map_cons, h.kind, h.text]
  | [], e :: es, h => by cases h
  | x :: xs, [], h => by cases h
theorem sigs_new {i : Nat} {o : GOp} {nw : List Rg} {es : List Ent} {later : List GOp} (h : Sames ((es.drop i).map (·.op)) later) : sigs (newEnts i o nw es later) = insAt (sigs es) i (o.kind, o.text, nw) := by
  unfold newEnts insAt
  have := sigs_zipE _ _ h
  unfold sigs at *
  rw [List.map_append, List.map_cons, this, List.map_take, List.map_drop]; rfl
theorem sigs_turned (H : Hist) (i : Nat) (o : GOp) : sigs (turnedF H i o).1 = sigs H.ents := by
  rcases turned_cases H i o with e | ⟨k, e, h1, h2, h3, h4, h5⟩
  · rw [e]
  · rw [h5]
    show sigs (H.ents.set k (offE e (!o.on))) = _
    have hk : k < H.ents.length := by
      rcases Nat.lt_or_ge k H.ents.length with h | h
      · exact h
      · rw [List.getElem?_eq_none h] at h2; cases h2
    rw [List.getElem?_eq_getElem hk] at h2
    have e1 : sigE (offE e (!o.on)) = (sigs H.ents)[k]'(by unfold sigs; rw [List.length_map]; exact hk) := by
      unfold sigs; rw [List.getElem_map, Option.some.inj h2]; rfl
    unfold sigs
    rw [List.map_set]
    unfold sigs at e1
    rw [e1, List.set_getElem_self]
theorem insAt_mem {α : Type} {l : List α} {i : Nat} {x y : α} : y ∈ insAt l i x ↔ y = x ∨ y ∈ l := by
  unfold insAt
  conv => rhs; rw [← List.take_append_drop i l]
  rw [List.mem_append, List.mem_cons, List.mem_append]
  constructor
  · rintro (h | h | h)
    · exact .inr (.inl h)
    · exact .inl h
    · exact .inr (.inr h)
  · rintro (h | h | h)
    · exact .inr (.inl h)
    · exact .inl h
    · exact .inr (.inr h)
theorem insAt_countP {α : Type} (f : α → Bool) (l : List α) (i : Nat) (x : α) : (insAt l i x).countP f = l.countP f + (if f x = true then 1 else 0) := by
  unfold insAt
  conv => rhs; rw [← List.take_append_drop i l, List.countP_append]
  rw [List.countP_append, List.countP_cons]; omega
def mkOf (q : Int) (s : Sig) : Bool := decide (s.1 = 1) && inRb q s.2.2
structure Mk (S : List Sig) (T : Int) (X : List Ce) : Prop where
  text : ∀ s ∈ S, s.1 = 1 → (placesF s.2.2).map (fun q => (X[q.toNat]?).map (·.1)) = (runesF s.2.1).map some
  one : ∀ q, 0 ≤ q → q < T → S.countP (mkOf q) = 1
theorem Mk.same {S : List Sig} {T : Int} {X X' : List Ce} (h : Mk S T X) (hx : ∀ q : Nat, (X'[q]?).map (·.1) = (X[q]?).map (·.1)) {i : Nat} {s : Sig} (hs : s.1 ≠ 1) : Mk (insAt S i s) T X' := by
  refine ⟨fun t ht hk => ?_, fun q h0 h1 => ?_⟩
  · rcases insAt_mem.1 ht with rfl | ht
    · exact absurd hk hs
    · rw [← h.text t ht hk]
      exact List.map_congr_left fun q _ => hx q.toNat
  · rw [insAt_countP, h.one q h0 h1]
    have : mkOf q s = false := by unfold mkOf; simp [hs]
    rw [this]; simp
theorem countP_map_shift {T at_ n : Int} (q : Int) (ha : 0 ≤ at_ ∧ at_ ≤ T) (hn : 0 ≤ n) (hs : T + n ≤ 65535) : ∀ (S : List Sig), (∀ s ∈ S, Pls T s.2.2) → (S.map fun s => (s.1, s.2.1, (thrF s.2.2 at_ n).1)).countP (mkOf q) = if q < at_ then S.countP (mkOf q) else if q < at_ + n then 0 else S.countP (mkOf (q - n))
  | [], _ => by simp
  | s :: S, h => by
    have ih := countP_map_shift q ha hn hs S fun x hx => h x (List.mem_cons_of_mem _ hx)
    obtain ⟨t1, t2, t3, t4⟩ := thr_ok (h s List.mem_cons_self) (by omega) ha hn hs
    have e2 : inRb q (thrF s.2.2 at_ n).1 = if q < at_ then inRb q s.2.2 else if q < at_ + n then false else inRb (q - n) s.2.2 := by
      rw [Bool.eq_iff_iff]
      rw [inRb_iff, t3 q]
      by_cases c1 : q < at_
      · rw [if_pos c1, inRb_iff]
        constructor
        · rintro (h | h)
          · exact h.2
          · omega
        · intro h; exact .inl ⟨c1, h⟩
      · rw [if_neg c1]
        by_cases c2 : q < at_ + n
        · rw [if_pos c2]
          constructor
          · rintro (h | h) <;> omega
          · intro h; cases h
        · rw [if_neg c2, inRb_iff]
          constructor
          · rintro (h | h)
            · omega
            · exact h.2
          · intro h; exact .inr ⟨by omega, h⟩
    rw [List.map_cons, List.countP_cons, ih]
    have e3 : mkOf q (s.1, s.2.1, (thrF s.2.2 at_ n).1) = (decide (s.1 = 1) && inRb q (thrF s.2.2 at_ n).1) := rfl
    rw [e3, e2]
    by_cases c1 : q < at_
    · simp only [if_pos c1]; rw [List.countP_cons]; rfl
    · by_cases c2 : q < at_ + n
      · simp only [if_neg c1, if_pos c2]; simp
      · simp only [if_neg c1, if_neg c2]; rw [List.countP_cons]; rfl
theorem put_mk {H : Hist} (h : HV H) {i : Nat} {o : GOp} {es : List Ent} {nw : List Rg} {eff : GOp} (g : Good H i o) (p : PutIs H i o es nw eff) {X : List Ce} (hr : Rule H X) (hm : Mk (sigs H.ents) H.total X) : Mk (sigs (newEnts i o nw es (carryF o (H.ops.drop i)).2)) (H.total + widthF o) (applyRow eff X) := by
  obtain ⟨c1, c2, c3, c4, c5⟩ := cross_good h g
  have h0 := h.total0
  have hs := p.sames h g
  have hroom := g.room
  have hwid := g.right.width
  have hlen := hr.len
  rw [sigs_new hs]
  have hpl : ∀ s ∈ sigs H.ents, Pls H.total s.2.2 := fun s hs => by obtain ⟨e, he, rfl⟩ := List.mem_map.1 hs; exact h.pls e he
  rcases g.right.kind with hk | hk | hk
  · obtain ⟨e1, e2, e3⟩ := p.ins hk
    have hti := c2.ins (c4.kind.trans hk)
    have hw2 : widthF (carryF o (H.ops.drop i)).1 = widthF o := c4.width
    have hwk := (hwid.2.2.1 hk).2
    have hrun := runes_width g.right hk
    generalize hta : (carryF o (H.ops.drop i)).1.at_ = ta at *
    have hek : eff.kind = 1 := by rw [e3]; exact hk
    have hes : sigs es = (sigs H.ents).map fun s => (s.1, s.2.1, (thrF s.2.2 ta (widthF o)).1) := by rw [e1]; unfold sigs; rw [List.map_map, List.map_map]; rfl
    have happ : applyRow eff X = X.take ta.toNat ++ (cellsOf (runesF o.text) 0 ++ X.drop ta.toNat) := by unfold applyRow; rw [if_pos hek, e3]
    have el1 : (X.take ta.toNat).length = ta.toNat := by rw [List.length_take]; omega
    have hlo : ∀ q : Nat, q < ta.toNat → (applyRow eff X)[q]? = X[q]? := fun q hq => by rw [happ, List.getElem?_append_left (by omega), List.getElem?_take, if_pos hq]
    have hhi : ∀ q : Nat, ta.toNat + (widthF o).toNat ≤ q → (applyRow eff X)[q]? = X[q - (widthF o).toNat]? := fun q hq => by
      rw [happ, List.getElem?_append_right (by omega), List.getElem?_append_right (by rw [cellsOf_length]; omega), cellsOf_length, List.getElem?_drop]
      congr 1; omega
    have hmid : ∀ j : Nat, j < (runesF o.text).length → ((applyRow eff X)[ta.toNat + j]?).map (·.1) = (runesF o.text)[j]? := fun j hj => by
      rw [happ, List.getElem?_append_right (by omega), List.getElem?_append_left (by rw [cellsOf_length]; omega), el1, Nat.add_sub_cancel_left]
      unfold cellsOf; rw [List.getElem?_map, Option.map_map, show ((fun c : Ce => c.1) ∘ fun c : Int => ((c, 0) : Ce)) = id from rfl, Option.map_id]; rfl
    rw [hes, e2]
    refine ⟨fun s hs2 hk2 => ?_, fun q hq0 hq1 => ?_⟩
    · rcases insAt_mem.1 hs2 with rfl | hs2
      · show (placesF [⟨ta, ta + widthF o⟩]).map _ = (runesF o.text).map some
        rw [places_cons, show placesF [] = [] from rfl, List.append_nil, List.map_map]
        dsimp only
        rw [show (ta + widthF o - ta).toNat = (runesF o.text).length from by omega]
        apply List.ext_getElem?
        intro j
        rw [List.getElem?_map, List.getElem?_map]
        by_cases hj : j < (runesF o.text).length
        · rw [List.getElem?_range (by omega)]
          simp only [Option.map_some, Function.comp]
          rw [show (ta + (j : Int)).toNat = ta.toNat + j from by omega, hmid j hj, List.getElem?_eq_getElem hj]; rfl
        · rw [List.getElem?_eq_none (by rw [List.length_range]; omega), List.getElem?_eq_none (by omega)]; rfl
      · obtain ⟨t, ht, rfl⟩ := List.mem_map.1 hs2
        show (placesF (thrF t.2.2 ta (widthF o)).1).map _ = _
        rw [places_shift (hpl t ht) h0 ⟨hti.1, hti.2.1⟩ hwid.1 (by omega), List.map_map, ← hm.text t ht hk2]
        refine List.map_congr_left fun q hq => ?_
        have hqp := (hpl t ht).in (mem_places.1 hq)
        simp only [Function.comp]
        unfold shQ
        split
        · rw [hlo _ (by omega)]
        · rw [hhi _ (by omega)]
          congr 2; omega
    · rw [insAt_countP, countP_map_shift (T := H.total) q ⟨hti.1, hti.2.1⟩ hwid.1 (by omega) _ hpl]
      have e4 : mkOf q (o.kind, o.text, [⟨ta, ta + widthF o⟩]) = (decide (ta ≤ q) && decide (q < ta + widthF o)) := by unfold mkOf inRb; simp [hk]
      rw [e4]
      by_cases d1 : q < ta
      · rw [if_pos d1, hm.one q hq0 (by omega)]
        rw [show decide (ta ≤ q) = false from by simp; omega]; rfl
      · rw [if_neg d1]
        by_cases d2 : q < ta + widthF o
        · rw [if_pos d2, show decide (ta ≤ q) = true from by simp; omega, show decide (q < ta + widthF o) = true from by simp; omega]; rfl
        · rw [if_neg d2, hm.one (q - widthF o) (by omega) (by omega), show decide (q < ta + widthF o) = false from by simp; omega, Bool.and_false]; rfl
  · obtain ⟨e1, e2, e3⟩ := p.hide hk
    obtain ⟨t1, t2⟩ := c2.cov (c4.kind.trans hk) (by omega)
    rw [e1, hwid.2.2.2 (by omega), Int.add_zero]
    refine hm.same (fun q => ?_) (by show o.kind ≠ 1; omega)
    have hek : eff.kind = 2 := by rw [e3]; exact hk
    have hers : eff.rs = (carryF o (H.ops.drop i)).1.rs := by rw [e3]
    unfold applyRow
    rw [if_neg (by omega), if_pos hek, hers, (bumpL_get (k := 1) _ 0 X (Int.le_refl _) t2.norm (by rw [hlen]; exact t2.below)).2 q, Option.map_map]
    congr 1; funext c; simp only [Function.comp]; split <;> rfl
  · obtain ⟨e1, e2, e3⟩ := p.status hk
    have hsg : sigs es = sigs H.ents := by rw [e1]; exact sigs_turned H i o
    rw [hsg, hwid.2.2.2 (by omega), Int.add_zero]
    refine hm.same (fun q => ?_) (by show o.kind ≠ 1; omega)
    rcases turned_cases H i o with e | ⟨k, e, g1, g2, g3, g4, g5⟩
    · rw [e3, e]; rfl
    · have hpe := h.pls e (List.mem_of_getElem? g2)
      have hers : eff.rs = e.now := by rw [e3, g5]; rfl
      have hek : eff.kind = 2 ∨ eff.kind = 3 := by rw [e3, g5]; unfold turnF; simp only; split <;> simp
      have key : ∀ k, ((bumpL e.now k X)[q]?).map (·.1) = (X[q]?).map (·.1) := fun k => by
        rw [(bumpL_get (k := k) _ 0 X (Int.le_refl _) hpe.norm (by rw [hlen]; exact hpe.below)).2 q, Option.map_map]
        congr 1; funext c; simp only [Function.comp]; split <;> rfl
      unfold applyRow
      rcases hek with hek | hek
      · rw [if_neg (by omega), if_pos hek, hers]; exact key 1
      · rw [if_neg (by omega), if_neg (by omega), if_pos hek, hers]; exact key (-1)
theorem Made.mk {n : Nat} {H : Hist} {X : List Ce} (h : Made n H X) : n ≤ 1000 → Mk (sigs H.ents) H.total X := by
  induction h with
  | zero => exact fun _ => ⟨fun s hs => (by cases hs), fun q h0 h1 => by simp at h1; omega⟩
  | step h g ih =>
    intro hn
    obtain ⟨h1, h2, h3⟩ := h.inv (by omega)
    obtain ⟨es, nw, eff, p⟩ := put_good h1 g
    have := put_mk h1 g p h2 (ih (by omega))
    rw [p.put]; exact this
end Go.Proofs.YtggdddkbhigjoaaDoor
/- Counting places: the plain law behind HistoryCounts. -/
namespace Go.Proofs.YtggdddkbhigjoaaDoor
open Go Go.GW
def runQ (lo hi : Int) : List Int := (List.range (hi - lo).toNat).map fun (j : Nat) => lo + j
theorem runQ_nil (lo : Int) : runQ lo lo = [] := by unfold runQ; rw [Int.sub_self]; rfl
theorem mem_runQ {lo hi q : Int} : q ∈ runQ lo hi ↔ lo ≤ q ∧ q < hi := mem_run
theorem runQ_snoc {lo q : Int} (h : lo ≤ q) : runQ lo (q + 1) = runQ lo q ++ [q] := by
  unfold runQ
  rw [show (q + 1 - lo).toNat = (q - lo).toNat + 1 from by omega, List.range_succ, List.map_append]
  simp; omega
theorem runQ_split {lo q hi : Int} (h : lo ≤ q) (h2 : q < hi) : ∃ tl, runQ lo hi = runQ lo q ++ q :: tl := by
  refine ⟨runQ (q + 1) hi, sorted_ext (run_sorted _ _) ?_ fun x => ?_⟩
  · rw [List.pairwise_append, List.pairwise_cons]
    refine ⟨run_sorted _ _, ⟨fun y hy => by have := mem_runQ.1 hy; omega, run_sorted _ _⟩, fun x hx y hy => ?_⟩
    have h1 := mem_runQ.1 hx
    rcases List.mem_cons.1 hy with rfl | hy
    · omega
    · have := mem_runQ.1 hy; omega
  · rw [List.mem_append, List.mem_cons, mem_runQ, mem_runQ, mem_runQ]; omega
theorem places_take {rs : List Rg} {j : Nat} (h : j < rs.length) : placesF (rs.take (j + 1)) = placesF (rs.take j) ++ runQ rs[j].lo rs[j].hi := by
  rw [List.take_succ_eq_append_getElem h, places_append]
  congr 1
  rw [places_cons, show placesF [] = [] from rfl, List.append_nil]; rfl
theorem places_at {T : Int} {rs : List Rg} (hp : Pls T rs) {j : Nat} (h : j < rs.length) {q : Int} (h1 : rs[j].lo ≤ q) (h2 : q < rs[j].hi) :
    (placesF rs)[(placesF (rs.take j) ++ runQ rs[j].lo q).length]? = some q ∧ q ∉ placesF (rs.take j) ++ runQ rs[j].lo q := by
  obtain ⟨tl, ht⟩ := runQ_split h1 h2
  have e : placesF rs = (placesF (rs.take j) ++ runQ rs[j].lo q) ++ q :: (tl ++ placesF (rs.drop (j + 1))) := by
    conv => lhs; rw [← List.take_append_drop (j + 1) rs, places_append, places_take h, ht]
    simp
  have hs := places_sorted hp.norm
  rw [e] at hs ⊢
  refine ⟨by rw [List.getElem?_append_right (Nat.le_refl _), Nat.sub_self]; rfl, fun hm => ?_⟩
  rw [List.pairwise_append] at hs
  have := hs.2.2 q hm q List.mem_cons_self
  omega
/-! ### The three rows -/
def accL (T : Nat) (g : Int → Nat) (b : Bool) (ps : List Int) : List Int := (List.range T).map fun p : Nat => ((g p + (if (b && ps.contains (p : Int)) = true then 1 else 0) : Nat) : Int)
theorem accL_len (T : Nat) (g : Int → Nat) (b : Bool) (ps : List Int) : (accL T g b ps).length = T := by simp [accL]
theorem accL_at {T : Nat} {g : Int → Nat} {b : Bool} {ps : List Int} {p : Nat} (h : p < T) : (accL T g b ps)[p]? = some ((g p + (if (b && ps.contains (p : Int)) = true then 1 else 0) : Nat) : Int) := by
  unfold accL; rw [List.getElem?_map, List.getElem?_range h]; rfl
theorem accL_false (T : Nat) (g : Int → Nat) (ps ps' : List Int) : accL T g false ps = accL T g false ps' := by
  unfold accL; simp
theorem accL_nil (T : Nat) (g : Int → Nat) (b b' : Bool) : accL T g b [] = accL T g b' [] := by unfold accL; simp
theorem accL_snoc {T : Nat} {g : Int → Nat} {ps : List Int} {q : Nat} (h : q < T) (hq : (q : Int) ∉ ps) {x : Int} (hx : (accL T g true ps)[q]? = some x) : (accL T g true ps).set q (x + 1) = accL T g true (ps ++ [(q : Int)]) := by
  apply List.ext_getElem?
  intro p
  by_cases hp : p < T
  · rw [accL_at hp]
    by_cases e : q = p
    · subst e
      rw [List.getElem?_set_self (by rw [accL_len]; exact h)]
      rw [accL_at h] at hx
      have := Option.some.inj hx
      have h1 : ps.contains (q : Int) = false := by simpa using hq
      rw [h1] at this
      simp at this
      simp [← this, h1]
    · rw [List.getElem?_set_ne e, accL_at hp]
      have : (ps ++ [(q : Int)]).contains (p : Int) = ps.contains (p : Int) := by
        rw [Bool.eq_iff_iff]; simp; omega
      rw [this]
  · rw [List.getElem?_eq_none (by rw [List.length_set, accL_len]; omega), List.getElem?_eq_none (by rw [accL_len]; omega)]
def gM (es : List Ent) (q : Int) : Nat := (sigs es).countP (mkOf q)
structure CI (T : Nat) (X : List Ce) (es : List Ent) (k1 k2 : Bool) (ps : List Int) (mk hd rn : List Int) : Prop where
  mm : mk = accL T (gM es) k1 ps
  hd : hd = accL T (cnt es) k2 ps
  rl : rn.length = T
  rn : ∀ p : Nat, p < T → (0 < gM es p ∨ (k1 = true ∧ (p : Int) ∈ ps)) → rn[p]? = (X[p]?).map (·.1)
theorem CI.ml {T : Nat} {X : List Ce} {es : List Ent} {k1 k2 : Bool} {ps mk hd rn : List Int} (h : CI T X es k1 k2 ps mk hd rn) : mk.length = T := by rw [h.mm, accL_len]
theorem CI.hl {T : Nat} {X : List Ce} {es : List Ent} {k1 k2 : Bool} {ps mk hd rn : List Int} (h : CI T X es k1 k2 ps mk hd rn) : hd.length = T := by rw [h.hd, accL_len]
theorem CI.zero (T : Nat) (X : List Ce) : CI T X [] false false [] (List.replicate T 0) (List.replicate T 0) (List.replicate T 0) := by
  have e : ∀ g : Int → Nat, (∀ p, g p = 0) → List.replicate T (0 : Int) = accL T g false [] := fun g hg => by
    apply List.ext_getElem?
    intro p
    by_cases hp : p < T
    · rw [accL_at hp, List.getElem?_replicate, if_pos hp, hg]; simp
    · rw [List.getElem?_eq_none (by rw [List.length_replicate]; omega), List.getElem?_eq_none (by rw [accL_len]; omega)]
  refine ⟨e _ fun p => rfl, e _ fun p => rfl, List.length_replicate, fun p _ h => ?_⟩
  rcases h with h | h
  · exact absurd h (by simp [gM, sigs])
  · simp at h
theorem CI.flags {T : Nat} {X : List Ce} {es : List Ent} {k1 k2 k3 k4 : Bool} {mk hd rn : List Int} (h : CI T X es k1 k2 [] mk hd rn) : CI T X es k3 k4 [] mk hd rn :=
  ⟨h.mm.trans (accL_nil ..), h.hd.trans (accL_nil ..), h.rl, fun p hp hh => h.rn p hp (hh.imp id fun x => by simp at x)⟩
theorem CI.next {T : Nat} {X : List Ce} {es : List Ent} {k1 k2 : Bool} {ps mk hd rn : List Int} (h : CI T X es k1 k2 ps mk hd rn) {q : Nat} (hq : q < T) (hn : (q : Int) ∉ ps) {mk' hd' rn' : List Int}
    (hm : (k1 = true ∧ ∃ x, mk[q]? = some x ∧ mk' = mk.set q (x + 1)) ∨ (k1 = false ∧ mk' = mk)) (hh : (k2 = true ∧ ∃ x, hd[q]? = some x ∧ hd' = hd.set q (x + 1)) ∨ (k2 = false ∧ hd' = hd))
    (hr : (k1 = true ∧ ∃ y, (X[q]?).map (·.1) = some y ∧ rn' = rn.set q y) ∨ (k1 = false ∧ rn' = rn)) : CI T X es k1 k2 (ps ++ [(q : Int)]) mk' hd' rn' := by
  refine ⟨?_, ?_, ?_, ?_⟩
  · rcases hm with ⟨rfl, x, h1, rfl⟩ | ⟨rfl, rfl⟩
    · rw [h.mm] at h1 ⊢; exact accL_snoc hq hn h1
    · rw [h.mm]; exact accL_false ..
  · rcases hh with ⟨rfl, x, h1, rfl⟩ | ⟨rfl, rfl⟩
    · rw [h.hd] at h1 ⊢; exact accL_snoc hq hn h1
    · rw [h.hd]; exact accL_false ..
  · rcases hr with ⟨_, y, _, rfl⟩ | ⟨_, rfl⟩
    · rw [List.length_set]; exact h.rl
    · exact h.rl
  · intro p hp hh2
    rcases hr with ⟨rfl, y, h1, rfl⟩ | ⟨rfl, rfl⟩
    · by_cases e : q = p
      · subst e; rw [List.getElem?_set_self (by rw [h.rl]; exact hq), h1]
      · rw [List.getElem?_set_ne e]
        refine h.rn p hp (hh2.imp id fun ⟨_, x⟩ => ⟨rfl, ?_⟩)
        rcases List.mem_append.1 x with x | x
        · exact x
        · simp at x; omega
    · exact h.rn p hp (hh2.imp id fun ⟨x, _⟩ => by cases x)
theorem CI.close {T : Nat} {X : List Ce} {es : List Ent} {e : Ent} {k1 k2 : Bool} {mk hd rn : List Int} (h : CI T X es k1 k2 (placesF e.now) mk hd rn) (h1 : k1 = decide (e.op.kind = 1)) (h2 : ∀ q, (k2 && inRb q e.now) = (hidE e && inRb q e.now)) : CI T X (es ++ [e]) false false [] mk hd rn := by
  have hc : ∀ q, (placesF e.now).contains q = inRb q e.now := fun q => by rw [Bool.eq_iff_iff, inRb_iff, ← mem_places]; simp
  have e1 : ∀ q, gM (es ++ [e]) q = gM es q + (if (k1 && (placesF e.now).contains q) = true then 1 else 0) := fun q => by
    unfold gM sigs
    rw [List.map_append, List.countP_append, hc, h1]
    simp [mkOf, sigE]
  have e2 : ∀ q, cnt (es ++ [e]) q = cnt es q + (if (k2 && (placesF e.now).contains q) = true then 1 else 0) := fun q => by
    rw [cnt_append, hc, h2]; simp [cnt]
  have key : ∀ (g g' : Int → Nat) (b : Bool), (∀ q, g' q = g q + (if (b && (placesF e.now).contains q) = true then 1 else 0)) → accL T g b (placesF e.now) = accL T g' false [] := fun g g' b hg => by
    unfold accL
    refine List.map_congr_left fun p _ => ?_
    rw [hg]; simp
  refine ⟨h.mm.trans (key _ _ _ e1), h.hd.trans (key _ _ _ e2), h.rl, fun p hp hh => h.rn p hp ?_⟩
  rcases hh with hh | hh
  · rw [e1] at hh
    by_cases hx : (k1 && (placesF e.now).contains (p : Int)) = true
    · simp only [Bool.and_eq_true, List.contains_iff_mem] at hx; exact .inr hx
    · rw [if_neg hx] at hh; exact .inl hh
  · simp at hh
/-! ### The entries of a history -/
structure Cf (H : Hist) (T : Nat) (X : List Ce) (i : Nat) (en : GEn) (kn : Int) (tx : ByteArray) : Prop where
  hen : (ensL H)[i]? = some en
  hkn : (kindsOf H.ents)[i]? = some kn
  htx : (textsOf H.ents)[i]? = some tx
  pls : Pls T en.rs
  rl : (runesF tx).length ≤ 256
  len : kn = 0 → (placesF en.rs).length = (runesF tx).length
  rune : kn = 0 → ∀ (j : Nat) (q : Nat), (placesF en.rs)[j]? = some (q : Int) → ∃ y, (runesF tx)[j]? = some y ∧ (X[q]?).map (·.1) = some y
  close : ∀ mk hd rn, CI T X (H.ents.take i) (kn == 0) ((kn == 0) != en.on) (placesF en.rs) mk hd rn → CI T X (H.ents.take (i + 1)) false false [] mk hd rn
  id : (idsOf H.ents)[i]? = some (en.c, en.n)
  kind : (en.kind == 4) = (kn == 2)
  empty : (kn == 2) = ((en.rs.length : Int) == 0)
theorem kindN_0 {o : GOp} (h : o.kind = 1 ∨ o.kind = 2 ∨ o.kind = 4) : (kindN o == 0) = decide (o.kind = 1) ∧ (kindN o == 2) = decide (o.kind = 4) := by
  unfold kindN
  rcases h with h | h | h <;> rw [h] <;> decide
theorem HV.kinds {H : Hist} (h : HV H) {e : Ent} (he : e ∈ H.ents) : e.op.kind = 1 ∨ e.op.kind = 2 ∨ e.op.kind = 4 := by
  have h2 : ∀ (l : List GOp) (w : Int), CtxOk w l → ∀ x ∈ l, x.kind = 1 ∨ x.kind = 2 ∨ x.kind = 4 := by
    intro l
    induction l with
    | nil => intro w _ x hx; cases hx
    | cons y l ih =>
      intro w hc x hx
      rcases List.mem_cons.1 hx with rfl | hx
      · exact hc.1.kind
      · exact ih _ hc.2 x hx
  exact h2 _ _ h.ctx e.op (List.mem_map.2 ⟨e, he, rfl⟩)
theorem runes_le {H : Hist} (h : HV H) {e : Ent} (he : e ∈ H.ents) : (runesF e.op.text).length ≤ 256 := by
  have h2 : ∀ (l : List GOp) (w : Int), CtxOk w l → ∀ x ∈ l, (runesF x.text).length ≤ 256 := by
    intro l
    induction l with
    | nil => intro w _ x hx; cases hx
    | cons y l ih =>
      intro w hc x hx
      rcases List.mem_cons.1 hx with rfl | hx
      · have h1 := right_runes hc.1
        have h2 := hc.1.width
        omega
      · exact ih _ hc.2 x hx
  exact h2 _ _ h.ctx e.op (List.mem_map.2 ⟨e, he, rfl⟩)
theorem entE_rs {H : Hist} (h : HV H) {e : Ent} (he : e ∈ H.ents) : (entE e).rs = e.now := by
  unfold entE
  split
  · rename_i hk; exact ((h.edit e he).1 hk).symm
  · rfl
theorem counts_facts {N : Int} {n : Nat} {H : Hist} {X : List Ce} {nx : List Int} (hV : VI N n H X nx) {T : Nat} (hT : (T : Int) = H.total) {i : Nat} (hi : i < H.ents.length) : ∃ en kn tx, Cf H T X i en kn tx := by
  have h := hV.hv
  have hm := hV.made.mk (by have := hV.le; omega)
  have he := List.getElem_mem hi
  have hk := h.kinds he
  have hk0 := kindN_0 hk
  have hrs := entE_rs h he
  have hts : H.ents[i].op.kind = 1 → (placesF H.ents[i].now).map (fun q => (X[q.toNat]?).map (·.1)) = (runesF H.ents[i].op.text).map some := fun hk1 => hm.text (sigE H.ents[i]) (List.mem_map.2 ⟨_, he, rfl⟩) hk1
  have hon : H.ents[i].op.kind ≠ 4 → (entE H.ents[i]).on = !H.ents[i].off := fun h4 => by unfold entE; rw [if_neg h4]
  refine ⟨entE H.ents[i], kindN H.ents[i].op, H.ents[i].op.text, ?_, ?_, ?_, ?_, runes_le h he, ?_, ?_, ?_, ?_, ?_, ?_⟩
  · unfold ensL; rw [List.getElem?_map, List.getElem?_eq_getElem hi]; rfl
  · unfold kindsOf; rw [List.getElem?_map, List.getElem?_eq_getElem hi]; rfl
  · unfold textsOf; rw [List.getElem?_map, List.getElem?_eq_getElem hi]; rfl
  · rw [hrs, hT]; exact h.pls _ he
  · intro h0
    have h1 : H.ents[i].op.kind = 1 := by have := hk0.1; rw [h0] at this; simpa using this.symm
    have := congrArg List.length (hts h1)
    rw [hrs]; simpa using this
  · intro h0 j q hj
    have h1 : H.ents[i].op.kind = 1 := by have := hk0.1; rw [h0] at this; simpa using this.symm
    have := congrArg (·[j]?) (hts h1)
    rw [hrs] at hj
    simp only [List.getElem?_map] at this
    rw [hj] at this
    simp only [Option.map_some, Int.toNat_natCast] at this
    cases hy : (runesF H.ents[i].op.text)[j]? with
    | none => rw [hy] at this; cases this
    | some y => rw [hy] at this; exact ⟨y, rfl, Option.some.inj this⟩
  · intro mk hd rn hc
    rw [hrs] at hc
    rw [List.take_succ_eq_append_getElem hi]
    refine hc.close hk0.1 fun q => ?_
    by_cases h4 : H.ents[i].op.kind = 4
    · rw [(h.edit _ he).1 h4]; simp [inRb]
    · rw [hon h4, hk0.1]
      congr 1
      unfold hidE
      have : H.ents[i].op.kind = 1 ∨ H.ents[i].op.kind = 2 := by omega
      rcases this with hh | hh <;> rw [hh] <;> cases H.ents[i].off <;> decide
  · unfold idsOf; rw [List.getElem?_map, List.getElem?_eq_getElem hi]
    show some _ = some _
    unfold entE; split <;> rfl
  · have e1 : (entE H.ents[i]).kind = H.ents[i].op.kind := by unfold entE; split <;> rfl
    rw [e1, hk0.2]; rfl
  · rw [hk0.2, hrs, Bool.eq_iff_iff]
    simp only [decide_eq_true_eq, beq_iff_eq]
    rw [h.edit _ he]
    constructor
    · intro e; rw [e]; rfl
    · intro e; exact List.length_eq_zero_iff.1 (by omega)
theorem ints_at {k : IntKind} {xs : List Int} {q : Int} {x : Int} (h : xs[q.toNat]? = some x) : (ints k xs)[q.toNat * 1]? = some (.int k x) := by
  rw [Nat.mul_one]; unfold ints; rw [List.getElem?_map, h]; rfl
theorem ints_set {k : IntKind} {xs : List Int} {q : Int} {x : Int} : (ints k xs).set (q.toNat * 1) (.int k x) = ints k (xs.set q.toNat x) := by
  rw [Nat.mul_one]; unfold ints; rw [List.map_set]
theorem ints_len {k : IntKind} {xs : List Int} : (ints k xs).length = xs.length := by unfold ints; simp
theorem ints_rep {k : IntKind} (n : Nat) : List.replicate n (Value.int k 0) = ints k (List.replicate n 0) := by unfold ints; simp
theorem i32_open (u : Int) : ∀ Z w cs, (De.int .i32).rep Z w u cs → ∃ y : Unit, cs = [.int .i32 u] ∧ ∀ B ∈ ([] : List Fact), B.holds Z w := fun _ _ _ h => ⟨(), h, fun _ h => by cases h⟩
theorem CI.nextI {T : Nat} {X : List Ce} {es : List Ent} {k1 k2 : Bool} {ps mk hd rn : List Int} (h : CI T X es k1 k2 ps mk hd rn) {q : Int} (hq0 : 0 ≤ q) (hq : q < T) (hn : q ∉ ps) {mk' hd' rn' : List Int}
    (hm : (k1 = true ∧ ∃ x, mk[q.toNat]? = some x ∧ mk' = mk.set q.toNat (x + 1)) ∨ (k1 = false ∧ mk' = mk)) (hh : (k2 = true ∧ ∃ x, hd[q.toNat]? = some x ∧ hd' = hd.set q.toNat (x + 1)) ∨ (k2 = false ∧ hd' = hd))
    (hr : (k1 = true ∧ ∃ y, (X[q.toNat]?).map (·.1) = some y ∧ rn' = rn.set q.toNat y) ∨ (k1 = false ∧ rn' = rn)) : CI T X es k1 k2 (ps ++ [q]) mk' hd' rn' := by
  have e : ((q.toNat : Nat) : Int) = q := Int.toNat_of_nonneg hq0
  have := h.next (q := q.toNat) (by omega) (by rw [e]; exact hn) hm hh hr
  rwa [e] at this
theorem accL_bd {T : Nat} {g : Int → Nat} {b : Bool} {ps : List Int} {m : Nat} (hg : ∀ q, g q ≤ m) {p : Nat} (hp : p < T) : ∃ x, (accL T g b ps)[p]? = some x ∧ 0 ≤ x ∧ x ≤ m + 1 := by
  refine ⟨_, accL_at hp, by omega, ?_⟩
  have := hg p
  split <;> omega
theorem CI.at_ {T : Nat} {X : List Ce} {es : List Ent} {k1 k2 : Bool} {ps mk hd rn : List Int} (h : CI T X es k1 k2 ps mk hd rn) {p : Nat} (hp : p < T) : (∃ x, mk[p]? = some x ∧ 0 ≤ x ∧ x ≤ es.length + 1) ∧ (∃ x, hd[p]? = some x ∧ 0 ≤ x ∧ x ≤ es.length + 1) := by
  refine ⟨?_, ?_⟩
  · rw [h.mm]; exact accL_bd (fun q => by unfold gM sigs; have := List.countP_le_length (p := mkOf q) (l := es.map sigE); rw [List.length_map] at this; exact this) hp
  · rw [h.hd]; exact accL_bd (fun q => cnt_le es q) hp
structure J3 (T : Nat) (X : List Ce) (es : List Ent) (en : GEn) (kn : Int) (j kk : Nat) (mk hd rn : List Int) : Prop where
  le : j ≤ en.rs.length
  kk : kn = 0 → kk = (placesF (en.rs.take j)).length
  ci : CI T X es (kn == 0) ((kn == 0) != en.on) (placesF (en.rs.take j)) mk hd rn
structure Q4 (T : Nat) (X : List Ce) (es : List Ent) (en : GEn) (kn : Int) (j : Nat) (r : Rg) (q : Int) (kk : Nat) (mk hd rn : List Int) : Prop where
  lo : r.lo ≤ q
  hi : q ≤ r.hi
  kk : kn = 0 → kk = (placesF (en.rs.take j) ++ runQ r.lo q).length
  ci : CI T X es (kn == 0) ((kn == 0) != en.on) (placesF (en.rs.take j) ++ runQ r.lo q) mk hd rn
theorem J3.start {T : Nat} {X : List Ce} {es : List Ent} {en : GEn} {kn : Int} {j kk : Nat} {mk hd rn : List Int} (h : J3 T X es en kn j kk mk hd rn) {r : Rg} (hr : r.lo ≤ r.hi) : Q4 T X es en kn j r r.lo kk mk hd rn :=
  ⟨Int.le_refl _, hr, fun h0 => by rw [runQ_nil, List.append_nil]; exact h.kk h0, by rw [runQ_nil, List.append_nil]; exact h.ci⟩
theorem Q4.done {T : Nat} {X : List Ce} {es : List Ent} {en : GEn} {kn : Int} {j : Nat} {hj : j < en.rs.length} {q : Int} {kk : Nat} {mk hd rn : List Int} (h : Q4 T X es en kn j en.rs[j] q kk mk hd rn) (hq : ¬ q < en.rs[j].hi) : J3 T X es en kn (j + 1) kk mk hd rn := by
  have e : q = en.rs[j].hi := by have := h.hi; omega
  have h1 := h.kk
  have h2 := h.ci
  rw [e, ← places_take hj] at h1 h2
  exact ⟨hj, h1, h2⟩
theorem J3.done {H : Hist} {T : Nat} {X : List Ce} {i : Nat} {en : GEn} {kn : Int} {tx : ByteArray} (hC : Cf H T X i en kn tx) {j kk : Nat} {mk hd rn : List Int} (h : J3 T X (H.ents.take i) en kn j kk mk hd rn) (hj : ¬ j < en.rs.length) : CI T X (H.ents.take (i + 1)) false false [] mk hd rn ∧ (kn = 0 → kk = (runesF tx).length) := by
  have e : en.rs.take j = en.rs := List.take_of_length_le (by omega)
  have h1 := h.kk
  have h2 := h.ci
  rw [e] at h1 h2
  exact ⟨hC.close _ _ _ h2, fun h0 => by rw [h1 h0, hC.len h0]⟩
theorem Q4.next {T : Nat} {X : List Ce} {es : List Ent} {en : GEn} {kn : Int} {j : Nat} {r : Rg} {q : Int} {kk : Nat} {mk hd rn : List Int} (h : Q4 T X es en kn j r q kk mk hd rn) (hq0 : 0 ≤ q) (hqT : q < T) (hqh : q < r.hi) (hn : q ∉ placesF (en.rs.take j) ++ runQ r.lo q) {kk' : Nat} {mk' hd' rn' : List Int} (hk : kn = 0 → kk' = kk + 1)
    (hm : ((kn == 0) = true ∧ ∃ x, mk[q.toNat]? = some x ∧ mk' = mk.set q.toNat (x + 1)) ∨ ((kn == 0) = false ∧ mk' = mk)) (hh : (((kn == 0) != en.on) = true ∧ ∃ x, hd[q.toNat]? = some x ∧ hd' = hd.set q.toNat (x + 1)) ∨ (((kn == 0) != en.on) = false ∧ hd' = hd))
    (hr : ((kn == 0) = true ∧ ∃ y, (X[q.toNat]?).map (·.1) = some y ∧ rn' = rn.set q.toNat y) ∨ ((kn == 0) = false ∧ rn' = rn)) : Q4 T X es en kn j r (q + 1) kk' mk' hd' rn' := by
  have hlo := h.lo
  refine ⟨by omega, by omega, fun h0 => ?_, ?_⟩
  · rw [hk h0, h.kk h0, runQ_snoc hlo]; simp; omega
  · rw [runQ_snoc hlo, ← List.append_assoc]; exact h.ci.nextI hq0 hqT hn hm hh hr
/-- What stands at a place of an entry. -/
theorem Q4.here {H : Hist} {T : Nat} {X : List Ce} {i : Nat} {en : GEn} {kn : Int} {tx : ByteArray} (hC : Cf H T X i en kn tx) {j : Nat} {hj : j < en.rs.length} {q : Int} {kk : Nat} {mk hd rn : List Int} (h : Q4 T X (H.ents.take i) en kn j en.rs[j] q kk mk hd rn) (hq : q < en.rs[j].hi) :
    0 ≤ q ∧ q < T ∧ q ∉ placesF (en.rs.take j) ++ runQ en.rs[j].lo q ∧ (kn = 0 → ∃ y, (runesF tx)[kk]? = some y ∧ (X[q.toNat]?).map (·.1) = some y) := by
  have hm : memR q en.rs := ⟨_, List.getElem_mem hj, h.lo, hq⟩
  have hb := hC.pls.in hm
  obtain ⟨h1, h2⟩ := places_at hC.pls hj h.lo hq
  refine ⟨hb.1, hb.2, h2, fun h0 => ?_⟩
  rw [← h.kk h0] at h1
  exact hC.rune h0 kk q.toNat (by rw [Int.toNat_of_nonneg hb.1]; exact h1)
/-- All counted. -/
theorem CI.all {N : Int} {n : Nat} {H : Hist} {X : List Ce} {nx : List Int} (hV : VI N n H X nx) {T : Nat} (hT : (T : Int) = H.total) {mk hd rn : List Int} (h : CI T X H.ents false false [] mk hd rn) :
    X.length = T ∧ mk.length = T ∧ hd.length = T ∧ rn.length = T ∧ ∀ (q : Nat) (c : Ce), X[q]? = some c → mk[q]? = some 1 ∧ hd[q]? = some c.2 ∧ rn[q]? = some c.1 := by
  have hm := hV.made.mk (by have := hV.le; omega)
  have hr := hV.rule
  have hl := hr.len
  refine ⟨by omega, h.ml, h.hl, h.rl, fun q c hq => ?_⟩
  have hqT : q < T := by
    rcases Nat.lt_or_ge q X.length with h | h
    · omega
    · rw [List.getElem?_eq_none h] at hq; cases hq
  have h1 : gM H.ents q = 1 := hm.one q (by omega) (by omega)
  refine ⟨?_, ?_, ?_⟩
  · rw [h.mm, accL_at hqT, h1]; rfl
  · rw [h.hd, accL_at hqT]
    have := hr.cnt q c hq
    rw [this]; rfl
  · rw [h.rn q hqT (.inl (by omega)), hq]; rfl
end Go.Proofs.YtggdddkbhigjoaaDoor
/- Walks: View.counts. -/
namespace Go.Proofs.YtggdddkbhigjoaaDoor
open Go Go.GW
def CoP (P : Part) (T : Nat) (X : List Ce) (H : Hist) : Value → List Part → List Fact → Prop := fun u Lo fs => ∃ (bm bh br : Nat) (mk hd rn : List Int), u = .tuple #[.slice (some ⟨bm, 0, none⟩) T T, .slice (some ⟨bh, 0, none⟩) T T, .slice (some ⟨br, 0, none⟩) T T, .bool true] ∧ CI T X H.ents false false [] mk hd rn ∧
  Lo = [[(br, cellsO (ints .i32 rn) 21)], [(bh, cellsO (ints .i64 hd) 3)], [(bm, cellsO (ints .i64 mk) 3)], P] ∧ fs = []
theorem norm_gap {b : Int} : ∀ {rs : List Rg} {j : Nat}, NormB b rs → (h0 : 0 < j) → (hj : j < rs.length) → (rs[j - 1]'(by omega)).hi < rs[j].lo := by
  intro rs j hn h0 hj
  have e : rs = rs.take (j - 1) ++ (rs[j - 1]'(by omega)) :: rs[j] :: rs.drop (j + 1) := by
    conv => lhs; rw [← List.take_append_drop (j - 1) rs, List.drop_eq_getElem_cons (by omega)]
    congr 2
    have : j - 1 + 1 = j := by omega
    rw [List.drop_eq_getElem_cons (by omega)]
    simp only [this]
  rw [e, normB_append] at hn
  have := hn.2.2.2.1
  omega

set_option maxRecDepth 10000 in
theorem counts_s (N : Int) (n : Nat) (X : List Ce) (H : Hist) (v h b : Nat) (A1 : Option Addr) (c1 : Nat) (A2 : Option Addr) (c2 : Nat) (A3 : Option Addr) (c3 : Nat) (nx : List Int) (hV : VI N n H X nx) (Al : Option Addr) (cl T : Nat) (hT : cellsN ((textsOf H.ents).take H.ents.length) = T) (hT2 : (T : Int) = H.total) : Sp Tryd.prog 26 [.pointer (some ⟨v, 0, none⟩), .slice Al H.ents.length cl] [vwP v h b A1 H.ents.length c1 A2 c2 A3 c3 nx] [RdF De.str A3 c3 (textsOf H.ents), RdF (De.int .i64) A2 c2 (kindsOf H.ents), RdF enD Al cl (ensL H)] (CoP (vwP v h b A1 H.ents.length c1 A2 c2 A3 c3 nx) T X H) := by
  have hnl := hV.len
  have hn2 := hV.le
  have hTb := hV.cellsB H.ents.length
  have htl : (textsOf H.ents).length = H.ents.length := by simp [textsOf]
  refine Sp.of (n := 179) ⟨_, Tryd.func26, rfl, rfl, rfl, rfl⟩ (Nat.le_of_ble_eq_true rfl) fun Ps As => ?_
  refine WC_seq (WC_region ?_)
  refine Lq (q_assign rfl) ?_
  refine Lq (q_assign rfl) ?_
  refine Lq (q_assign rfl) ?_
  refine Lq (q_assign rfl) ?_
  refine WL_nil (thenN (WC_seq (WC_region ?_)))
  refine Lq (q_move rfl) ?_
  refine Lq (q_move rfl) ?_
  refine Lq (q_nil rfl) ?_
  refine Lq (q_field (o' := 2) Tryd.underlying61 rfl ti56 rfl rfl) ?_
  refine Lq (q_load1 Tryd.underlying56 rfl rfl own0 rfl) ?_
  refine Lq (q_len Tryd.underlying56 rfl) ?_
  refine WL_main rfl (OW_call1 (vtotal_s v h b H.ents.length A1 c1 A2 c2 A3 c3 nx (textsOf H.ents) H.ents.length (by omega) (by omega) (by omega) (fun j _ => by have := hV.cellsB j; omega)) (.cons rfl (.cons rfl (.nil))) (by decide) (.z) (memc (.head _) mem0) fun u1_6 Lo fs hres => ?_)
  obtain ⟨rfl, rfl, rfl⟩ := hres
  rw [hT]
  refine Lq (q_assign rfl) ?_
  refine WL_nil (thenN (WC_seq (WC_region ?_)))
  refine Lq (q_move rfl) ?_
  refine WL_main rfl (OW_make1 Tryd.underlying57 ti3 rfl rfl rfl (by omega) (by unfold maxLen; omega) (by decide) fun bm => ?_)
  refine Lq (q_assign rfl) ?_
  refine WL_nil (thenN (WC_seq (WC_region ?_)))
  refine Lq (q_move rfl) ?_
  refine WL_main rfl (OW_make1 Tryd.underlying57 ti3 rfl rfl rfl (by omega) (by unfold maxLen; omega) (by decide) fun bh => ?_)
  refine Lq (q_assign rfl) ?_
  refine WL_nil (thenN (WC_seq (WC_region ?_)))
  refine Lq (q_move rfl) ?_
  refine WL_main rfl (OW_make1 Tryd.underlying73 ti21 rfl rfl rfl (by omega) (by unfold maxLen; omega) (by decide) fun br => ?_)
  refine Lq (q_assign rfl) ?_
  refine WL_nil (thenN (WC_seq (WC_seq ?_)))
  rw [ints_rep (k := .i64) T, ints_rep (k := .i32) T]
  refine WC_region ?_
  refine Lq (q_assign rfl) ?_
  refine WL_nil (thenN (WC_block ?_))
  refine WC_loopE (α := Nat × List Int × List Int × List Int) (fun (i, mk, hd, rn) => H.ents.length - i)
    (fun (i, mk, hd, rn) => [(0, .pointer (some ⟨v, 0, none⟩)), (1, .slice Al H.ents.length cl), (8, .int .i64 T), (9, .slice (some ⟨bm, 0, none⟩) T T), (10, .slice (some ⟨bh, 0, none⟩) T T), (11, .slice (some ⟨br, 0, none⟩) T T), (12, .int .i64 i)])
    (fun (i, mk, hd, rn) => ([(br, cellsO (ints .i32 rn) 21)] :: [(bh, cellsO (ints .i64 hd) 3)] :: [(bm, cellsO (ints .i64 mk) 3)] :: vwP v h b A1 H.ents.length c1 A2 c2 A3 c3 nx :: Ps))
    (fun (i, mk, hd, rn) => (RdF De.str A3 c3 (textsOf H.ents) :: RdF (De.int .i64) A2 c2 (kindsOf H.ents) :: RdF enD Al cl (ensL H) :: As))
    (fun (i, mk, hd, rn) => i ≤ H.ents.length ∧ CI T X (H.ents.take i) false false [] mk hd rn)
    (0, List.replicate T 0, List.replicate T 0, List.replicate T 0) ?_ (.cons rfl (.cons rfl (.cons rfl (.cons rfl (.cons rfl (.cons rfl (.cons rfl (.nil _)))))))) (List.Sublist.cons_cons _ (List.Sublist.cons_cons _ (List.Sublist.cons_cons _ (List.Sublist.cons_cons _ (List.Sublist.refl _))))) (fun _ h => h) ?_
  · exact ⟨Nat.zero_le _, CI.zero T X⟩
  · rintro ⟨i, mk, hd, rn⟩ hI
    have hle := hI.1
    refine WC_seq (WC_seq (WC_region ?_))
    refine Lq (q_move rfl) ?_
    refine Lq (q_move rfl) ?_
    refine Lq (q_len Tryd.underlying70 rfl) ?_
    refine Lq (q_lss rfl rfl) ?_
    refine WL_nil (thenN ?_)
    refine WC_cond rfl (fun h36 => ?_) (fun h36 => ?_)
    · refine WC_skip (thenN (WC_seq (WC_block (WC_seq ?_))))
      try simp only [Bq0, Bq1, Bq2, Bq3, Bq4, Bq5, Bq6, Bq7, Bq8, Bq9, Bq10, Bq11, Bq12] at *
      have hi : i < H.ents.length := by omega
      obtain ⟨en, kn, tx, hC⟩ := counts_facts hV hT2 hi
      have htx := hC.rl
      have hpl := hC.pls.len (by omega)
      refine WC_region ?_
      refine Lq (q_assign rfl) ?_
      refine WL_nil (thenN (WC_seq (WC_seq ?_)))
      refine WC_elem (k := i) (.head _) hC.htx (str_open _) fun bt qt yt et => ?_
      cases et
      refine WC_region ?_
      refine Lq (q_move rfl) ?_
      refine Lq (q_nil rfl) ?_
      refine Lq (q_field (o' := 4) Tryd.underlying61 rfl ti58 rfl rfl) ?_
      refine Lq (q_load1 Tryd.underlying58 rfl rfl (ownS (ownS (ownS (own0)))) rfl) ?_
      refine Lq (q_move rfl) ?_
      refine Lq (q_idxRd Tryd.underlying58 ti9 rfl rfl (by omega) (by omega)) ?_
      refine Lq (q_loadF1 (j := 0) Tryd.underlying9 rfl rfl (.head _) rfl rfl) ?_
      refine WL_main rfl (OW_rangeS Tryd.underlying9 rfl (by decide) fun b46 => ?_)
      refine WL_nil (thenN (WC_block ?_))
      refine WC_nilPart ?_
      refine WC_loopE (α := Nat × List Int × Value × Part) (fun (p, acc, w, pa) => tx.size - p)
        (fun (p, acc, w, pa) => [(0, .pointer (some ⟨v, 0, none⟩)), (1, .slice Al H.ents.length cl), (8, .int .i64 T), (9, .slice (some ⟨bm, 0, none⟩) T T), (10, .slice (some ⟨bh, 0, none⟩) T T), (11, .slice (some ⟨br, 0, none⟩) T T), (12, .int .i64 i), (13, w), (46, .pointer (some ⟨b46, 0, none⟩))])
        (fun (p, acc, w, pa) => (pa :: [(b46, .stringIter tx p)] :: [(br, cellsO (ints .i32 rn) 21)] :: [(bh, cellsO (ints .i64 hd) 3)] :: [(bm, cellsO (ints .i64 mk) 3)] :: vwP v h b A1 H.ents.length c1 A2 c2 (some ⟨bt, qt, none⟩) c3 nx :: Ps))
        (fun (p, acc, w, pa) => (RdF De.str (some ⟨bt, qt, none⟩) c3 (textsOf H.ents) :: RdF (De.int .i64) A2 c2 (kindsOf H.ents) :: RdF enD Al cl (ensL H) :: As))
        (fun (p, acc, w, pa) => RuI tx p acc w pa)
        (0, [], .slice none 0 0, []) ?_ (.cons rfl (.cons rfl (.cons rfl (.cons rfl (.cons rfl (.cons rfl (.cons rfl (.cons rfl (.cons rfl (.nil _)))))))))) (List.Sublist.cons_cons _ (List.Sublist.cons_cons _ (List.Sublist.cons_cons _ (List.Sublist.cons_cons _ (List.Sublist.cons_cons _ (List.Sublist.cons_cons _ (List.Sublist.refl _))))))) (fun _ h => .tail _ h) ?_
      · exact ⟨Nat.zero_le _, Nat.le_refl _, rfl, Row.nil _ _⟩
      · rintro ⟨p, acc, w, pa⟩ hR
        have hle2 := hR.le
        have hal := hR.len
        have hae := congrArg List.length hR.eq
        rw [List.length_append] at hae
        refine WC_seq ?_
        by_cases hp : p < tx.size
        · refine WC_region ?_
          refine WL_main rfl (OW_nextS1 rfl hp (.s (.z)) (by decide) ?_)
          refine Lq (q_extract (vs := [_, _, _]) rfl rfl) ?_
          refine WL_nil (thenN (WC_seq (WC_true rfl rfl (WC_skip (thenN (WC_block (WC_seq ?_)))))))
          refine WC_region ?_
          refine Lq (q_extract (vs := [_, _, _]) rfl rfl) ?_
          refine Lq (q_assign rfl) ?_
          refine WL_nil (thenN (WC_region ?_))
          refine Lq (q_move rfl) ?_
          refine Lq (q_move rfl) ?_
          refine WL_main rfl (OW_slice1 (cs := [_]) Tryd.underlying73 ti21 (by decide) (by decide) rfl rfl rfl rfl (by decide) fun b52 => ?_)
          refine WL_main rfl (OW_append1 (news := [_]) Tryd.underlying73 ti21 rfl (by decide) rfl rfl hR.row own0 rfl rfl (by omega) (by unfold maxLen; omega) (by decide) (DelAt.perm (.s (.z))) fun v53 p53 hr53 => ?_)
          refine Lq (q_assign rfl) ?_
          refine WL_nil (blockN (thenK ?_))
          have hd := decode_pos tx p
          have hd2 := decode_leP hp
          refine ⟨(p + (Utf8.decode tx p).2, acc ++ [((Utf8.decode tx p).1 : Int)], v53, p53), ?_, (.cons rfl (.cons rfl (.cons rfl (.cons rfl (.cons rfl (.cons rfl (.cons rfl (.cons rfl (.cons rfl (.nil _)))))))))), (List.Sublist.cons_cons _ (List.Sublist.cons _ (List.Sublist.cons_cons _ (List.Sublist.cons_cons _ (List.Sublist.cons_cons _ (List.Sublist.cons_cons _ (List.Sublist.cons_cons _ (List.Sublist.refl _)))))))), (fun _ h => h)⟩
          exact ⟨by show tx.size - (p + (Utf8.decode tx p).2) < tx.size - p; omega, by show p + (Utf8.decode tx p).2 ≤ tx.size; exact hd2, by rw [List.length_append]; show acc.length + 1 ≤ p + (Utf8.decode tx p).2; omega, by rw [hR.eq, runesAt_next hp, List.append_assoc]; rfl, by rw [ints_append, List.length_append]; exact hr53⟩
        · refine WC_region ?_
          refine WL_main rfl (OW_nextS0 rfl (ownS (own0)) hp (by decide) ?_)
          refine Lq (q_extract (vs := [_]) rfl rfl) ?_
          refine WL_nil (thenN (WC_seq (WC_false rfl rfl (WC_exit (thenExit (thenExit (blockHit ?_)))))))
          refine thenN (WC_seq ?_)
          have hdone : runesF tx = acc := by rw [hR.eq, runesAt_end hp, List.append_nil]
          subst hdone
          have hrl := hR.len
          have hrl2 := hR.le
          refine WC_fact (A := RepsF (De.int .i32) (runesF tx) ((runesF tx).map fun x => [Value.int .i32 x])) (fun Z w _ => ints_reps _ _ Z w) ?_
          refine WC_freeze (e := (De.int .i32)) (xs := runesF tx) (css := (runesF tx).map fun x => [Value.int .i32 x]) (by rw [ints_flat]; exact hR.row) (.z) rfl (.head _) fun A9 c9 e9 => ?_
          cases e9
          refine WC_region ?_
          refine Lq (q_assign rfl) ?_
          refine WL_nil (thenN (WC_seq (WC_seq (WC_region ?_))))
          refine Lq (q_assign rfl) ?_
          refine WL_nil (thenN (WC_block ?_))
          refine WC_loopE (α := Nat × Nat × List Int × List Int × List Int) (fun (j, kk3, mk3, hd3, rn3) => en.rs.length - j)
            (fun (j, kk3, mk3, hd3, rn3) => [(0, .pointer (some ⟨v, 0, none⟩)), (1, .slice Al H.ents.length cl), (8, .int .i64 T), (9, .slice (some ⟨bm, 0, none⟩) T T), (10, .slice (some ⟨bh, 0, none⟩) T T), (11, .slice (some ⟨br, 0, none⟩) T T), (12, .int .i64 i), (13, .slice A9 (runesF tx).length c9), (16, .int .i64 kk3), (17, .int .i64 j)])
            (fun (j, kk3, mk3, hd3, rn3) => ([(br, cellsO (ints .i32 rn3) 21)] :: [(bh, cellsO (ints .i64 hd3) 3)] :: [(bm, cellsO (ints .i64 mk3) 3)] :: vwP v h b A1 H.ents.length c1 A2 c2 (some ⟨bt, qt, none⟩) c3 nx :: Ps))
            (fun (j, kk3, mk3, hd3, rn3) => (RdF (De.int .i32) A9 c9 (runesF tx) :: RdF De.str (some ⟨bt, qt, none⟩) c3 (textsOf H.ents) :: RdF (De.int .i64) A2 c2 (kindsOf H.ents) :: RdF enD Al cl (ensL H) :: As))
            (fun (j, kk3, mk3, hd3, rn3) => J3 T X (H.ents.take i) en kn j kk3 mk3 hd3 rn3)
            (0, 0, mk, hd, rn) ?_ (.cons rfl (.cons rfl (.cons rfl (.cons rfl (.cons rfl (.cons rfl (.cons rfl (.cons rfl (.cons rfl (.cons rfl (.nil _))))))))))) (List.Sublist.cons _ (List.Sublist.cons_cons _ (List.Sublist.cons_cons _ (List.Sublist.cons_cons _ (List.Sublist.cons_cons _ (List.Sublist.refl _)))))) (memc (.head _) (fun _ h => .tail _ (.tail _ h))) ?_
          · exact ⟨Nat.zero_le _, fun _ => rfl, hI.2.flags⟩
          · rintro ⟨j, kk3, mk3, hd3, rn3⟩ hJ
            have hjle := hJ.le
            refine WC_seq (WC_seq ?_)
            refine WC_elem (k := i) (.tail _ (.tail _ (.tail _ (.head _)))) hC.hen (en_open _) fun be qe ye ee => ?_
            cases ee
            obtain ⟨Ae, ce⟩ := ye
            dsimp only
            refine WC_region ?_
            refine Lq (q_move rfl) ?_
            refine Lq (q_move rfl) ?_
            refine Lq (q_move rfl) ?_
            refine Lq (q_idxRd Tryd.underlying70 ti42 rfl rfl (by omega) (by omega)) ?_
            refine Lq (q_field (o' := _ + 4) Tryd.underlying42 rfl ti29 rfl rfl) ?_
            refine Lq (q_loadF1 (j := 4) Tryd.underlying29 rfl rfl (.head _) rfl rfl) ?_
            refine Lq (q_len Tryd.underlying29 rfl) ?_
            refine Lq (q_lss rfl rfl) ?_
            refine WL_nil (thenN ?_)
            refine WC_cond rfl (fun h61 => ?_) (fun h61 => ?_)
            · refine WC_skip (thenN (WC_seq (WC_block (WC_seq ?_))))
              try simp only [Bq0, Bq1, Bq2, Bq3, Bq4, Bq5, Bq6, Bq7, Bq8, Bq9, Bq10, Bq11, Bq12] at *
              have hj : j < en.rs.length := by omega
              have hmm := hC.pls.norm.mem _ (List.getElem_mem hj)
              have hbb := hC.pls.below _ (List.getElem_mem hj)
              refine WC_elem (k := j) (.tail _ (.head _)) (List.getElem?_eq_getElem hj) (rg_open _) fun bw qw yw ew => ?_
              cases ew
              refine WC_region ?_
              refine Lq (q_move rfl) ?_
              refine Lq (q_move rfl) ?_
              refine Lq (q_idxRd Tryd.underlying70 ti42 rfl rfl (by omega) (by omega)) ?_
              refine Lq (q_field (o' := _ + 4) Tryd.underlying42 rfl ti29 rfl rfl) ?_
              refine Lq (q_loadF1 (j := 4) Tryd.underlying29 rfl rfl (.tail _ (.head _)) rfl rfl) ?_
              refine Lq (q_move rfl) ?_
              refine Lq (q_idxRd Tryd.underlying29 ti37 rfl rfl (by omega) (by omega)) ?_
              refine Lq (q_loadFN (k := 0) (vs := [_, _]) Tryd.underlying37 rfl ti37 rfl (.head _) rfl rfl rfl) ?_
              refine WL_main rfl (OW_alloc (cs := [_, _]) ti37 rfl (by decide) fun b18 => ?_)
              refine WL_main rfl (OW_storeN (cs' := [_, _]) (vs := [_, _]) ti37 rfl rfl rfl rfl rfl (Nat.le_of_ble_eq_true rfl) (.z) ?_)
              refine WL_nil (thenN ?_)
              refine WC_meet (α := Nat)
                (fun z => [(0, .pointer (some ⟨v, 0, none⟩)), (1, .slice (some ⟨be, qe, none⟩) H.ents.length cl), (8, .int .i64 T), (9, .slice (some ⟨bm, 0, none⟩) T T), (10, .slice (some ⟨bh, 0, none⟩) T T), (11, .slice (some ⟨br, 0, none⟩) T T), (12, .int .i64 i), (13, .slice A9 (runesF tx).length c9), (16, .int .i64 kk3), (17, .int .i64 j), (18, .pointer (some ⟨b18, 0, none⟩))])
                (fun z => ([(b18, cellsO (rgC en.rs[j]) 37)] :: [(br, cellsO (ints .i32 rn3) 21)] :: [(bh, cellsO (ints .i64 hd3) 3)] :: [(bm, cellsO (ints .i64 mk3) 3)] :: vwP v h b A1 H.ents.length c1 A2 c2 (some ⟨bt, qt, none⟩) c3 nx :: Ps))
                (fun z => (RdF (De.int .i32) A9 c9 (runesF tx) :: RdF De.str (some ⟨bt, qt, none⟩) c3 (textsOf H.ents) :: RdF (De.int .i64) A2 c2 (kindsOf H.ents) :: RdF enD (some ⟨be, qe, none⟩) cl (ensL H) :: As))
                (fun z => z = 0) ?_ ?_
              · refine WC_seq ?_
                rcases Nat.eq_zero_or_pos j with hj0 | hj0
                · refine WC_draw _ _ [] (.c 0 0 (.c 1 0 (.c 2 0 (.c 3 0 (.c 4 0 (.c 5 0 (.c 6 0 (.c 7 0 (.c 8 0 (.c 9 0 (.c 10 0 (.c 11 0 (.c 12 0 (.c 13 0 (.c 14 0 (.c 15 0 (.c 16 0 (.c 17 0 (.c 18 0 (.c 19 0 (.c 20 0 (.c 21 0 (.c 22 0 (.c 23 0 (.c 24 0 (.c 25 0 (.c 26 0 (.c 27 0 (.c 28 0 (.c 29 0 (.c 30 0 (.c 31 0 (.c 32 0 (.c 33 0 (.c 34 0 .nil))))))))))))))))))))))))))))))))))) mixed (fun _ _ _ _ h => h) (List.Sublist.cons_cons _ (List.Sublist.cons_cons _ (List.Sublist.cons_cons _ (List.Sublist.cons_cons _ (List.Sublist.cons_cons _ (List.Sublist.refl _)))))) (fun _ h => h) (by kernel_rfl) (by decide) fun ws Z0 => ?_
                  refine Qe rfl (q_field (o' := 0) Tryd.underlying37 rfl ti3 rfl rfl) ?_
                  refine Qe rfl (q_load1 Tryd.underlying3 rfl rfl own0 rfl) ?_
                  refine Qe rfl (q_lss rfl rfl) ?_
                  refine Qe rfl (q_move rfl) ?_
                  refine WE_gq rfl rfl rfl rfl (by simp; omega) (q_field (o' := 1) Tryd.underlying37 rfl ti3 rfl rfl) (by decide) ?_
                  refine WE_gq rfl rfl rfl rfl (by simp; omega) (q_load1 Tryd.underlying3 rfl rfl own0 rfl) (by decide) ?_
                  refine WE_gq rfl rfl rfl rfl (by simp; omega) (q_move rfl) (by decide) ?_
                  refine WE_gq rfl rfl rfl rfl (by simp; omega) (q_gtr rfl rfl) (by decide) ?_
                  refine Qe rfl (q_pickF rfl (by simp; omega) rfl) ?_
                  refine Qe rfl (q_move rfl) ?_
                  refine WE_gq rfl rfl rfl rfl (by simp; omega) (q_field (o' := 0) Tryd.underlying37 rfl ti3 rfl rfl) (by decide) ?_
                  refine WE_gq rfl rfl rfl rfl (by simp; omega) (q_load1 Tryd.underlying3 rfl rfl own0 rfl) (by decide) ?_
                  refine WE_gq rfl rfl rfl rfl (by simp; omega) (q_field (o' := 1) Tryd.underlying37 rfl ti3 rfl rfl) (by decide) ?_
                  refine WE_gq rfl rfl rfl rfl (by simp; omega) (q_load1 Tryd.underlying3 rfl rfl own0 rfl) (by decide) ?_
                  refine WE_gq rfl rfl rfl rfl (by simp; omega) (q_geq rfl rfl) (by decide) ?_
                  refine Qe rfl (q_pickF rfl (by simp; omega) rfl) ?_
                  refine Qe rfl (q_move rfl) ?_
                  refine WE_gq rfl rfl rfl rfl (by simp; omega) (q_move rfl) (by decide) ?_
                  refine WE_gq rfl rfl rfl rfl (by simp; omega) (q_gtr rfl rfl) (by decide) ?_
                  refine WE_gq rfl rfl rfl rfl (by simp; omega) (q_move rfl) (by decide) ?_
                  refine WE_gno rfl rfl rfl rfl (by rw [hj0]; rfl) (by decide) ?_
                  refine WE_gno rfl rfl rfl rfl (by rw [hj0]; rfl) (by decide) ?_
                  refine WE_gno rfl rfl rfl rfl (by rw [hj0]; rfl) (by decide) ?_
                  refine WE_gno rfl rfl rfl rfl (by rw [hj0]; rfl) (by decide) ?_
                  refine WE_gno rfl rfl rfl rfl (by rw [hj0]; rfl) (by decide) ?_
                  refine WE_gno rfl rfl rfl rfl (by rw [hj0]; rfl) (by decide) ?_
                  refine WE_gno rfl rfl rfl rfl (by rw [hj0]; rfl) (by decide) ?_
                  refine WE_gno rfl rfl rfl rfl (by rw [hj0]; rfl) (by decide) ?_
                  refine WE_gno rfl rfl rfl rfl (by rw [hj0]; rfl) (by decide) ?_
                  refine WE_gno rfl rfl rfl rfl (by rw [hj0]; rfl) (by decide) ?_
                  refine WE_gno rfl rfl rfl rfl (by rw [hj0]; rfl) (by decide) ?_
                  refine WE_gno rfl rfl rfl rfl (by rw [hj0]; rfl) (by decide) ?_
                  refine WE_gno rfl rfl rfl rfl (by rw [hj0]; rfl) (by decide) ?_
                  refine WE_gq rfl rfl rfl rfl (by simp; omega) (q_pickF rfl (by rw [hj0]; rfl) rfl) (by decide) ?_
                  refine Qe rfl (q_pickF rfl (by simp; omega) rfl) ?_
                  refine WE_end (WF_nil ?_)
                  refine thenN (WC_false rfl rfl (WC_skip (thenK ?_)))
                  refine ⟨0, ?_, (.cons rfl (.cons rfl (.cons rfl (.cons rfl (.cons rfl (.cons rfl (.cons rfl (.cons rfl (.cons rfl (.cons rfl (.cons rfl (.nil _)))))))))))), (List.Sublist.cons_cons _ (List.Sublist.cons_cons _ (List.Sublist.cons_cons _ (List.Sublist.cons_cons _ (List.Sublist.cons_cons _ (List.Sublist.refl _)))))), (fun _ h => .tail _ (.tail _ (.tail _ (.tail _ h))))⟩
                  exact rfl
                · have hj1 : j - 1 < en.rs.length := by omega
                  have hgap := norm_gap hC.pls.norm hj0 hj
                  refine WC_elem (k := (j - 1)) (.tail _ (.tail _ (.head _))) (List.getElem?_eq_getElem hj1) (rg_open _) fun bp qp yp ep => ?_
                  cases ep
                  refine WC_draw _ _ [] (.c 0 0 (.c 1 0 (.c 2 0 (.c 3 0 (.c 4 0 (.c 5 0 (.c 6 0 (.c 7 0 (.c 8 0 (.c 9 0 (.c 10 0 (.c 11 0 (.c 12 0 (.c 13 0 (.c 14 0 (.c 15 0 (.c 16 0 (.c 17 0 (.c 18 0 (.c 19 0 (.c 20 0 (.c 21 0 (.c 22 0 (.c 23 0 (.c 24 0 (.c 25 0 (.c 26 0 (.c 27 0 (.c 28 0 (.c 29 0 (.c 30 0 (.c 31 0 (.c 32 0 (.c 33 0 (.c 34 0 .nil))))))))))))))))))))))))))))))))))) mixed (fun _ _ _ _ h => h) (List.Sublist.cons_cons _ (List.Sublist.cons_cons _ (List.Sublist.cons_cons _ (List.Sublist.cons_cons _ (List.Sublist.cons_cons _ (List.Sublist.refl _)))))) (fun _ h => h) (by kernel_rfl) (by decide) fun ws Z0 => ?_
                  refine Qe rfl (q_field (o' := 0) Tryd.underlying37 rfl ti3 rfl rfl) ?_
                  refine Qe rfl (q_load1 Tryd.underlying3 rfl rfl own0 rfl) ?_
                  refine Qe rfl (q_lss rfl rfl) ?_
                  refine Qe rfl (q_move rfl) ?_
                  refine WE_gq rfl rfl rfl rfl (by simp; omega) (q_field (o' := 1) Tryd.underlying37 rfl ti3 rfl rfl) (by decide) ?_
                  refine WE_gq rfl rfl rfl rfl (by simp; omega) (q_load1 Tryd.underlying3 rfl rfl own0 rfl) (by decide) ?_
                  refine WE_gq rfl rfl rfl rfl (by simp; omega) (q_move rfl) (by decide) ?_
                  refine WE_gq rfl rfl rfl rfl (by simp; omega) (q_gtr rfl rfl) (by decide) ?_
                  refine Qe rfl (q_pickF rfl (by simp; omega) rfl) ?_
                  refine Qe rfl (q_move rfl) ?_
                  refine WE_gq rfl rfl rfl rfl (by simp; omega) (q_field (o' := 0) Tryd.underlying37 rfl ti3 rfl rfl) (by decide) ?_
                  refine WE_gq rfl rfl rfl rfl (by simp; omega) (q_load1 Tryd.underlying3 rfl rfl own0 rfl) (by decide) ?_
                  refine WE_gq rfl rfl rfl rfl (by simp; omega) (q_field (o' := 1) Tryd.underlying37 rfl ti3 rfl rfl) (by decide) ?_
                  refine WE_gq rfl rfl rfl rfl (by simp; omega) (q_load1 Tryd.underlying3 rfl rfl own0 rfl) (by decide) ?_
                  refine WE_gq rfl rfl rfl rfl (by simp; omega) (q_geq rfl rfl) (by decide) ?_
                  refine Qe rfl (q_pickF rfl (by simp; omega) rfl) ?_
                  refine Qe rfl (q_move rfl) ?_
                  refine WE_gq rfl rfl rfl rfl (by simp; omega) (q_move rfl) (by decide) ?_
                  refine WE_gq rfl rfl rfl rfl (by simp; omega) (q_gtr rfl rfl) (by decide) ?_
                  refine WE_gq rfl rfl rfl rfl (by simp; omega) (q_move rfl) (by decide) ?_
                  refine WE_gq rfl rfl rfl rfl (by simp; omega) (q_field (o' := 0) Tryd.underlying37 rfl ti3 rfl rfl) (by decide) ?_
                  refine WE_gq rfl rfl rfl rfl (by simp; omega) (q_load1 Tryd.underlying3 rfl rfl own0 rfl) (by decide) ?_
                  refine WE_gq rfl rfl rfl rfl (by simp; omega) (q_move rfl) (by decide) ?_
                  refine WE_gq rfl rfl rfl rfl (by simp; omega) (q_move rfl) (by decide) ?_
                  refine WE_gq rfl rfl rfl rfl (by simp; omega) (q_idxRd Tryd.underlying70 ti42 rfl rfl (by omega) (by omega)) (by decide) ?_
                  refine WE_gq rfl rfl rfl rfl (by simp; omega) (q_field (o' := _ + 4) Tryd.underlying42 rfl ti29 rfl rfl) (by decide) ?_
                  refine WE_gq rfl rfl rfl rfl (by simp; omega) (q_loadF1 (j := 4) Tryd.underlying29 rfl rfl (.tail _ (.tail _ (.head _))) rfl rfl) (by decide) ?_
                  refine WE_gq rfl rfl rfl rfl (by simp; omega) (q_move rfl) (by decide) ?_
                  refine WE_gq rfl rfl rfl rfl (by simp; omega) (q_sub rfl rfl (by rw [wr64 (by omega)]; omega) (c := ((j - 1 : Nat) : Int))) (by decide) ?_
                  refine WE_gq rfl rfl rfl rfl (by simp; omega) (q_idxRd Tryd.underlying29 ti37 rfl rfl (by omega) (by omega)) (by decide) ?_
                  refine WE_gq rfl rfl rfl rfl (by simp; omega) (q_field (o' := _ + 1) Tryd.underlying37 rfl ti3 rfl rfl) (by decide) ?_
                  refine WE_gq rfl rfl rfl rfl (by simp; omega) (q_loadF1 (j := 1) Tryd.underlying3 rfl rfl (.head _) rfl rfl) (by decide) ?_
                  refine WE_gq rfl rfl rfl rfl (by simp; omega) (q_leq rfl rfl) (by decide) ?_
                  refine WE_gq rfl rfl rfl rfl (by simp; omega) (q_pickT rfl (by simp; omega) rfl) (by decide) ?_
                  refine Qe rfl (q_pickF rfl (by simp; omega) rfl) ?_
                  refine WE_end (WF_nil ?_)
                  refine thenN ?_
                  refine WC_false rfl (by simp; omega) ?_
                  refine WC_skip (thenK ?_)
                  refine ⟨0, ?_, (.cons rfl (.cons rfl (.cons rfl (.cons rfl (.cons rfl (.cons rfl (.cons rfl (.cons rfl (.cons rfl (.cons rfl (.cons rfl (.nil _)))))))))))), (List.Sublist.cons_cons _ (List.Sublist.cons_cons _ (List.Sublist.cons_cons _ (List.Sublist.cons_cons _ (List.Sublist.cons_cons _ (List.Sublist.refl _)))))), (fun _ h => .tail _ (.tail _ (.tail _ (.tail _ (.tail _ h)))))⟩
                  exact rfl
              · rintro z hz
                refine WC_seq (WC_region ?_)
                refine Lq (q_field (o' := 0) Tryd.underlying37 rfl ti3 rfl rfl) ?_
                refine Lq (q_load1 Tryd.underlying3 rfl rfl own0 rfl) ?_
                refine Lq (q_assign rfl) ?_
                refine WL_nil (thenN (WC_block ?_))
                refine WC_loopE (α := Int × Nat × List Int × List Int × List Int) (fun (q, kk4, mk4, hd4, rn4) => (en.rs[j].hi - q).toNat)
                  (fun (q, kk4, mk4, hd4, rn4) => [(0, .pointer (some ⟨v, 0, none⟩)), (1, .slice (some ⟨be, qe, none⟩) H.ents.length cl), (8, .int .i64 T), (9, .slice (some ⟨bm, 0, none⟩) T T), (10, .slice (some ⟨bh, 0, none⟩) T T), (11, .slice (some ⟨br, 0, none⟩) T T), (12, .int .i64 i), (13, .slice A9 (runesF tx).length c9), (16, .int .i64 kk4), (17, .int .i64 j), (18, .pointer (some ⟨b18, 0, none⟩)), (19, .int .i64 q)])
                  (fun (q, kk4, mk4, hd4, rn4) => ([(b18, cellsO (rgC en.rs[j]) 37)] :: [(br, cellsO (ints .i32 rn4) 21)] :: [(bh, cellsO (ints .i64 hd4) 3)] :: [(bm, cellsO (ints .i64 mk4) 3)] :: vwP v h b A1 H.ents.length c1 A2 c2 (some ⟨bt, qt, none⟩) c3 nx :: Ps))
                  (fun (q, kk4, mk4, hd4, rn4) => (RdF (De.int .i32) A9 c9 (runesF tx) :: RdF De.str (some ⟨bt, qt, none⟩) c3 (textsOf H.ents) :: RdF (De.int .i64) A2 c2 (kindsOf H.ents) :: RdF enD (some ⟨be, qe, none⟩) cl (ensL H) :: As))
                  (fun (q, kk4, mk4, hd4, rn4) => Q4 T X (H.ents.take i) en kn j en.rs[j] q kk4 mk4 hd4 rn4)
                  (en.rs[j].lo, kk3, mk3, hd3, rn3) ?_ (.cons rfl (.cons rfl (.cons rfl (.cons rfl (.cons rfl (.cons rfl (.cons rfl (.cons rfl (.cons rfl (.cons rfl (.cons rfl (.cons rfl (.nil _))))))))))))) (List.Sublist.cons_cons _ (List.Sublist.cons_cons _ (List.Sublist.cons_cons _ (List.Sublist.cons_cons _ (List.Sublist.cons_cons _ (List.Sublist.refl _)))))) (fun _ h => h) ?_
                · exact hJ.start (by omega)
                · rintro ⟨q, kk4, mk4, hd4, rn4⟩ hQ
                  have hqlo := hQ.lo
                  have hqhi := hQ.hi
                  refine WC_seq (WC_seq (WC_region ?_))
                  refine Lq (q_move rfl) ?_
                  refine Lq (q_field (o' := 1) Tryd.underlying37 rfl ti3 rfl rfl) ?_
                  refine Lq (q_load1 Tryd.underlying3 rfl rfl own0 rfl) ?_
                  refine Lq (q_lss rfl rfl) ?_
                  refine WL_nil (thenN ?_)
                  refine WC_cond rfl (fun h112 => ?_) (fun h112 => ?_)
                  · refine WC_skip (thenN (WC_seq (WC_block (WC_seq (WC_seq ?_)))))
                    try simp only [Bq0, Bq1, Bq2, Bq3, Bq4, Bq5, Bq6, Bq7, Bq8, Bq9, Bq10, Bq11, Bq12] at *
                    obtain ⟨hq0, hqT, hqn, hqr⟩ := hQ.here hC h112
                    have hqt : q.toNat < T := by omega
                    obtain ⟨⟨x1, hx1, hx1a, hx1b⟩, ⟨x2, hx2, hx2a, hx2b⟩⟩ := hQ.ci.at_ hqt
                    rw [List.length_take] at hx1b hx2b
                    have hml := hQ.ci.ml
                    have hhl := hQ.ci.hl
                    have hrl4 := hQ.ci.rl
                    refine WC_elem (k := i) (.tail _ (.tail _ (.head _))) hC.hkn (i64_open _) fun bk qk yk ek => ?_
                    cases ek
                    refine WC_region ?_
                    refine Lq (q_move rfl) ?_
                    refine Lq (q_nil rfl) ?_
                    refine Lq (q_field (o' := 3) Tryd.underlying61 rfl ti57 rfl rfl) ?_
                    refine Lq (q_load1 Tryd.underlying57 rfl rfl (ownS (ownS (ownS (ownS (own0))))) rfl) ?_
                    refine Lq (q_move rfl) ?_
                    refine Lq (q_idxRd Tryd.underlying57 ti3 rfl rfl (by omega) (by omega)) ?_
                    refine Lq (q_loadF1 (j := 0) Tryd.underlying3 rfl rfl (.head _) rfl rfl) ?_
                    refine Lq (q_eql rfl rfl) ?_
                    refine WL_nil (thenN ?_)
                    refine WC_cond rfl (fun h122 => ?_) (fun h122 => ?_)
                    · refine WC_seq ?_
                      obtain ⟨y1, hy1, hy2⟩ := hqr (by simpa using h122)
                      have hkk : kk4 < (runesF tx).length := by
                        rcases Nat.lt_or_ge kk4 (runesF tx).length with h | h
                        · exact h
                        · rw [List.getElem?_eq_none h] at hy1; cases hy1
                      refine WC_region ?_
                      refine Lq (q_move rfl) ?_
                      refine Lq (q_move rfl) ?_
                      refine Lq (q_idxOwn Tryd.underlying57 ti3 rfl rfl (by omega) (by omega)) ?_
                      refine Lq (q_load1 Tryd.underlying3 rfl rfl (ownS (ownS (ownS (own0)))) (ints_at hx1)) ?_
                      refine Lq (q_add rfl rfl (wr64 (by omega))) ?_
                      refine Lq (q_idxOwn Tryd.underlying57 ti3 rfl rfl (by omega) (by omega)) ?_
                      refine WL_main rfl (OW_storeC ti3 rfl rfl rfl (by rw [ints_len]; omega) (.s (.s (.s (.z)))) ?_)
                      refine WL_nil (thenN (WC_seq (WC_seq ?_)))
                      rw [ints_set]
                      refine WC_region ?_
                      refine Lq (q_move rfl) ?_
                      refine Lq (q_move rfl) ?_
                      refine Lq (q_len Tryd.underlying73 rfl) ?_
                      refine Lq (q_lss rfl rfl) ?_
                      refine WL_nil (thenN ?_)
                      refine WC_true rfl (by simp; omega) ?_
                      refine WC_elem (k := kk4) (.tail _ (.head _)) hy1 (i32_open _) fun bo qo yo eo => ?_
                      cases eo
                      refine WC_region ?_
                      refine Lq (q_move rfl) ?_
                      refine Lq (q_move rfl) ?_
                      refine Lq (q_move rfl) ?_
                      refine Lq (q_move rfl) ?_
                      refine Lq (q_idxRd Tryd.underlying73 ti21 rfl rfl (by omega) (by omega)) ?_
                      refine Lq (q_loadF1 (j := 0) Tryd.underlying21 rfl rfl (.head _) rfl rfl) ?_
                      refine Lq (q_idxOwn Tryd.underlying73 ti21 rfl rfl (by omega) (by omega)) ?_
                      refine WL_main rfl (OW_storeC ti21 rfl rfl rfl (by rw [ints_len]; omega) (.s (.z)) ?_)
                      refine WL_nil (thenN ?_)
                      rw [ints_set]
                      refine WC_region ?_
                      refine Lq (q_move rfl) ?_
                      refine Lq (q_add rfl rfl (wr64 (by omega)) (c := ((kk4 + 1 : Nat) : Int))) ?_
                      refine Lq (q_assign rfl) ?_
                      refine WL_nil (thenN (WC_seq ?_))
                      refine WC_elem (k := i) (.tail _ (.tail _ (.tail _ (.tail _ (.tail _ (.head _)))))) hC.hen (en_open _) fun bg qg yg eg => ?_
                      cases eg
                      refine WC_draw _ _ [] (.c 0 0 (.c 1 0 (.c 2 0 (.c 3 0 (.c 4 0 (.c 5 0 (.c 6 0 (.c 7 0 (.c 8 0 (.c 9 0 (.c 10 0 (.c 11 0 (.c 12 0 (.c 13 0 .nil)))))))))))))) mixed (fun _ _ _ _ h => h) (List.Sublist.cons_cons _ (List.Sublist.cons_cons _ (List.Sublist.cons_cons _ (List.Sublist.cons_cons _ (List.Sublist.cons_cons _ (List.Sublist.refl _)))))) (fun _ h => h) (by kernel_rfl) (by decide) fun ws Z0 => ?_
                      refine Qe rfl (q_move rfl) ?_
                      refine Qe rfl (q_nil rfl) ?_
                      refine Qe rfl (q_field (o' := 3) Tryd.underlying61 rfl ti57 rfl rfl) ?_
                      refine Qe rfl (q_load1 Tryd.underlying57 rfl rfl (ownS (ownS (ownS (ownS (own0))))) rfl) ?_
                      refine Qe rfl (q_move rfl) ?_
                      refine Qe rfl (q_idxRd Tryd.underlying57 ti3 rfl rfl (by omega) (by omega)) ?_
                      refine Qe rfl (q_loadF1 (j := 0) Tryd.underlying3 rfl rfl (.tail _ (.tail _ (.tail _ (.head _)))) rfl rfl) ?_
                      refine Qe rfl (q_eql rfl rfl) ?_
                      refine Qe rfl (q_move rfl) ?_
                      refine Qe rfl (q_move rfl) ?_
                      refine Qe rfl (q_idxRd Tryd.underlying70 ti42 rfl rfl (by omega) (by omega)) ?_
                      refine Qe rfl (q_field (o' := _ + 3) Tryd.underlying42 rfl ti4 rfl rfl) ?_
                      refine Qe rfl (q_loadF1 (j := 3) Tryd.underlying4 rfl rfl (.head _) rfl rfl) ?_
                      refine Qe rfl (q_bneq' Tryd.underlying4 rfl rfl) ?_
                      refine WE_end (WF_nil ?_)
                      refine thenN ?_
                      refine WC_cond rfl (fun h155 => ?_) (fun h155 => ?_)
                      · refine WC_region ?_
                        refine Lq (q_move rfl) ?_
                        refine Lq (q_move rfl) ?_
                        refine Lq (q_idxOwn Tryd.underlying57 ti3 rfl rfl (by omega) (by omega)) ?_
                        refine Lq (q_load1 Tryd.underlying3 rfl rfl (ownS (ownS (own0))) (ints_at hx2)) ?_
                        refine Lq (q_add rfl rfl (wr64 (by omega))) ?_
                        refine Lq (q_idxOwn Tryd.underlying57 ti3 rfl rfl (by omega) (by omega)) ?_
                        refine WL_main rfl (OW_storeC ti3 rfl rfl rfl (by rw [ints_len]; omega) (.s (.s (.z))) ?_)
                        refine WL_nil (blockN (thenN (WC_region ?_)))
                        refine Lq (q_move rfl) ?_
                        refine Lq (q_add rfl rfl (wr64 (by omega))) ?_
                        refine Lq (q_assign rfl) ?_
                        refine WL_nil (thenK ?_)
                        rw [ints_set]
                        refine ⟨(q + 1, kk4 + 1, mk4.set q.toNat (x1 + 1), hd4.set q.toNat (x2 + 1), rn4.set q.toNat y1), ?_, (.cons rfl (.cons rfl (.cons rfl (.cons rfl (.cons rfl (.cons rfl (.cons rfl (.cons rfl (.cons rfl (.cons rfl (.cons rfl (.cons rfl (.nil _))))))))))))), (List.Sublist.cons_cons _ (List.Sublist.cons_cons _ (List.Sublist.cons_cons _ (List.Sublist.cons_cons _ (List.Sublist.cons_cons _ (List.Sublist.refl _)))))), (fun _ h => .tail _ (.tail _ (.tail _ (.tail _ (.tail _ h)))))⟩
                        exact ⟨by show (en.rs[j].hi - (q + 1)).toNat < (en.rs[j].hi - q).toNat; omega, hQ.next hq0 hqT h112 hqn (fun _ => rfl) (.inl ⟨h122, x1, hx1, rfl⟩) (.inl ⟨h155, x2, hx2, rfl⟩) (.inl ⟨h122, y1, hy2, rfl⟩)⟩
                      · refine WC_skip (blockN (thenN (WC_region ?_)))
                        refine Lq (q_move rfl) ?_
                        refine Lq (q_add rfl rfl (wr64 (by omega))) ?_
                        refine Lq (q_assign rfl) ?_
                        refine WL_nil (thenK ?_)
                        refine ⟨(q + 1, kk4 + 1, mk4.set q.toNat (x1 + 1), hd4, rn4.set q.toNat y1), ?_, (.cons rfl (.cons rfl (.cons rfl (.cons rfl (.cons rfl (.cons rfl (.cons rfl (.cons rfl (.cons rfl (.cons rfl (.cons rfl (.cons rfl (.nil _))))))))))))), (List.Sublist.cons_cons _ (List.Sublist.cons_cons _ (List.Sublist.cons_cons _ (List.Sublist.cons_cons _ (List.Sublist.cons_cons _ (List.Sublist.refl _)))))), (fun _ h => .tail _ (.tail _ (.tail _ (.tail _ (.tail _ h)))))⟩
                        exact ⟨by show (en.rs[j].hi - (q + 1)).toNat < (en.rs[j].hi - q).toNat; omega, hQ.next hq0 hqT h112 hqn (fun _ => rfl) (.inl ⟨h122, x1, hx1, rfl⟩) (.inr ⟨h155, rfl⟩) (.inl ⟨h122, y1, hy2, rfl⟩)⟩
                    · refine WC_skip (thenN (WC_seq ?_))
                      refine WC_elem (k := i) (.tail _ (.tail _ (.tail _ (.tail _ (.head _))))) hC.hen (en_open _) fun bg qg yg eg => ?_
                      cases eg
                      refine WC_draw _ _ [] (.c 0 0 (.c 1 0 (.c 2 0 (.c 3 0 (.c 4 0 (.c 5 0 (.c 6 0 (.c 7 0 (.c 8 0 (.c 9 0 (.c 10 0 (.c 11 0 (.c 12 0 (.c 13 0 .nil)))))))))))))) mixed (fun _ _ _ _ h => h) (List.Sublist.cons_cons _ (List.Sublist.cons_cons _ (List.Sublist.cons_cons _ (List.Sublist.cons_cons _ (List.Sublist.cons_cons _ (List.Sublist.refl _)))))) (fun _ h => h) (by kernel_rfl) (by decide) fun ws Z0 => ?_
                      refine Qe rfl (q_move rfl) ?_
                      refine Qe rfl (q_nil rfl) ?_
                      refine Qe rfl (q_field (o' := 3) Tryd.underlying61 rfl ti57 rfl rfl) ?_
                      refine Qe rfl (q_load1 Tryd.underlying57 rfl rfl (ownS (ownS (ownS (ownS (own0))))) rfl) ?_
                      refine Qe rfl (q_move rfl) ?_
                      refine Qe rfl (q_idxRd Tryd.underlying57 ti3 rfl rfl (by omega) (by omega)) ?_
                      refine Qe rfl (q_loadF1 (j := 0) Tryd.underlying3 rfl rfl (.tail _ (.tail _ (.head _))) rfl rfl) ?_
                      refine Qe rfl (q_eql rfl rfl) ?_
                      refine Qe rfl (q_move rfl) ?_
                      refine Qe rfl (q_move rfl) ?_
                      refine Qe rfl (q_idxRd Tryd.underlying70 ti42 rfl rfl (by omega) (by omega)) ?_
                      refine Qe rfl (q_field (o' := _ + 3) Tryd.underlying42 rfl ti4 rfl rfl) ?_
                      refine Qe rfl (q_loadF1 (j := 3) Tryd.underlying4 rfl rfl (.head _) rfl rfl) ?_
                      refine Qe rfl (q_bneq' Tryd.underlying4 rfl rfl) ?_
                      refine WE_end (WF_nil ?_)
                      refine thenN ?_
                      refine WC_cond rfl (fun h155 => ?_) (fun h155 => ?_)
                      · refine WC_region ?_
                        refine Lq (q_move rfl) ?_
                        refine Lq (q_move rfl) ?_
                        refine Lq (q_idxOwn Tryd.underlying57 ti3 rfl rfl (by omega) (by omega)) ?_
                        refine Lq (q_load1 Tryd.underlying3 rfl rfl (ownS (ownS (own0))) (ints_at hx2)) ?_
                        refine Lq (q_add rfl rfl (wr64 (by omega))) ?_
                        refine Lq (q_idxOwn Tryd.underlying57 ti3 rfl rfl (by omega) (by omega)) ?_
                        refine WL_main rfl (OW_storeC ti3 rfl rfl rfl (by rw [ints_len]; omega) (.s (.s (.z))) ?_)
                        refine WL_nil (blockN (thenN (WC_region ?_)))
                        refine Lq (q_move rfl) ?_
                        refine Lq (q_add rfl rfl (wr64 (by omega))) ?_
                        refine Lq (q_assign rfl) ?_
                        refine WL_nil (thenK ?_)
                        rw [ints_set]
                        refine ⟨(q + 1, kk4, mk4, hd4.set q.toNat (x2 + 1), rn4), ?_, (.cons rfl (.cons rfl (.cons rfl (.cons rfl (.cons rfl (.cons rfl (.cons rfl (.cons rfl (.cons rfl (.cons rfl (.cons rfl (.cons rfl (.nil _))))))))))))), (List.Sublist.cons_cons _ (List.Sublist.cons_cons _ (List.Sublist.cons_cons _ (List.Sublist.cons_cons _ (List.Sublist.cons_cons _ (List.Sublist.refl _)))))), (fun _ h => .tail _ (.tail _ (.tail _ (.tail _ h))))⟩
                        exact ⟨by show (en.rs[j].hi - (q + 1)).toNat < (en.rs[j].hi - q).toNat; omega, hQ.next hq0 hqT h112 hqn (fun h0 => by rw [h0] at h122; cases h122) (.inr ⟨h122, rfl⟩) (.inl ⟨h155, x2, hx2, rfl⟩) (.inr ⟨h122, rfl⟩)⟩
                      · refine WC_skip (blockN (thenN (WC_region ?_)))
                        refine Lq (q_move rfl) ?_
                        refine Lq (q_add rfl rfl (wr64 (by omega))) ?_
                        refine Lq (q_assign rfl) ?_
                        refine WL_nil (thenK ?_)
                        refine ⟨(q + 1, kk4, mk4, hd4, rn4), ?_, (.cons rfl (.cons rfl (.cons rfl (.cons rfl (.cons rfl (.cons rfl (.cons rfl (.cons rfl (.cons rfl (.cons rfl (.cons rfl (.cons rfl (.nil _))))))))))))), (List.Sublist.cons_cons _ (List.Sublist.cons_cons _ (List.Sublist.cons_cons _ (List.Sublist.cons_cons _ (List.Sublist.cons_cons _ (List.Sublist.refl _)))))), (fun _ h => .tail _ (.tail _ (.tail _ (.tail _ h))))⟩
                        exact ⟨by show (en.rs[j].hi - (q + 1)).toNat < (en.rs[j].hi - q).toNat; omega, hQ.next hq0 hqT h112 hqn (fun h0 => by rw [h0] at h122; cases h122) (.inr ⟨h122, rfl⟩) (.inr ⟨h155, rfl⟩) (.inr ⟨h122, rfl⟩)⟩
                  · refine WC_exit (thenExit (thenExit (blockHit (blockN (thenN (WC_region ?_))))))
                    refine Lq (q_move rfl) ?_
                    refine Lq (q_add rfl rfl (wr64 (by omega)) (c := ((j + 1 : Nat) : Int))) ?_
                    refine Lq (q_assign rfl) ?_
                    refine WL_nil (thenK ?_)
                    refine ⟨(j + 1, kk4, mk4, hd4, rn4), ?_, (.cons rfl (.cons rfl (.cons rfl (.cons rfl (.cons rfl (.cons rfl (.cons rfl (.cons rfl (.cons rfl (.cons rfl (.nil _))))))))))), (List.Sublist.cons _ (List.Sublist.cons_cons _ (List.Sublist.cons_cons _ (List.Sublist.cons_cons _ (List.Sublist.cons_cons _ (List.Sublist.refl _)))))), (fun _ h => h)⟩
                    simp only [decide_eq_false_iff_not] at h112
                    exact ⟨by show en.rs.length - (j + 1) < en.rs.length - j; omega, hQ.done h112⟩
            · refine WC_exit (thenExit (thenExit (blockHit (thenN (WC_seq ?_)))))
              try simp only [Bq0, Bq1, Bq2, Bq3, Bq4, Bq5, Bq6, Bq7, Bq8, Bq9, Bq10, Bq11, Bq12] at *
              obtain ⟨hcl, hkl⟩ := hJ.done hC (by omega)
              refine WC_elem (k := i) (.tail _ (.tail _ (.tail _ (.tail _ (.head _))))) hC.hkn (i64_open _) fun bz qz yz ez => ?_
              cases ez
              refine WC_region ?_
              refine Lq (q_move rfl) ?_
              refine Lq (q_nil rfl) ?_
              refine Lq (q_field (o' := 3) Tryd.underlying61 rfl ti57 rfl rfl) ?_
              refine Lq (q_load1 Tryd.underlying57 rfl rfl (ownS (ownS (ownS (own0)))) rfl) ?_
              refine Lq (q_move rfl) ?_
              refine Lq (q_idxRd Tryd.underlying57 ti3 rfl rfl (by omega) (by omega)) ?_
              refine Lq (q_loadF1 (j := 0) Tryd.underlying3 rfl rfl (.head _) rfl rfl) ?_
              refine Lq (q_eql rfl rfl) ?_
              refine Lq (q_move rfl) ?_
              refine WL_guard (t := 170) rfl (fun g170 => ?_) (fun g170 => ?_)
              · refine Lg rfl rfl rfl g170 (q_move rfl) ?_
                refine Lg rfl rfl rfl g170 (q_move rfl) ?_
                refine Lg rfl rfl rfl g170 (q_len Tryd.underlying73 rfl) ?_
                refine Lg rfl rfl rfl g170 (q_neq rfl rfl) ?_
                refine Lq (q_pickT rfl g170 rfl) ?_
                refine WL_nil (thenN ?_)
                refine WC_false rfl (by first | rfl | (have h5 := hkl (by simpa using g170); simp; omega)) ?_
                refine WC_skip (blockN (thenN (WC_region ?_)))
                refine Lq (q_move rfl) ?_
                refine Lq (q_add rfl rfl (wr64 (by omega)) (c := ((i + 1 : Nat) : Int))) ?_
                refine Lq (q_assign rfl) ?_
                refine WL_nil (thenK ?_)
                refine ⟨(i + 1, mk3, hd3, rn3), ?_, (.cons rfl (.cons rfl (.cons rfl (.cons rfl (.cons rfl (.cons rfl (.cons rfl (.nil _)))))))), (List.Sublist.cons_cons _ (List.Sublist.cons_cons _ (List.Sublist.cons_cons _ (List.Sublist.cons_cons _ (List.Sublist.refl _))))), (fun _ h => .tail _ (.tail _ (.tail _ (.tail _ h))))⟩
                exact ⟨by show H.ents.length - (i + 1) < H.ents.length - i; omega, by omega, hcl⟩
              · refine Ln rfl rfl rfl g170 ?_
                refine Ln rfl rfl rfl g170 ?_
                refine Ln rfl rfl rfl g170 ?_
                refine Ln rfl rfl rfl g170 ?_
                refine Lq (q_pickF rfl g170 rfl) ?_
                refine WL_nil (thenN (WC_false rfl rfl (WC_skip (blockN (thenN (WC_region ?_))))))
                refine Lq (q_move rfl) ?_
                refine Lq (q_add rfl rfl (wr64 (by omega)) (c := ((i + 1 : Nat) : Int))) ?_
                refine Lq (q_assign rfl) ?_
                refine WL_nil (thenK ?_)
                refine ⟨(i + 1, mk3, hd3, rn3), ?_, (.cons rfl (.cons rfl (.cons rfl (.cons rfl (.cons rfl (.cons rfl (.cons rfl (.nil _)))))))), (List.Sublist.cons_cons _ (List.Sublist.cons_cons _ (List.Sublist.cons_cons _ (List.Sublist.cons_cons _ (List.Sublist.refl _))))), (fun _ h => .tail _ (.tail _ (.tail _ (.tail _ h))))⟩
                exact ⟨by show H.ents.length - (i + 1) < H.ents.length - i; omega, by omega, hcl⟩
    · refine WC_exit (thenExit (thenExit (blockHit (thenN (WC_seq (WC_region ?_))))))
      refine Lq (q_move rfl) ?_
      refine Lq (q_move rfl) ?_
      refine Lq (q_move rfl) ?_
      refine Lq (q_assign rfl) ?_
      refine Lq (q_assign rfl) ?_
      refine Lq (q_assign rfl) ?_
      refine Lq (q_assign rfl) ?_
      refine WL_nil (thenN (WC_ret ?_))
      refine ⟨_, [_, _, _, _], [], fun Z w hs => .tmp rfl (.tmp rfl (.tmp rfl (.tmp rfl (.nil)))), ?_, fun Z w hs => hs.out (List.Sublist.cons_cons _ (List.Sublist.cons_cons _ (List.Sublist.cons_cons _ (List.Sublist.cons_cons _ (List.Sublist.refl _))))) (fun _ h => h)⟩
      simp only [decide_eq_false_iff_not] at h36
      have hIe := hI.2
      rw [List.take_of_length_le (by omega)] at hIe
      exact ⟨bm, bh, br, mk, hd, rn, rfl, hIe, rfl, rfl⟩

end Go.Proofs.YtggdddkbhigjoaaDoor
/- Walks: HistoryCounts. -/
namespace Go.Proofs.YtggdddkbhigjoaaDoor
open Go Go.GW
set_option maxRecDepth 10000 in
theorem hcounts_s (Am : Option Addr) (cm : Nat) (ms : List Mv) : Sp Tryd.prog 5 [.slice Am ms.length cm] [] [barF, RdF mvD Am cm ms] (Is (.bool true)) := by
  refine Sp.of (n := 157) ⟨_, Tryd.func5, rfl, rfl, rfl, rfl⟩ (Nat.le_of_ble_eq_true rfl) fun Ps As => ?_
  refine WC_seq (WC_region ?_)
  refine Lq (q_assign rfl) ?_
  refine WL_nil (thenN (WC_seq (WC_region ?_)))
  refine Lq (q_move rfl) ?_
  refine WL_main rfl (OW_call0 (fed_s Am cm ms) (.cons rfl (.nil)) (by decide) (memc (.head _) (memc (.tail _ (.head _)) mem0)) fun u1_1 Lo fs hres => ?_)
  obtain ⟨v, h, m, b, n, H, X, nx, rfl, ⟨L, A, cap, B, t, A1, c1, A2, c2, A3, c3, rfl, rfl, hr, wt, hX⟩, hV, hn20⟩ := hres
  have hnl := hV.len
  have hol : H.ops.length = H.ents.length := by simp [Hist.ops]
  have hfo : ∀ y ∈ H.ops, Fit y := fun y hy => by obtain ⟨e, he, rfl⟩ := List.mem_map.1 hy; exact hr.fit e he
  obtain ⟨T, hT⟩ : ∃ T, cellsN ((textsOf H.ents).take H.ents.length) = T := ⟨_, rfl⟩
  have hT2 : (T : Int) = H.total := by
    have h1 := cells_before hV.hv H.ents.length
    have h2 := hV.hv.split H.ents.length
    rw [List.drop_of_length_le (by omega)] at h2
    have h3 := h2.2.2.1
    rw [hT] at h1
    simp only [sumO] at h3
    omega
  have htt := hV.total
  refine Lq (q_move rfl) ?_
  refine Lq (q_extract (vs := [_, _]) rfl rfl) ?_
  refine Lq (q_extract (vs := [_, _]) rfl rfl) ?_
  refine Lq (q_assign rfl) ?_
  refine Lq (q_assign rfl) ?_
  refine WL_nil (thenN (WC_seq (WC_seq (WC_region ?_))))
  refine Lq (q_move rfl) ?_
  refine Lq (q_not rfl) ?_
  refine WL_nil (thenN (WC_false rfl rfl (WC_skip (thenN (WC_seq (WC_region ?_))))))
  refine Lq (q_move rfl) ?_
  refine Lq (q_nil rfl) ?_
  refine Lq (q_field (o' := 0) Tryd.underlying61 rfl ti22 rfl rfl) ?_
  refine Lq (q_load1 Tryd.underlying22 rfl rfl own0 rfl) ?_
  refine WL_main rfl (OW_call3 (entries_s h m cap A H L hr (by omega)) (.cons rfl (.nil)) (by decide) (.s (.z)) (.s (.z)) (.s (.z)) (memc (.head _) (memc (.tail _ (.head _)) mem0)) fun u4_4 Lo fs hres => ?_)
  obtain ⟨Al, cl, rfl, rfl, rfl⟩ := hres
  refine Lq (q_move rfl) ?_
  refine Lq (q_extract (vs := [_, _]) rfl rfl) ?_
  refine Lq (q_extract (vs := [_, _]) rfl rfl) ?_
  refine Lq (q_assign rfl) ?_
  refine Lq (q_assign rfl) ?_
  refine WL_nil (thenN (WC_seq (WC_seq (WC_region ?_))))
  refine Lq (q_move rfl) ?_
  refine Lq (q_not rfl) ?_
  refine Lq (q_move rfl) ?_
  refine Lg rfl rfl rfl rfl (q_move rfl) ?_
  refine Lg rfl rfl rfl rfl (q_len Tryd.underlying70 rfl) ?_
  refine Lg rfl rfl rfl rfl (q_move rfl) ?_
  refine Lg rfl rfl rfl rfl (q_nil rfl) ?_
  refine Lg rfl rfl rfl rfl (q_field (o' := 2) Tryd.underlying61 rfl ti56 rfl rfl) ?_
  refine Lg rfl rfl rfl rfl (q_load1 Tryd.underlying56 rfl rfl (ownS (ownS (ownS (own0)))) rfl) ?_
  refine Lg rfl rfl rfl rfl (q_len Tryd.underlying56 rfl) ?_
  refine Lg rfl rfl rfl rfl (q_neq rfl rfl) ?_
  refine Lq (q_pickF rfl rfl rfl) ?_
  refine WL_nil (thenN ?_)
  refine WC_false rfl (by simp) ?_
  refine WC_skip (thenN (WC_seq (WC_seq ?_)))
  refine WC_pick (.s (.s (.s (.s (.z))))) ?_
  refine WC_pick (.s (.s (.s (.z)))) ?_
  refine WC_pick (.s (.s (.s (.z)))) ?_
  refine WC_pick (.s (.s (.s (.z)))) ?_
  refine WC_pick (.s (.s (.s (.s (.z))))) ?_
  refine WC_region ?_
  refine Lq (q_assign rfl) ?_
  refine WL_nil (thenN (WC_block ?_))
  refine WC_loopE (α := Nat) (fun i => H.ents.length - i)
    (fun i => [(3, .pointer (some ⟨v, 0, none⟩)), (5, .slice Al H.ents.length cl), (6, .int .i64 i)])
    (fun i => (vwP v h b A1 H.ents.length c1 A2 c2 A3 c3 nx :: hdP h A H.ops.length cap m H.total :: mpP m L :: mkP L :: rpP b B :: Ps))
    (fun i => (RdF enD Al cl (ensL H) :: RdF opD A cap H.ops :: AllF L nowF :: TrF B t :: RdF idD A1 c1 (idsOf H.ents) :: RdF (De.int .i64) A2 c2 (kindsOf H.ents) :: RdF De.str A3 c3 (textsOf H.ents) :: barF :: RdF mvD Am cm ms :: As))
    (fun i => i ≤ H.ents.length)
    0 ?_ (.cons rfl (.cons rfl (.cons rfl (.nil _)))) (List.Sublist.cons_cons _ (List.Sublist.cons_cons _ (List.Sublist.cons_cons _ (List.Sublist.cons_cons _ (List.Sublist.cons_cons _ (List.Sublist.refl _)))))) (fun _ h => h) ?_
  · exact Nat.zero_le _
  · rintro i hI
    refine WC_seq (WC_seq (WC_region ?_))
    refine Lq (q_move rfl) ?_
    refine Lq (q_move rfl) ?_
    refine Lq (q_len Tryd.underlying70 rfl) ?_
    refine Lq (q_lss rfl rfl) ?_
    refine WL_nil (thenN ?_)
    refine WC_cond rfl (fun h44 => ?_) (fun h44 => ?_)
    · refine WC_skip (thenN (WC_seq (WC_block (WC_seq ?_))))
      try simp only [Bq0, Bq1, Bq2, Bq3, Bq4, Bq5, Bq6, Bq7, Bq8, Bq9, Bq10, Bq11, Bq12] at *
      have hi : i < H.ents.length := by omega
      obtain ⟨en, kn, tx, hC⟩ := counts_facts hV hT2 hi
      refine WC_elem (k := i) (.head _) hC.hen (en_open _) fun be qe ye ee => ?_
      cases ee
      refine WC_elem (k := i) (.tail _ (.tail _ (.tail _ (.tail _ (.tail _ (.tail _ (.head _))))))) hC.id (id_open _) fun bi qi yi ei => ?_
      cases ei
      refine WC_elem (k := i) (.tail _ (.tail _ (.tail _ (.tail _ (.tail _ (.tail _ (.tail _ (.tail _ (.head _))))))))) hC.hkn (i64_open _) fun bk qk yk ek => ?_
      cases ek
      refine WC_draw _ _ [] (.c 0 0 (.c 1 0 (.c 2 0 (.c 3 0 (.c 4 0 (.c 5 0 (.c 6 0 (.c 7 0 (.c 8 0 (.c 9 0 (.c 10 0 (.c 11 0 (.c 12 0 (.c 13 0 (.c 14 0 (.c 15 0 (.c 16 0 (.c 17 0 (.c 18 0 (.c 19 0 (.c 20 0 (.c 21 0 (.c 22 0 (.c 23 0 (.c 24 0 (.c 25 0 (.c 26 0 (.c 27 0 (.c 28 0 (.c 29 0 (.c 30 0 (.c 31 0 (.c 32 0 (.c 33 0 (.c 34 0 (.c 35 0 (.c 36 0 (.c 37 0 (.c 38 0 (.c 39 0 (.c 40 0 (.c 41 0 (.c 42 0 (.c 43 0 (.c 44 0 (.c 45 0 (.c 46 0 (.c 47 0 .nil)))))))))))))))))))))))))))))))))))))))))))))))) mixed (fun _ _ _ _ h => h) (List.Sublist.cons_cons _ (List.Sublist.cons_cons _ (List.Sublist.cons_cons _ (List.Sublist.cons_cons _ (List.Sublist.cons_cons _ (List.Sublist.refl _)))))) (fun _ h => h) (by kernel_rfl) (by decide) fun ws Z0 => ?_
      refine Qe rfl (q_move rfl) ?_
      refine Qe rfl (q_move rfl) ?_
      refine Qe rfl (q_idxRd Tryd.underlying70 ti42 rfl rfl (by omega) (by omega)) ?_
      refine Qe rfl (q_field (o' := _ + 0) Tryd.underlying42 rfl ti25 rfl rfl) ?_
      refine Qe rfl (q_loadFN (k := 0) (vs := [_, _]) Tryd.underlying25 rfl ti25 rfl (.tail _ (.tail _ (.head _))) rfl rfl rfl) ?_
      refine Qe rfl (q_move rfl) ?_
      refine Qe rfl (q_nil rfl) ?_
      refine Qe rfl (q_field (o' := 2) Tryd.underlying61 rfl ti56 rfl rfl) ?_
      refine Qe rfl (q_load1 Tryd.underlying56 rfl rfl own0 rfl) ?_
      refine Qe rfl (q_move rfl) ?_
      refine Qe rfl (q_idxRd Tryd.underlying56 ti25 rfl rfl (by omega) (by omega)) ?_
      refine Qe rfl (q_loadFN (k := 0) (vs := [_, _]) Tryd.underlying25 rfl ti25 rfl (.tail _ (.head _)) rfl rfl rfl) ?_
      refine Qe rfl (q_aggneq rfl rfl (eq25 _ _ _ _)) ?_
      refine Qe rfl (q_move rfl) ?_
      refine WE_gq rfl rfl rfl rfl (by simp) (q_move rfl) (by decide) ?_
      refine WE_gq rfl rfl rfl rfl (by simp) (q_move rfl) (by decide) ?_
      refine WE_gq rfl rfl rfl rfl (by simp) (q_idxRd Tryd.underlying70 ti42 rfl rfl (by omega) (by omega)) (by decide) ?_
      refine WE_gq rfl rfl rfl rfl (by simp) (q_field (o' := _ + 2) Tryd.underlying42 rfl ti26 rfl rfl) (by decide) ?_
      refine WE_gq rfl rfl rfl rfl (by simp) (q_loadF1 (j := 2) Tryd.underlying26 rfl rfl (.tail _ (.tail _ (.head _))) rfl rfl) (by decide) ?_
      refine WE_gq rfl rfl rfl rfl (by simp) (q_eql rfl rfl) (by decide) ?_
      refine WE_gq rfl rfl rfl rfl (by simp) (q_move rfl) (by decide) ?_
      refine WE_gq rfl rfl rfl rfl (by simp) (q_nil rfl) (by decide) ?_
      refine WE_gq rfl rfl rfl rfl (by simp) (q_field (o' := 3) Tryd.underlying61 rfl ti57 rfl rfl) (by decide) ?_
      refine WE_gq rfl rfl rfl rfl (by simp) (q_load1 Tryd.underlying57 rfl rfl own0 rfl) (by decide) ?_
      refine WE_gq rfl rfl rfl rfl (by simp) (q_move rfl) (by decide) ?_
      refine WE_gq rfl rfl rfl rfl (by simp) (q_idxRd Tryd.underlying57 ti3 rfl rfl (by omega) (by omega)) (by decide) ?_
      refine WE_gq rfl rfl rfl rfl (by simp) (q_loadF1 (j := 0) Tryd.underlying3 rfl rfl (.head _) rfl rfl) (by decide) ?_
      refine WE_gq rfl rfl rfl rfl (by simp) (q_eql rfl rfl) (by decide) ?_
      refine WE_gq rfl rfl rfl rfl (by simp) (q_bneq' Tryd.underlying4 rfl rfl) (by decide) ?_
      refine Qe rfl (q_pickF rfl (by simp) rfl) ?_
      refine Qe rfl (q_move rfl) ?_
      refine WE_gq rfl rfl rfl rfl (by rw [hC.kind]; simp) (q_move rfl) (by decide) ?_
      refine WE_gq rfl rfl rfl rfl (by rw [hC.kind]; simp) (q_nil rfl) (by decide) ?_
      refine WE_gq rfl rfl rfl rfl (by rw [hC.kind]; simp) (q_field (o' := 3) Tryd.underlying61 rfl ti57 rfl rfl) (by decide) ?_
      refine WE_gq rfl rfl rfl rfl (by rw [hC.kind]; simp) (q_load1 Tryd.underlying57 rfl rfl own0 rfl) (by decide) ?_
      refine WE_gq rfl rfl rfl rfl (by rw [hC.kind]; simp) (q_move rfl) (by decide) ?_
      refine WE_gq rfl rfl rfl rfl (by rw [hC.kind]; simp) (q_idxRd Tryd.underlying57 ti3 rfl rfl (by omega) (by omega)) (by decide) ?_
      refine WE_gq rfl rfl rfl rfl (by rw [hC.kind]; simp) (q_loadF1 (j := 0) Tryd.underlying3 rfl rfl (.head _) rfl rfl) (by decide) ?_
      refine WE_gq rfl rfl rfl rfl (by rw [hC.kind]; simp) (q_eql rfl rfl) (by decide) ?_
      refine WE_gq rfl rfl rfl rfl (by rw [hC.kind]; simp) (q_move rfl) (by decide) ?_
      refine WE_gq rfl rfl rfl rfl (by rw [hC.kind]; simp) (q_move rfl) (by decide) ?_
      refine WE_gq rfl rfl rfl rfl (by rw [hC.kind]; simp) (q_idxRd Tryd.underlying70 ti42 rfl rfl (by omega) (by omega)) (by decide) ?_
      refine WE_gq rfl rfl rfl rfl (by rw [hC.kind]; simp) (q_field (o' := _ + 4) Tryd.underlying42 rfl ti29 rfl rfl) (by decide) ?_
      refine WE_gq rfl rfl rfl rfl (by rw [hC.kind]; simp) (q_loadF1 (j := 4) Tryd.underlying29 rfl rfl (.tail _ (.tail _ (.head _))) rfl rfl) (by decide) ?_
      refine WE_gq rfl rfl rfl rfl (by rw [hC.kind]; simp) (q_len Tryd.underlying29 rfl) (by decide) ?_
      refine WE_gq rfl rfl rfl rfl (by rw [hC.kind]; simp) (q_eql rfl rfl) (by decide) ?_
      refine WE_gq rfl rfl rfl rfl (by rw [hC.kind]; simp) (q_bneq' Tryd.underlying4 rfl rfl) (by decide) ?_
      refine Qe rfl (q_pickF rfl (by rw [hC.kind]; simp) rfl) ?_
      refine WE_end (WF_nil ?_)
      refine thenN ?_
      refine WC_false rfl (by rw [hC.empty]; simp) ?_
      refine WC_skip (blockN (thenN (WC_region ?_)))
      refine Lq (q_move rfl) ?_
      refine Lq (q_add rfl rfl (wr64 (by omega)) (c := ((i + 1 : Nat) : Int))) ?_
      refine Lq (q_assign rfl) ?_
      refine WL_nil (thenK ?_)
      refine ⟨i + 1, ?_, (.cons rfl (.cons rfl (.cons rfl (.nil _)))), (List.Sublist.cons_cons _ (List.Sublist.cons_cons _ (List.Sublist.cons_cons _ (List.Sublist.cons_cons _ (List.Sublist.cons_cons _ (List.Sublist.refl _)))))), (fun _ h => .tail _ (.tail _ (.tail _ (.tail _ (.tail _ h)))))⟩
      exact ⟨by omega, by omega⟩
    · refine WC_exit (thenExit (thenExit (blockHit (thenN (WC_seq (WC_region ?_))))))
      refine Lq (q_move rfl) ?_
      refine Lq (q_move rfl) ?_
      refine WL_main rfl (OW_call1 (counts_s n n X H v h b A1 c1 A2 c2 A3 c3 nx hV Al cl T hT hT2) (.cons rfl (.cons rfl (.nil))) (by decide) (.z) (memc (.tail _ (.tail _ (.tail _ (.tail _ (.tail _ (.tail _ (.head _))))))) (memc (.tail _ (.tail _ (.tail _ (.tail _ (.tail _ (.head _)))))) (memc (.head _) mem0))) fun u12_2 Lo fs hres => ?_)
      obtain ⟨bm, bh, br, mk, hd, rn, rfl, hCI, rfl, rfl⟩ := hres
      obtain ⟨hXT, hml, hhl, hrl, hall⟩ := hCI.all hV hT2
      have htX : t.row.length = T := by rw [hX, hXT]
      refine Lq (q_move rfl) ?_
      refine Lq (q_extract (vs := [_, _, _, _]) rfl rfl) ?_
      refine Lq (q_extract (vs := [_, _, _, _]) rfl rfl) ?_
      refine Lq (q_extract (vs := [_, _, _, _]) rfl rfl) ?_
      refine Lq (q_extract (vs := [_, _, _, _]) rfl rfl) ?_
      refine Lq (q_assign rfl) ?_
      refine Lq (q_assign rfl) ?_
      refine Lq (q_assign rfl) ?_
      refine Lq (q_assign rfl) ?_
      refine WL_nil (thenN (WC_seq (WC_seq (WC_region ?_))))
      refine Lq (q_move rfl) ?_
      refine Lq (q_not rfl) ?_
      refine Lq (q_move rfl) ?_
      refine Lg rfl rfl rfl rfl (q_move rfl) ?_
      refine Lg rfl rfl rfl rfl (q_nil rfl) ?_
      refine Lg rfl rfl rfl rfl (q_field (o' := 1) Tryd.underlying61 rfl ti55 rfl rfl) ?_
      refine Lg rfl rfl rfl rfl (q_load1 Tryd.underlying55 rfl rfl (ownS (ownS (ownS (own0)))) rfl) ?_
      refine WL_gmain rfl rfl rfl rfl (OW_call1 (rtotal_s b B t wt) (.cons rfl (.nil)) (by decide) (.s (.s (.s (.s (.s (.s (.s (.z)))))))) (memc (.tail _ (.tail _ (.tail _ (.head _)))) mem0) fun u13_7 Lo fs hres => ?_)
      obtain ⟨rfl, rfl, rfl⟩ := hres
      refine Lg rfl rfl rfl rfl (q_move rfl) ?_
      refine Lg rfl rfl rfl rfl (q_len Tryd.underlying57 rfl) ?_
      refine Lg rfl rfl rfl rfl (q_neq rfl rfl) ?_
      refine Lq (q_pickF rfl rfl rfl) ?_
      refine WL_nil (thenN ?_)
      refine WC_false rfl (by simp; omega) ?_
      refine WC_skip (thenN (WC_seq (WC_seq ?_)))
      refine WC_pick (.z) ?_
      refine WC_pick (.s (.s (.s (.s (.s (.s (.s (.z)))))))) ?_
      refine WC_pick (.s (.s (.s (.s (.s (.s (.s (.z)))))))) ?_
      refine WC_pick (.s (.s (.s (.s (.s (.s (.s (.z)))))))) ?_
      refine WC_pick (.s (.s (.s (.s (.s (.s (.s (.z)))))))) ?_
      refine WC_pick (.s (.s (.s (.s (.s (.s (.s (.z)))))))) ?_
      refine WC_pick (.s (.s (.s (.s (.s (.s (.s (.z)))))))) ?_
      refine WC_pick (.s (.s (.s (.s (.s (.s (.s (.z)))))))) ?_
      refine WC_region ?_
      refine Lq (q_assign rfl) ?_
      refine WL_nil (thenN (WC_block ?_))
      refine WC_loopE (α := Nat) (fun q => T - q)
        (fun q => [(3, .pointer (some ⟨v, 0, none⟩)), (7, .slice (some ⟨bm, 0, none⟩) T T), (8, .slice (some ⟨bh, 0, none⟩) T T), (9, .slice (some ⟨br, 0, none⟩) T T), (11, .int .i64 q)])
        (fun q => ([(br, cellsO (ints .i32 rn) 21)] :: [(bh, cellsO (ints .i64 hd) 3)] :: [(bm, cellsO (ints .i64 mk) 3)] :: vwP v h b A1 H.ents.length c1 A2 c2 A3 c3 nx :: hdP h A H.ops.length cap m H.total :: mpP m L :: mkP L :: rpP b B :: Ps))
        (fun q => (RdF opD A cap H.ops :: AllF L nowF :: TrF B t :: RdF idD A1 c1 (idsOf H.ents) :: RdF (De.int .i64) A2 c2 (kindsOf H.ents) :: RdF De.str A3 c3 (textsOf H.ents) :: barF :: RdF mvD Am cm ms :: As))
        (fun q => q ≤ T)
        0 ?_ (.cons rfl (.cons rfl (.cons rfl (.cons rfl (.cons rfl (.nil _)))))) (List.Sublist.cons_cons _ (List.Sublist.cons_cons _ (List.Sublist.cons_cons _ (List.Sublist.cons_cons _ (List.Sublist.cons_cons _ (List.Sublist.cons_cons _ (List.Sublist.cons_cons _ (List.Sublist.cons_cons _ (List.Sublist.refl _))))))))) (fun _ h => .tail _ h) ?_
      · exact Nat.zero_le _
      · rintro q hJ
        refine WC_seq (WC_seq (WC_region ?_))
        refine Lq (q_move rfl) ?_
        refine Lq (q_move rfl) ?_
        refine Lq (q_len Tryd.underlying57 rfl) ?_
        refine Lq (q_lss rfl rfl) ?_
        refine WL_nil (thenN ?_)
        refine WC_cond rfl (fun h118 => ?_) (fun h118 => ?_)
        · refine WC_skip (thenN (WC_seq (WC_block (WC_seq ?_))))
          try simp only [Bq0, Bq1, Bq2, Bq3, Bq4, Bq5, Bq6, Bq7, Bq8, Bq9, Bq10, Bq11, Bq12] at *
          have hq : q < t.row.length := by omega
          obtain ⟨c, hc⟩ : ∃ c, t.row[q]? = some c := ⟨_, List.getElem?_eq_getElem hq⟩
          obtain ⟨e1, e2, e3⟩ := hall q c (by rw [← hX]; exact hc)
          refine WC_region ?_
          refine Lq (q_move rfl) ?_
          refine Lq (q_nil rfl) ?_
          refine Lq (q_field (o' := 1) Tryd.underlying61 rfl ti55 rfl rfl) ?_
          refine Lq (q_load1 Tryd.underlying55 rfl rfl (ownS (ownS (ownS (own0)))) rfl) ?_
          refine Lq (q_move rfl) ?_
          refine WL_main rfl (OW_call1 (rcell_s b B t q c wt (by omega) hc) (.cons rfl (.cons rfl (.nil))) (by decide) (.s (.s (.s (.s (.s (.s (.s (.z)))))))) (memc (.tail _ (.tail _ (.head _))) mem0) fun u18_5 Lo fs hres => ?_)
          obtain ⟨rfl, rfl, rfl⟩ := hres
          refine Lq (q_move rfl) ?_
          refine Lq (q_extract (vs := [_, _]) rfl rfl) ?_
          refine Lq (q_extract (vs := [_, _]) rfl rfl) ?_
          refine WL_main rfl (OW_alloc (cs := [_, _]) ti77 rfl (by decide) fun b12 => ?_)
          refine WL_main rfl (OW_storeN (cs' := [_, _]) (vs := [_, _]) ti77 rfl rfl rfl rfl rfl (Nat.le_of_ble_eq_true rfl) (.z) ?_)
          refine Lq (q_assign rfl) ?_
          refine WL_nil (thenN (WC_seq ?_))
          refine WC_draw _ _ [] (.c 0 0 (.c 1 0 (.c 2 0 (.c 3 0 (.c 4 0 (.c 5 0 (.c 6 0 (.c 7 0 (.c 8 0 (.c 9 0 (.c 10 0 (.c 11 0 (.c 12 0 (.c 13 0 (.c 14 0 (.c 15 0 (.c 16 0 (.c 17 0 (.c 18 0 (.c 19 0 (.c 20 0 (.c 21 0 (.c 22 0 (.c 23 0 (.c 24 0 (.c 25 0 (.c 26 0 .nil))))))))))))))))))))))))))) mixed (fun _ _ _ _ h => h) (List.Sublist.cons_cons _ (List.Sublist.cons_cons _ (List.Sublist.cons_cons _ (List.Sublist.cons_cons _ (List.Sublist.cons_cons _ (List.Sublist.cons_cons _ (List.Sublist.cons_cons _ (List.Sublist.cons_cons _ (List.Sublist.cons_cons _ (List.Sublist.refl _)))))))))) (fun _ h => h) (by kernel_rfl) (by decide) fun ws Z0 => ?_
          refine Qe rfl (q_move rfl) ?_
          refine Qe rfl (q_neq rfl rfl) ?_
          refine Qe rfl (q_move rfl) ?_
          refine WE_gq rfl rfl rfl rfl rfl (q_move rfl) (by decide) ?_
          refine WE_gq rfl rfl rfl rfl rfl (q_move rfl) (by decide) ?_
          refine WE_gq rfl rfl rfl rfl rfl (q_idxOwn Tryd.underlying57 ti3 rfl rfl (by omega) (by omega)) (by decide) ?_
          refine WE_gq rfl rfl rfl rfl rfl (q_load1 Tryd.underlying3 rfl rfl (ownS (ownS (ownS (ownS (own0))))) (ints_at (q := (q : Int)) (by rw [Int.toNat_natCast]; exact e1))) (by decide) ?_
          refine WE_gq rfl rfl rfl rfl rfl (q_neq rfl rfl) (by decide) ?_
          refine Qe rfl (q_pickF rfl rfl rfl) ?_
          refine Qe rfl (q_move rfl) ?_
          refine WE_gq rfl rfl rfl rfl rfl (q_field (o' := 0) Tryd.underlying77 rfl ti21 rfl rfl) (by decide) ?_
          refine WE_gq rfl rfl rfl rfl rfl (q_load1 Tryd.underlying21 rfl rfl own0 rfl) (by decide) ?_
          refine WE_gq rfl rfl rfl rfl rfl (q_move rfl) (by decide) ?_
          refine WE_gq rfl rfl rfl rfl rfl (q_move rfl) (by decide) ?_
          refine WE_gq rfl rfl rfl rfl rfl (q_idxOwn Tryd.underlying73 ti21 rfl rfl (by omega) (by omega)) (by decide) ?_
          refine WE_gq rfl rfl rfl rfl rfl (q_load1 Tryd.underlying21 rfl rfl (ownS (ownS (own0))) (ints_at (q := (q : Int)) (by rw [Int.toNat_natCast]; exact e3))) (by decide) ?_
          refine WE_gq rfl rfl rfl rfl rfl (q_neq rfl rfl) (by decide) ?_
          refine Qe rfl (q_pickF rfl rfl rfl) ?_
          refine Qe rfl (q_move rfl) ?_
          refine WE_gq rfl rfl rfl rfl (by simp) (q_field (o' := 1) Tryd.underlying77 rfl ti3 rfl rfl) (by decide) ?_
          refine WE_gq rfl rfl rfl rfl (by simp) (q_load1 Tryd.underlying3 rfl rfl own0 rfl) (by decide) ?_
          refine WE_gq rfl rfl rfl rfl (by simp) (q_move rfl) (by decide) ?_
          refine WE_gq rfl rfl rfl rfl (by simp) (q_move rfl) (by decide) ?_
          refine WE_gq rfl rfl rfl rfl (by simp) (q_idxOwn Tryd.underlying57 ti3 rfl rfl (by omega) (by omega)) (by decide) ?_
          refine WE_gq rfl rfl rfl rfl (by simp) (q_load1 Tryd.underlying3 rfl rfl (ownS (ownS (ownS (own0)))) (ints_at (q := (q : Int)) (by rw [Int.toNat_natCast]; exact e2))) (by decide) ?_
          refine WE_gq rfl rfl rfl rfl (by simp) (q_neq rfl rfl) (by decide) ?_
          refine Qe rfl (q_pickF rfl (by simp) rfl) ?_
          refine WE_end (WF_nil ?_)
          refine thenN ?_
          refine WC_false rfl (by simp) ?_
          refine WC_skip (blockN (thenN ?_))
          refine WC_pick (.s (.z)) ?_
          refine WC_pick (.s (.s (.s (.s (.s (.s (.s (.s (.z))))))))) ?_
          refine WC_pick (.s (.s (.s (.s (.s (.s (.s (.s (.z))))))))) ?_
          refine WC_pick (.s (.s (.s (.s (.s (.s (.s (.s (.z))))))))) ?_
          refine WC_pick (.s (.s (.s (.s (.s (.s (.s (.s (.z))))))))) ?_
          refine WC_pick (.s (.s (.s (.s (.s (.s (.s (.s (.z))))))))) ?_
          refine WC_pick (.s (.s (.s (.s (.s (.s (.s (.s (.z))))))))) ?_
          refine WC_pick (.s (.s (.s (.s (.s (.s (.s (.s (.z))))))))) ?_
          refine WC_region ?_
          refine Lq (q_move rfl) ?_
          refine Lq (q_add rfl rfl (wr64 (by omega)) (c := ((q + 1 : Nat) : Int))) ?_
          refine Lq (q_assign rfl) ?_
          refine WL_nil (thenK ?_)
          refine ⟨q + 1, ?_, (.cons rfl (.cons rfl (.cons rfl (.cons rfl (.cons rfl (.nil _)))))), (List.Sublist.cons_cons _ (List.Sublist.cons_cons _ (List.Sublist.cons_cons _ (List.Sublist.cons_cons _ (List.Sublist.cons_cons _ (List.Sublist.cons_cons _ (List.Sublist.cons_cons _ (List.Sublist.cons_cons _ (List.Sublist.cons _ (List.Sublist.refl _)))))))))), (fun _ h => .tail _ h)⟩
          exact ⟨by omega, by omega⟩
        · refine WC_exit (thenExit (thenExit (blockHit (thenN (WC_seq (WC_region ?_))))))
          refine Lq (q_assign rfl) ?_
          refine WL_nil (thenN (WC_ret ?_))
          refine ⟨_, [], [], fun Z w hs => .tmp rfl (.nil), ?_, fun Z w hs => hs.out (List.Sublist.cons _ (List.Sublist.cons _ (List.Sublist.cons _ (List.Sublist.cons _ (List.Sublist.cons _ (List.Sublist.cons _ (List.Sublist.cons _ (List.Sublist.cons _ (List.Sublist.refl _))))))))) (fun _ h => .tail _ (.tail _ (.tail _ (.tail _ (.tail _ (.tail _ h))))))⟩
          exact ⟨rfl, rfl, rfl⟩

end Go.Proofs.YtggdddkbhigjoaaDoor
set_option maxRecDepth 100000
namespace Go.Proofs.YtggdddkbhigjoaaDoor.historyCounts
open Go Go.GW Go.ChangeShapes Go.WideShapes Go.ChangeAt Go.RowKit
theorem own : ownKnob Tryd.prog.godebug = none := by kernel_rfl
/-- The walk, in the row's words. -/
theorem contract (H : Type) (enc : TypeId × Value → H) (W : World) (base : Nat) (args : Array Value) (ds gs : List (DataW H)) (before : List MemPlace)
    (hval : ∀ (j : Nat) t v, Tryd.f5.params[j]? = some t → args[j]? = some v → Value.okWide Tryd.prog W .any base t v)
    (hW : DataW.Whole enc Tryd.prog Tryd.f5.params.toList Rows.historyCountsSpec.vars false W args.toList ds gs before) (hL : laidMetH Tryd.prog Rows.historyCountsRow.laid W) :
    Calls Tryd.prog 5 args W fun e W' => ∃ v, e = .returned v ∧ Rows.historyCountsSpec.post enc Tryd.prog Tryd.f5 false true false false W args v W' := by
  have hW' := hW
  have hlt := hW.lt
  obtain ⟨p, q, hA0, hV, rfl, hfz, hnd⟩ := hW
  have hA : DataW.TrodAll enc Tryd.prog W 0 (fun _ => true) true Tryd.f5.params.toList args.toList ds p := hA0
  rw [Tryd.params5] at hA hval
  obtain ⟨v0, d0, rfl, rfl, t0⟩ := trodAll_one hA
  obtain ⟨rfl, rfl⟩ := trodVars_none hV
  clear hA0
  obtain ⟨A0, ms0, c0, rfl, hR0⟩ := mvs_arg (hval 0 49 v0 rfl rfl) t0
  have hb := bars_of hL
  have hs := st_of (W := W) (As := [barF, RdF mvD A0 c0 ms0]) (fun A hA => by
    simp only [List.mem_cons, List.not_mem_nil, or_false] at hA
    rcases hA with rfl | rfl
    · exact ⟨hb.2, hb.1⟩
    · exact hR0)
  refine ((hcounts_s A0 c0 ms0).calls _ W [] [NearF W (fun b => b < W.heap.size)] hs).mono ?_
  rintro e W' ⟨v, rfl, Z', Lo, fs, ⟨rfl, rfl, rfl⟩, h2⟩
  have hk := h2.facts (NearF W (fun b => b < W.heap.size)) (by simp)
  have hsame : ∀ x ∈ p ++ [], W.sameAt W' x := fun x hx => same_of hk (hlt x hx)
  exact ⟨_, rfl, post_plain (pa := p) (pv := []) hW' (fun _ _ _ => trodAll_cons_mk (shut_bool Tryd.underlying4 _) trodAll_mk0) (fun sp hsp => trodAll_mk1 (WideElems.Trod_stays laidOk (by kernel_rfl) (of_decide_eq_true (by kernel_rfl)) t0 (fun x hx => hsame x (List.mem_append_left _ hx)) (fun x hx => hsp x (List.mem_append_left _ hx)))) (fun _ _ => rfl) rfl (kept_of hk _)⟩
/-- A world for the witness. -/
noncomputable def laidWorld (os : Os) : World :=
  { World.holding Tryd.prog os ⟨#[], #[.slice none 0 0], []⟩ with heap := (World.holding Tryd.prog os ⟨#[], #[.slice none 0 0], []⟩).heap.modify 0 fun
      | .cells _ t frozen => .cells barC.toArray t frozen
      | o => o }
theorem laid_met (os : Os) : laidMet Tryd.prog Rows.historyCountsRow.laid ((laidWorld os).forCall (fun _ _ => 0) ⟨#[], #[.slice none 0 0], []⟩).memory :=
  laidMet_of_run' 8 (by kernel_rfl) (by kernel_rfl)
theorem reads (os : Os) {H : Type} (enc : TypeId × Value → H) : ∃ places, DataW.whole enc Tryd.prog ((laidWorld os).forCall (fun _ _ => 0) ⟨#[], #[.slice none 0 0], []⟩).memory Tryd.f5.params.toList Rows.historyCountsSpec.vars false (#[.slice none 0 0] : Array Value).toList 8 = some ([.nil], [], places) :=
  ⟨[], by kernel_rfl⟩
theorem lifted (os : Os) (started : os.Started) (H : Type) (enc : TypeId × Value → H) (F : Stop.Interp) :
    ReturnsInHanded {} Tryd.checked os 5 .any ((OpenSpec.ofChange Rows.historyCountsSpec).preRow enc Tryd.prog Tryd.f5 Rows.historyCountsRow.domain false Rows.historyCountsRow.laid) (((OpenSpec.ofChange Rows.historyCountsSpec).at F).post enc Tryd.prog Tryd.f5 false true false false) := by
  obtain ⟨places, hx⟩ := reads os enc
  refine returnsInHanded_of_row (C := Tryd.checked) (s := OpenSpec.ofChange Rows.historyCountsSpec) own started (by kernel_rfl) Tryd.func5
    (witness_row_at (enc := enc) (C := Tryd.checked) false (laidWorld os) #[.slice none 0 0] rfl (by kernel_rfl) (by kernel_rfl) (by kernel_rfl)
      (OpenSpec.preRow_of_cond 8 hx (by kernel_rfl) (fun k hk => by cases hk) (by kernel_rfl) (laid_met os))) ?_
  intro W base args ds gs before hval hW _ _ _ hL _ _
  exact contract H enc W base args ds gs before hval hW hL
theorem said : Rows.HistoryCountsSaid :=
  OpenClaim.holds_of_cond 5 Tryd.f5 rfl rfl rfl rfl rfl rfl rfl ⟨rfl, rfl, rfl, rfl, rfl⟩ rfl rfl rfl rfl rfl (by kernel_rfl) Tryd.func5 (by kernel_rfl)
    (of_decide_eq_true (by kernel_rfl)) (by unfold Func.isWrapper; first | (rw [if_pos (by decide +kernel)]; kernel_rfl) | (rw [if_neg (by decide +kernel)]; exact ⟨rfl, rfl⟩))
    (fun os started H enc _ F => by rw [OpenClaim.pre_eq_preRow]; exact lifted os started H enc F)
theorem plain (f : FuncId) (fn : Func) (hf : Tryd.pinned.checked.prog.funcNamed "redraft/redraftlaw06.HistoryCounts" = some f) (hfn : Tryd.pinned.checked.prog.funcs[f]? = some fn) :
    false = Tryd.pinned.checked.prog.looks [] ∧ ∀ (j : Nat) t, fn.params[j]? = some t → Tryd.pinned.checked.prog.wantsStandIn t = false := by
  obtain rfl : f = 5 := Option.some.inj ((show Tryd.prog.funcNamed "redraft/redraftlaw06.HistoryCounts" = some 5 by kernel_rfl).symm.trans hf) |>.symm
  obtain rfl : fn = Tryd.f5 := (Option.some.inj (Tryd.func5.symm.trans hfn)).symm
  refine ⟨by kernel_rfl, fun j t ht => ?_⟩
  rw [Tryd.params5] at ht
  rcases j with _ | j
  · simp at ht; subst ht; kernel_rfl
  · simp at ht
theorem card : Rows.HistoryCountsCardSaid :=
  Claim7.holds_tied_plain_at .later [] _ _ _ _ said (fun _ h => by cases h) (by kernel_rfl) (fun _ h => by cases h) historyCounts_row_tie rfl ⟨rfl, rfl⟩ (by kernel_rfl) rfl plain (by kernel_rfl)
#print axioms card
end Go.Proofs.YtggdddkbhigjoaaDoor.historyCounts
