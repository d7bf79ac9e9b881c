/- The walks and laws that this claim's card rests on, part 6. -/
import Derived.Lib.UnsafeStr
import Derived.Lib.Builder
import Derived.Laws.Externs
import Derived.Lib.Tables
import Derived.Test.YtcjbjkbghgjmdaaGreatDoorQE
set_option linter.unusedVariables false
set_option linter.unusedSimpArgs false
open Go.Proofs.Tryz renaming underlying3 → Un3, underlying4 → Un4, underlying9 → Un9, underlying21 → Un21, underlying22 → Un22, underlying26 → Un26, underlying28 → Un28, underlying29 → Un29, underlying30 → Un30, underlying31 → Un31, underlying32 → Un32, underlying34 → Un34, underlying37 → Un37, underlying42 → Un42, underlying44 → Un44, underlying45 → Un45, underlying47 → Un47, underlying51 → Un51, underlying57 → Un57, underlying63 → Un63, underlying65 → Un65, underlying67 → Un67, underlying69 → Un69, underlying70 → Un70, underlying72 → Un72, underlying74 → Un74, underlying76 → Un76, underlying100 → Un100, underlying102 → Un102, underlying104 → Un104, underlying114 → Un114, underlying119 → Un119, underlying130 → Un130, underlying135 → Un135, underlying136 → Un136, underlying138 → Un138, underlying144 → Un144, underlying166 → Un166, underlying169 → Un169, underlying170 → Un170, underlying177 → Un177
/- A history that was made is what its operations say, in their order. -/
namespace Go.Proofs.YtcjbjkbghgjmdaaGreatDoor
open Go Go.GW
/-! ### Names -/
def rowN : List Nm → List GOp → List Nm
 | N, [] => N
 | N, o :: l => rowN (insRow o N) l
/-- The names of each operation in its own context. -/
def allN : List Nm → List GOp → List (List (Option Nm))
 | _, [] => []
 | N, o :: l => namesOf o N :: allN (insRow o N) l
theorem rowN_append : ∀ (N : List Nm) (a b : List GOp), rowN N (a ++ b) = rowN (rowN N a) b
 | N, [], b => rfl
 | N, o :: a, b => by simp only [List.cons_append, rowN]; exact rowN_append _ a b
theorem allN_append : ∀ (N : List Nm) (a b : List GOp), allN N (a ++ b) = allN N a ++ allN (rowN N a) b
 | N, [], b => rfl
 | N, o :: a, b => by simp only [List.cons_append, allN, rowN]; rw [allN_append _ a b]
theorem allN_length : ∀ (N : List Nm) (a : List GOp), (allN N a).length = a.length
 | N, [] => rfl
 | N, o :: a => by simp only [allN, List.length_cons, allN_length _ a]
theorem Right.rowLen {w : Int} {o : GOp} (h : Right w o) {N : List Nm} (hN : (N.length : Int) = w) : ((insRow o N).length : Int) = w + widthF o := by
 have h1 := h.width
 by_cases hk : o.kind = 1
 ·have h2 := h.ins hk
  rw [insRow_len o N (by omega)]; omega
 ·rw [insRow_nil (h1.2.2.2 hk), h1.2.2.2 hk]; omega
theorem rowN_len : ∀ {w : Int} {N : List Nm} {l : List GOp}, (N.length : Int) = w → CtxOk w l → ((rowN N l).length : Int) = w + sumO l
 | w, N, [], h, _ => by simp only [rowN, sumO]; omega
 | w, N, o :: l, h, hc => by
  simp only [rowN, sumO]
  rw [rowN_len (hc.1.rowLen h) hc.2]; omega
theorem carry_names : ∀ (ls : List GOp) (f : GOp) (w : Int) (N : List Nm), (N.length : Int) = w → Right w f → CtxOk w ls → (∀ l ∈ ls, ¬ clashF f l) → w + sumO ls + widthF f ≤ 65535 →
  namesOf (carryF f ls).1 (rowN N ls) = namesOf f N ∧ allN (insRow f N) (carryF f ls).2 = allN N ls ∧ rowN (insRow f N) (carryF f ls).2 = insRow (carryF f ls).1 (rowN N ls)
 | [], f, w, N, hN, hf, _, _, _ => ⟨rfl, rfl, rfl⟩
 | l :: ls, f, w, N, hN, hf, hl, hc, hw => by
  simp only [sumO] at hw
  have h1 := sumO_nonneg hl.2
  have hc1 : ¬ clashF f l := hc l List.mem_cons_self
  have hc2 : ¬ clashF l f := fun h => hc1 (clash_comm.1 h)
  obtain ⟨a1, a2⟩ := include_ok false hf hl.1 hc1 (by omega)
  obtain ⟨b1, b2⟩ := include_ok true hl.1 hf hc2 (by omega)
  have s1 := include_same a1
  have s2 := include_same b1
  obtain ⟨c1, c2, c3⟩ := carry_names ls (includeF f l false).1 (w + widthF l) (insRow l N) (hl.1.rowLen hN) a2 hl.2 (fun x hx h => hc x (List.mem_cons_of_mem _ hx) ((clash_same s1 (Same.refl x)).1 h)) (by rw [s1.width]; omega)
  have e1 := inc_rows hN hf hl.1 hc1 (by omega) s2.kind s1.kind
  have e2 := inc_names hN false hf hl.1 hc1 (by omega)
  have e3 := inc_names hN true hl.1 hf hc2 (by omega)
  refine ⟨?_, ?_, ?_⟩
  ·simp only [carryF, rowN]; rw [c1, e2]
  ·simp only [carryF, allN]; rw [e3, e1, c2]
  ·simp only [carryF, rowN]; rw [e1, c3]
theorem insRow_perm (o : GOp) (N : List Nm) : (insRow o N).Perm (blk o ++ N) := by
 unfold insRow
 have h := (List.perm_append_comm (l₁ := N.take o.at_.toNat) (l₂ := blk o)).append_right (N.drop o.at_.toNat)
 rw [List.append_assoc, List.append_assoc, List.take_append_drop] at h
 exact h
theorem blk_mem {o : GOp} {x : Nm} (h : x ∈ blk o) : x.1 = o.c ∧ x.2.1 = o.n := by
 unfold blk at h
 obtain ⟨k, _, rfl⟩ := List.mem_map.1 h
 exact ⟨rfl, rfl⟩
theorem blk_nodup (o : GOp) : (blk o).Nodup := by
 unfold blk
 refine List.Pairwise.map _ ?_ List.nodup_range
 intro a b h e
 simp only [Prod.mk.injEq] at e
 exact h e.2.2
theorem rowN_nodup : ∀ {N : List Nm} {l : List GOp}, N.Nodup → (l.map fun o => (o.c, o.n)).Nodup → (∀ x ∈ N, ∀ o ∈ l, ¬ (x.1 = o.c ∧ x.2.1 = o.n)) → (rowN N l).Nodup
 | N, [], h, _, _ => h
 | N, o :: l, h, h2, h3 => by
  simp only [List.map_cons, List.nodup_cons] at h2
  simp only [rowN]
  refine rowN_nodup ?_ h2.2 ?_
  ·rw [(insRow_perm o N).nodup_iff, List.nodup_append]
   refine ⟨blk_nodup o, h, fun a ha b hb e => ?_⟩
   subst e
   exact h3 a hb o List.mem_cons_self (blk_mem ha)
  ·intro x hx p hp hh
   rcases List.mem_append.1 ((insRow_perm o N).mem_iff.1 hx) with hx | hx
   ·have := blk_mem hx
    exact h2.1 (List.mem_map.2 ⟨p, hp, by rw [← hh.1, ← hh.2, this.1, this.2]⟩)
   ·exact h3 x hx p (List.mem_cons_of_mem _ hp) hh
/-! ### Targets -/
def TgtOk : List GOp → List GOp → Prop
 | _, [] => True
 | P, o :: l => (o.kind = 4 → ∃ p ∈ P, p.c = o.tc ∧ p.n = o.tn ∧ p.kind ≠ 4) ∧ TgtOk (P ++ [o]) l
theorem TgtOk.append : ∀ {P a b : List GOp}, TgtOk P (a ++ b) ↔ TgtOk P a ∧ TgtOk (P ++ a) b
 | P, [], b => by simp [TgtOk]
 | P, o :: a, b => by
  simp only [List.cons_append, TgtOk, TgtOk.append (a := a), and_assoc]
  rw [List.append_assoc]; rfl
theorem TgtOk.mono : ∀ {P P' l l' : List GOp}, Sames l l' → (∀ p ∈ P, ∃ q ∈ P', q.c = p.c ∧ q.n = p.n ∧ q.kind = p.kind) → TgtOk P l → TgtOk P' l'
 | P, P', _, _, .nil, _, _ => trivial
 | P, P', _, _, .cons (a := a) (b := b) h hs, hp, ht => by
  refine ⟨fun hk => ?_, TgtOk.mono hs (fun p hp' => ?_) ht.2⟩
  ·obtain ⟨p, h1, h2, h3, h4⟩ := ht.1 (by rw [← h.kind]; exact hk)
   obtain ⟨q, g1, g2, g3, g4⟩ := hp p h1
   exact ⟨q, g1, by rw [g2, h2, h.tc], by rw [g3, h3, h.tn], by rw [g4]; exact h4⟩
  ·rcases List.mem_append.1 hp' with hp' | hp'
   ·obtain ⟨q, g1, g2⟩ := hp p hp'
    exact ⟨q, List.mem_append_left _ g1, g2⟩
   ·simp only [List.mem_singleton] at hp'; subst hp'
    exact ⟨b, List.mem_append_right _ (List.mem_singleton.2 rfl), h.c, h.n, h.kind⟩
theorem TgtOk.mem : ∀ {P l : List GOp}, TgtOk P l → ∀ o ∈ l, o.kind = 4 → ∃ p ∈ P ++ l, p.c = o.tc ∧ p.n = o.tn
 | P, [], _, o, h, _ => by cases h
 | P, x :: l, ht, o, h, hk => by
  rcases List.mem_cons.1 h with rfl | h
  ·obtain ⟨p, h1, h2, h3, _⟩ := ht.1 hk
   exact ⟨p, List.mem_append_left _ h1, h2, h3⟩
  ·obtain ⟨p, h1, h2⟩ := ht.2.mem o h hk
   exact ⟨p, by rw [List.append_assoc] at h1; exact h1, h2⟩
/-! ### States -/
def lastOff (c n : Int) : Bool → List GOp → Bool
 | b, [] => b
 | b, o :: l => lastOff c n (if o.kind = 4 ∧ o.tc = c ∧ o.tn = n then !o.on else b) l
theorem lastOff_append (c n : Int) : ∀ (b : Bool) (l m : List GOp), lastOff c n b (l ++ m) = lastOff c n (lastOff c n b l) m
 | b, [], m => rfl
 | b, o :: l, m => by simp only [List.cons_append, lastOff]; exact lastOff_append c n _ l m
theorem lastOff_same {c n : Int} {b : Bool} {l l' : List GOp} (h : Sames l l') : lastOff c n b l' = lastOff c n b l := by
 induction h generalizing b with
 | nil => rfl
 | cons h _ ih => simp only [lastOff]; rw [h.kind, h.tc, h.tn, h.on]; exact ih
theorem lastOff_none {c n : Int} {b : Bool} : ∀ {l : List GOp}, (∀ o ∈ l, o.kind = 4 → ¬ (o.tc = c ∧ o.tn = n)) → lastOff c n b l = b
 | [], _ => rfl
 | o :: l, h => by
  simp only [lastOff]
  rw [if_neg (fun hh => h o List.mem_cons_self hh.1 hh.2)]
  exact lastOff_none fun p hp => h p (List.mem_cons_of_mem _ hp)
theorem lastOff_any {c n : Int} : ∀ {l : List GOp}, (∃ o ∈ l, o.kind = 4 ∧ o.tc = c ∧ o.tn = n) → ∀ b b' : Bool, lastOff c n b l = lastOff c n b' l
 | [], h, _, _ => by obtain ⟨o, h, _⟩ := h; cases h
 | x :: l, h, b, b' => by
  simp only [lastOff]
  by_cases hx : x.kind = 4 ∧ x.tc = c ∧ x.tn = n
  ·rw [if_pos hx, if_pos hx]
  ·rw [if_neg hx, if_neg hx]
   obtain ⟨o, h1, h2⟩ := h
   rcases List.mem_cons.1 h1 with rfl | h1
   ·exact absurd h2 hx
   ·exact lastOff_any ⟨o, h1, h2⟩ b b'
theorem later_iff {l : List Ent} {c n : Int} : laterT l c n = true ↔ ∃ o ∈ l.map (·.op), o.kind = 4 ∧ o.tc = c ∧ o.tn = n := by
 unfold laterT
 rw [List.any_eq_true]
 simp only [Bool.and_eq_true, decide_eq_true_eq, List.mem_map]
 constructor
 ·rintro ⟨e, h1, h2⟩; exact ⟨e.op, ⟨e, h1, rfl⟩, h2⟩
 ·rintro ⟨o, ⟨e, h1, rfl⟩, h2⟩; exact ⟨e, h1, h2⟩
/-! ### What a made history is -/
def nmE (N : List Nm) (e : Ent) : List (Option Nm) := (placesF e.now).map fun q => N[q.toNat]?
structure CI (H : Hist) : Prop where
 now : H.ents.map (nmE (rowN [] H.ops)) = allN [] H.ops
 tgt : TgtOk [] H.ops
 off : ∀ e ∈ H.ents, e.off = lastOff e.op.c e.op.n false H.ops
theorem nm_zipE (N : List Nm) : ∀ (xs : List GOp) (es : List Ent), Sames (es.map (·.op)) xs → (zipE xs es).map (nmE N) = es.map (nmE N)
 | [], [], _ => rfl
 | x :: xs, e :: es, h => by
  cases h with
  | cons h hr => simp only [zipE, List.map_cons]; rw [nm_zipE N xs es hr]; rfl
 | [], e :: es, h => by cases h
 | x :: xs, [], h => by cases h
theorem put_ops {H : Hist} (h : HV H) {i : Nat} {o : GOp} {es : List Ent} {nw : List Rg} {eff : GOp} (g : Good H i o) (p : PutIs H i o es nw eff) : (⟨newEnts i o nw es (carryF o (H.ops.drop i)).2, H.total + widthF o⟩ : Hist).ops = H.ops.take i ++ ([o] ++ (carryF o (H.ops.drop i)).2) := by
 show (newEnts i o nw es (carryF o (H.ops.drop i)).2).map (·.op) = _
 rw [newEnts_ops (p.sames h g), p.es_ops g]
theorem put_now {H : Hist} (h : HV H) {i : Nat} {o : GOp} {es : List Ent} {nw : List Rg} {eff : GOp} (g : Good H i o) (p : PutIs H i o es nw eff) (I : CI H) :
  (newEnts i o nw es (carryF o (H.ops.drop i)).2).map (nmE (rowN [] (H.ops.take i ++ ([o] ++ (carryF o (H.ops.drop i)).2)))) = allN [] (H.ops.take i ++ ([o] ++ (carryF o (H.ops.drop i)).2)) := by
 obtain ⟨c1, c2, c3, c4, c5⟩ := cross_good h g
 obtain ⟨s1, s2, s3, s4⟩ := h.split i
 have hroom := g.room
 have hwid := g.right.width
 have h0 := h.total0
 have hA : ((rowN [] (H.ops.take i)).length : Int) = beforeF H i := by rw [rowN_len (w := 0) rfl s1, before_ops]; omega
 obtain ⟨k1, k2, k3⟩ := carry_names (H.ops.drop i) o (beforeF H i) (rowN [] (H.ops.take i)) hA g.right s2 (fun l hl => g.noclash l (List.mem_of_mem_drop hl)) (by omega)
 have eN : rowN (rowN [] (H.ops.take i)) (H.ops.drop i) = rowN [] H.ops := by rw [← rowN_append, List.take_append_drop]
 have eN' : rowN [] (H.ops.take i ++ ([o] ++ (carryF o (H.ops.drop i)).2)) = insRow (carryF o (H.ops.drop i)).1 (rowN [] H.ops) := by
  rw [rowN_append]; show rowN (insRow o (rowN [] (H.ops.take i))) (carryF o (H.ops.drop i)).2 = _
  rw [k3, eN]
 have hNl : ((rowN [] H.ops).length : Int) = H.total := by rw [rowN_len (w := 0) rfl h.ctx, h.tot]; omega
 rw [eN] at k1
 rw [eN', allN_append]
 show _ = allN [] (H.ops.take i) ++ (namesOf o (rowN [] (H.ops.take i)) :: allN (insRow o (rowN [] (H.ops.take i))) (carryF o (H.ops.drop i)).2)
 rw [k2]
 have hal : allN [] (H.ops.take i) ++ allN (rowN [] (H.ops.take i)) (H.ops.drop i) = allN [] H.ops := by rw [← allN_append, List.take_append_drop]
 have hil : i ≤ H.ops.length := by unfold Hist.ops; rw [List.length_map]; exact g.le
 have hlen : (allN [] (H.ops.take i)).length = i := by rw [allN_length, List.length_take]; omega
 have e1 : allN [] (H.ops.take i) = (allN [] H.ops).take i := by rw [← hal, List.take_left' hlen]
 have e2 : allN (rowN [] (H.ops.take i)) (H.ops.drop i) = (allN [] H.ops).drop i := by rw [← hal, List.drop_left' hlen]
 rw [e1, e2, ← I.now]
 have wf : widthF (carryF o (H.ops.drop i)).1 = widthF o := c4.width
 have hes : es.map (nmE (insRow (carryF o (H.ops.drop i)).1 (rowN [] H.ops))) = H.ents.map (nmE (rowN [] H.ops)) ∧ nmE (insRow (carryF o (H.ops.drop i)).1 (rowN [] H.ops)) ⟨o, nw, false⟩ = namesOf o (rowN [] (H.ops.take i)) := by
  rw [← k1]
  rcases g.right.kind with hk | hk | hk
  ·obtain ⟨q1, q2, q3⟩ := p.ins hk
   have hti := c2.ins (c4.kind.trans hk)
   have hw1 := (hwid.2.2.1 hk).1
   constructor
   ·rw [q1, List.map_map]
    refine List.map_congr_left fun e he => ?_
    have hpe := h.pls e he
    show (placesF (thrF e.now (carryF o (H.ops.drop i)).1.at_ (widthF o)).1).map _ = _
    rw [places_shift hpe h0 ⟨hti.1, hti.2.1⟩ hwid.1 (by omega), List.map_map]
    unfold nmE
    refine List.map_congr_left fun q hq => ?_
    have hq2 := hpe.in (mem_places.1 hq)
    have := insRow_get (o := (carryF o (H.ops.drop i)).1) (N := rowN [] H.ops) (by omega) (by omega) q hq2.1
    rw [wf] at this
    exact this
   ·rw [q2]
    unfold nmE namesOf
    rw [if_pos (show (carryF o (H.ops.drop i)).1.kind = 1 from c4.kind.trans hk)]
    show (placesF [⟨(carryF o (H.ops.drop i)).1.at_, (carryF o (H.ops.drop i)).1.at_ + widthF o⟩]).map _ = _
    rw [places_cons, show placesF [] = [] from rfl, List.append_nil, List.map_map]
    dsimp only
    have el : (List.take (carryF o (H.ops.drop i)).1.at_.toNat (rowN [] H.ops)).length = (carryF o (H.ops.drop i)).1.at_.toNat := by rw [List.length_take]; omega
    apply List.ext_getElem?
    intro j
    rw [List.getElem?_map, List.getElem?_map]
    have hbl := blk_len (carryF o (H.ops.drop i)).1
    by_cases hj : j < (widthF o).toNat
    ·rw [List.getElem?_range (by omega), List.getElem?_eq_getElem (l := blk _) (by omega)]
     simp only [Option.map_some, Function.comp]
     congr 1
     unfold insRow
     rw [List.getElem?_append_right (by omega), List.getElem?_append_left (by omega), el, List.getElem?_eq_getElem (by omega)]
     congr 2; omega
    ·rw [List.getElem?_eq_none (by rw [List.length_range]; omega), List.getElem?_eq_none (by omega)]; rfl
  ·obtain ⟨q1, q2, q3⟩ := p.hide hk
   rw [insRow_nil (by rw [wf]; exact hwid.2.2.2 (by omega)), q1, q2]
   refine ⟨rfl, ?_⟩
   unfold nmE namesOf
   rw [if_neg (by rw [c4.kind]; omega)]
  ·obtain ⟨q1, q2, q3⟩ := p.status hk
   rw [insRow_nil (by rw [wf]; exact hwid.2.2.2 (by omega)), q1, q2]
   constructor
   ·rcases turned_cases H i o with e | ⟨k, e, g1, g2, g3, g4, g5⟩
    ·rw [e]
    ·rw [g5]
     show (H.ents.set k (offE e (!o.on))).map _ = _
     have hkk : k < H.ents.length := by
      rcases Nat.lt_or_ge k H.ents.length with h | h
      ·exact h
      ·rw [List.getElem?_eq_none h] at g2; cases g2
     rw [List.getElem?_eq_getElem hkk] at g2
     rw [List.map_set, show nmE (rowN [] H.ops) (offE e (!o.on)) = (H.ents.map (nmE (rowN [] H.ops)))[k]'(by rw [List.length_map]; exact hkk) from by rw [List.getElem_map, Option.some.inj g2]; rfl, List.set_getElem_self]
   ·unfold nmE namesOf
    rw [if_neg (by rw [c4.kind]; omega), c2.noRs (by rw [c4.kind]; omega)]
 unfold newEnts
 rw [List.map_append, List.map_cons, nm_zipE _ _ _ (p.sames h g), List.map_take, List.map_drop, hes.1, hes.2]
end Go.Proofs.YtcjbjkbghgjmdaaGreatDoor
/- Two histories that were made and hold one list of operations are one, and so are their rows. -/
namespace Go.Proofs.YtcjbjkbghgjmdaaGreatDoor
open Go Go.GW
theorem fresh_op {H : Hist} {c n : Int} (h : whereId H.ents c n = none) : ∀ o ∈ H.ops, ¬ (o.c = c ∧ o.n = n) := fun o ho => by
 obtain ⟨e, he, rfl⟩ := List.mem_map.1 ho
 exact whereId_none h e he
theorem good_tgt {H : Hist} {i : Nat} {o : GOp} (g : Good H i o) (hk : o.kind = 4) : ∃ p ∈ H.ops.take i, p.c = o.tc ∧ p.n = o.tn ∧ p.kind ≠ 4 := by
 obtain ⟨k, h1, h2, e, h3, h4⟩ := g.target hk
 obtain ⟨hk, h5, h6⟩ := whereId_some h1
 have h7 : H.ents[k] = e := by rw [List.getElem?_eq_getElem hk] at h3; exact Option.some.inj h3
 subst h7
 refine ⟨H.ents[k].op, List.mem_of_getElem? (i := k) ?_, h5, h6, h4⟩
 rw [List.getElem?_take, if_pos h2]
 unfold Hist.ops
 rw [List.getElem?_map, List.getElem?_eq_getElem hk]; rfl
theorem put_tgt {H : Hist} (h : HV H) {i : Nat} {o : GOp} (g : Good H i o) (I : TgtOk [] H.ops) : TgtOk [] (H.ops.take i ++ ([o] ++ (carryF o (H.ops.drop i)).2)) := by
 obtain ⟨c1, c2, c3, c4, c5⟩ := cross_good h g
 rw [← List.take_append_drop i H.ops, TgtOk.append] at I
 rw [TgtOk.append]
 refine ⟨I.1, ?_, ?_⟩
 ·exact good_tgt g
 ·refine TgtOk.mono c5 (fun p hp => ⟨p, ?_, rfl, rfl, rfl⟩) I.2
  exact List.mem_append_left _ hp
theorem put_off {H : Hist} (h : HV H) {i : Nat} {o : GOp} {es : List Ent} {nw : List Rg} {eff : GOp} (g : Good H i o) (p : PutIs H i o es nw eff) (I : CI H) :
  ∀ e ∈ newEnts i o nw es (carryF o (H.ops.drop i)).2, e.off = lastOff e.op.c e.op.n false (H.ops.take i ++ ([o] ++ (carryF o (H.ops.drop i)).2)) := by
 obtain ⟨c1, c2, c3, c4, c5⟩ := cross_good h g
 have hT := put_tgt h g I.tgt
 have hs := p.sames h g
 have hsp : ∀ c n, lastOff c n false (H.ops.take i ++ ([o] ++ (carryF o (H.ops.drop i)).2)) = lastOff c n (if o.kind = 4 ∧ o.tc = c ∧ o.tn = n then !o.on else lastOff c n false (H.ops.take i)) (H.ops.drop i) := fun c n => by
  rw [lastOff_append]
  show lastOff c n _ (carryF o (H.ops.drop i)).2 = _
  rw [lastOff_same c5]
 have hold : ∀ c n, lastOff c n (lastOff c n false (H.ops.take i)) (H.ops.drop i) = lastOff c n false H.ops := fun c n => by rw [← lastOff_append, List.take_append_drop]
 -- the old entries
 have hes : ∀ e ∈ es, e.off = lastOff e.op.c e.op.n false (H.ops.take i ++ ([o] ++ (carryF o (H.ops.drop i)).2)) := by
  by_cases hk : o.kind = 4
  ·obtain ⟨q1, q2, q3⟩ := p.status hk
   obtain ⟨k0, w1, w2, e0, w3, w4⟩ := g.target hk
   obtain ⟨hk0, w5, w6⟩ := whereId_some w1
   have w7 : H.ents[k0] = e0 := by rw [List.getElem?_eq_getElem hk0] at w3; exact Option.some.inj w3
   -- by the place
   have key : ∀ (j : Nat) (hj : j < H.ents.length), ∀ b : Bool, (j ≠ k0 → b = H.ents[j].off) → (j = k0 → b = (if laterT (H.ents.drop i) o.tc o.tn = true then H.ents[j].off else !o.on)) → b = lastOff H.ents[j].op.c H.ents[j].op.n false (H.ops.take i ++ ([o] ++ (carryF o (H.ops.drop i)).2)) := by
    intro j hj b h1 h2
    have hb := I.off _ (List.getElem_mem hj)
    rw [hsp]
    by_cases hjk : j = k0
    ·subst hjk
     rw [w5, w6] at hb ⊢
     rw [if_pos ⟨hk, rfl, rfl⟩, h2 rfl]
     by_cases hl : laterT (H.ents.drop i) o.tc o.tn = true
     ·rw [if_pos hl, hb, ← hold]
      obtain ⟨x, hx, hh⟩ := later_iff.1 hl
      exact lastOff_any ⟨x, by unfold Hist.ops; rw [← List.map_drop]; exact hx, hh⟩ _ _
     ·rw [if_neg hl, lastOff_none]
      intro x hx hx4 hxx
      refine hl (later_iff.2 ⟨x, ?_, hx4, hxx⟩)
      unfold Hist.ops at hx; rw [← List.map_drop] at hx; exact hx
    ·rw [if_neg, h1 hjk, hb, hold]
     rintro ⟨_, x1, x2⟩
     have hn := h.ids
     have := List.getElem_inj (h₀ := by simpa using hj) (h₁ := by simpa using hk0) hn
     simp only [List.getElem_map, Prod.mk.injEq] at this
     exact hjk (this.1 ⟨by rw [w5, x1], by rw [w6, x2]⟩)
   have e1 : (turnedF H i o).1 = H.ents.set k0 (offE e0 (if laterT (H.ents.drop i) o.tc o.tn = true then e0.off else !o.on)) := by
    unfold turnedF
    by_cases hl : laterT (H.ents.drop i) o.tc o.tn = true
    ·rw [if_pos hl, if_pos hl]
     show H.ents = H.ents.set k0 e0
     rw [← w7, List.set_getElem_self]
    ·rw [if_neg hl, if_neg hl, w1]
     simp only [w3]
     by_cases hx : e0.off = !o.on
     ·rw [if_pos hx, ← hx]
      show H.ents = H.ents.set k0 e0
      rw [← w7, List.set_getElem_self]
     ·rw [if_neg hx]
   rw [q1, e1]
   intro e he
   obtain ⟨j, hj, hje⟩ := List.mem_iff_getElem.1 he
   rw [List.length_set] at hj
   rw [List.getElem_set] at hje
   split at hje
   ·rename_i hjk
    subst hjk hje
    have := key k0 hj (if laterT (H.ents.drop i) o.tc o.tn = true then e0.off else !o.on) (fun hn => absurd rfl hn) (fun _ => by rw [w7])
    rw [w7] at this
    exact this
   ·rename_i hjk
    rw [← hje]
    exact key j hj _ (fun _ => rfl) (fun hn => absurd hn.symm hjk)
  ·intro e he
   have hx : ∃ x ∈ H.ents, e.op = x.op ∧ e.off = x.off := by
    rcases g.right.kind with h1 | h1 | h1
    ·rw [(p.ins h1).1] at he
     obtain ⟨x, hx, rfl⟩ := List.mem_map.1 he
     exact ⟨x, hx, rfl, rfl⟩
    ·rw [(p.hide h1).1] at he; exact ⟨e, he, rfl, rfl⟩
    ·exact absurd h1 hk
   obtain ⟨x, hx, h1, h2⟩ := hx
   rw [h1, h2, hsp, if_neg (fun hh => hk hh.1), hold, ← I.off x hx]
 intro e he
 rcases newEnts_mem hs he with he | rfl | ⟨x, hx, y, hy, hsm, rfl⟩
 ·exact hes e he
 ·show false = lastOff o.c o.n false _
  rw [lastOff_none]
  intro x hx h4 hh
  obtain ⟨t, t1, t2, t3⟩ := hT.mem x hx h4
  rw [List.nil_append] at t1
  -- t is o itself, or an older one
  have hfr := fresh_op g.fresh
  have hnot : ∀ z ∈ (carryF o (H.ops.drop i)).2, ¬ (z.c = o.c ∧ z.n = o.n) := by
   intro z hz hzz
   obtain ⟨k, hk, rfl⟩ := List.mem_iff_getElem.1 hz
   have hk' : k < (H.ops.drop i).length := by rw [← c5.length]; exact hk
   have := c5.get k hk' hk
   exact hfr _ (List.mem_of_mem_drop (List.getElem_mem hk')) ⟨by rw [← this.c]; exact hzz.1, by rw [← this.n]; exact hzz.2⟩
  rw [TgtOk.append] at hT
  rcases List.mem_append.1 hx with hx | hx
  ·-- a status ahead
   obtain ⟨t, t1, t2, t3⟩ := hT.1.mem x hx h4
   exact hfr t (List.mem_of_mem_take t1) ⟨t2.trans hh.1, t3.trans hh.2⟩
  ·rcases List.mem_append.1 hx with hx | hx
   ·simp only [List.mem_singleton] at hx; subst hx
    obtain ⟨t, t1, t2, t3, _⟩ := good_tgt g h4
    exact hfr t (List.mem_of_mem_take t1) ⟨t2.trans hh.1, t3.trans hh.2⟩
   ·-- a status behind: its old form had the same target
    obtain ⟨k, hk, rfl⟩ := List.mem_iff_getElem.1 hx
    have hk' : k < (H.ops.drop i).length := by rw [← c5.length]; exact hk
    have hsm := c5.get k hk' hk
    obtain ⟨t, t1, t2, t3⟩ := I.tgt.mem _ (List.mem_of_mem_drop (List.getElem_mem hk')) (hsm.kind.symm.trans h4)
    exact hfr t t1 ⟨by rw [t2, ← hsm.tc]; exact hh.1, by rw [t3, ← hsm.tn]; exact hh.2⟩
 ·show x.off = lastOff y.c y.n false _
  rw [hsm.c, hsm.n]; exact hes x hx
theorem Made.ci {n : Nat} {H : Hist} {X : List Ce} (h : Made n H X) : n ≤ 1000 → CI H := by
 induction h with
 | zero => exact fun _ => ⟨rfl, trivial, fun e he => (by cases he)⟩
 | step h g ih =>
  intro hn
  obtain ⟨h1, h2, h3⟩ := h.inv (by omega)
  have I := ih (by omega)
  obtain ⟨es, nw, eff, p⟩ := put_good h1 g
  have ho := put_ops h1 g p
  rw [p.put]
  refine ⟨?_, ?_, ?_⟩
  ·rw [ho]; exact put_now h1 g p I
  ·rw [ho]; exact put_tgt h1 g I.tgt
  ·rw [ho]; exact put_off h1 g p I
theorem Made.ops {n : Nat} {H : Hist} {X : List Ce} (h : Made n H X) (hn : n ≤ 1000) {i : Nat} {o : GOp} (g : Good H i o) : (putF H i o).1.ops = H.ops.take i ++ ([o] ++ (carryF o (H.ops.drop i)).2) := by
 obtain ⟨h1, h2, h3⟩ := h.inv hn
 obtain ⟨es, nw, eff, p⟩ := put_good h1 g
 rw [p.put]; exact put_ops h1 g p
theorem map_nth_inj {N : List Nm} (hN : N.Nodup) : ∀ {a b : List Int}, (∀ q ∈ a, 0 ≤ q ∧ q < N.length) → (∀ q ∈ b, 0 ≤ q ∧ q < N.length) → a.map (fun q => N[q.toNat]?) = b.map (fun q => N[q.toNat]?) → a = b
 | [], [], _, _, _ => rfl
 | [], y :: b, _, _, h => by cases h
 | x :: a, [], _, _, h => by cases h
 | x :: a, y :: b, h1, h2, h => by
  simp only [List.map_cons, List.cons.injEq] at h
  have hx := h1 x List.mem_cons_self
  have hy := h2 y List.mem_cons_self
  have e := h.1
  rw [List.getElem?_eq_getElem (by omega), List.getElem?_eq_getElem (by omega)] at e
  have := (List.getElem_inj (h₀ := by omega) (h₁ := by omega) hN).1 (Option.some.inj e)
  rw [map_nth_inj hN (fun q hq => h1 q (List.mem_cons_of_mem _ hq)) (fun q hq => h2 q (List.mem_cons_of_mem _ hq)) h.2]
  congr 1; omega
theorem now_ext {T : Int} {N : List Nm} (hN : N.Nodup) (hl : (N.length : Int) = T) {xs ys : List Rg} (hx : Pls T xs) (hy : Pls T ys) (h : (placesF xs).map (fun q => N[q.toNat]?) = (placesF ys).map fun q => N[q.toNat]?) : xs = ys := by
 have := map_nth_inj hN (fun q hq => by have := hx.in (mem_places.1 hq); omega) (fun q hq => by have := hy.in (mem_places.1 hq); omega) h
 exact norm_ext hx.norm hy.norm fun q => by rw [← mem_places, ← mem_places, this]
theorem ents_ext {T : Int} {N : List Nm} (hN : N.Nodup) (hl : (N.length : Int) = T) (ops : List GOp) : ∀ {a b : List Ent}, a.map (·.op) = b.map (·.op) → a.map (nmE N) = b.map (nmE N) → (∀ e ∈ a, Pls T e.now) → (∀ e ∈ b, Pls T e.now) →
  (∀ e ∈ a, e.off = lastOff e.op.c e.op.n false ops) → (∀ e ∈ b, e.off = lastOff e.op.c e.op.n false ops) → a = b
 | [], [], _, _, _, _, _, _ => rfl
 | [], y :: b, h, _, _, _, _, _ => by cases h
 | x :: a, [], h, _, _, _, _, _ => by cases h
 | x :: a, y :: b, h, h1, h2, h3, h4, h5 => by
  simp only [List.map_cons, List.cons.injEq] at h h1
  have e1 := now_ext hN hl (h2 x List.mem_cons_self) (h3 y List.mem_cons_self) h1.1
  have e2 : x.off = y.off := by rw [h4 x List.mem_cons_self, h5 y List.mem_cons_self, h.1]
  rw [ents_ext hN hl ops h.2 h1.2 (fun e he => h2 e (List.mem_cons_of_mem _ he)) (fun e he => h3 e (List.mem_cons_of_mem _ he)) (fun e he => h4 e (List.mem_cons_of_mem _ he)) (fun e he => h5 e (List.mem_cons_of_mem _ he))]
  congr 1
  obtain ⟨o, nw, f⟩ := x
  obtain ⟨o', nw', f'⟩ := y
  have := h.1
  simp only at this e1 e2
  subst this e1 e2; rfl
theorem Mk.ext {S : List Sig} {T : Int} {X X' : List Ce} (h : Mk S T X) (h' : Mk S T X') (hl : (X.length : Int) = T) (hl' : (X'.length : Int) = T) : X.map (·.1) = X'.map (·.1) := by
 apply List.ext_getElem?
 intro q
 rw [List.getElem?_map, List.getElem?_map]
 by_cases hq : (q : Int) < T
 ·have h1 := h.one q (by omega) hq
  have h2 : 0 < S.countP (mkOf q) := by omega
  obtain ⟨s, hs, hm⟩ := List.countP_pos_iff.1 h2
  unfold mkOf at hm
  simp only [Bool.and_eq_true, decide_eq_true_eq] at hm
  have hp := mem_places.2 (inRb_iff.1 hm.2)
  have e := (h.text s hs hm.1).trans (h'.text s hs hm.1).symm
  have := List.map_inj_left.1 e q hp
  simpa using this
 ·rw [List.getElem?_eq_none (by omega), List.getElem?_eq_none (by omega)]
theorem rule_ext {H : Hist} {X X' : List Ce} (h : Rule H X) (h' : Rule H X') (e : X.map (·.1) = X'.map (·.1)) : X = X' := by
 apply List.ext_getElem?
 intro q
 have e1 := congrArg (·[q]?) e
 simp only [List.getElem?_map] at e1
 cases hx : X[q]? with
 | none =>
  rw [hx] at e1
  cases hy : X'[q]? with
  | none => rfl
  | some d => rw [hy] at e1; cases e1
 | some c =>
  rw [hx] at e1
  cases hy : X'[q]? with
  | none => rw [hy] at e1; cases e1
  | some d =>
   rw [hy] at e1
   simp only [Option.map_some, Option.some.injEq] at e1
   have c1 := h.cnt q c hx
   have c2 := h'.cnt q d hy
   congr 1
   exact Prod.ext e1 (by rw [c1, c2])
/-- The law. -/
theorem Made.one {n n' : Nat} {H H' : Hist} {X X' : List Ce} (h : Made n H X) (h' : Made n' H' X') (hn : n ≤ 1000) (hn' : n' ≤ 1000) (e : H.ops = H'.ops) : H = H' ∧ X = X' := by
 obtain ⟨v, r, l⟩ := h.inv hn
 obtain ⟨v', r', l'⟩ := h'.inv hn'
 have I := h.ci hn
 have I' := h'.ci hn'
 have et : H.total = H'.total := by rw [v.tot, v'.tot, e]
 have hN : (rowN [] H.ops).Nodup := rowN_nodup List.nodup_nil (by
  have := v.ids
  unfold Hist.ops
  rw [List.map_map]; exact this) (fun x hx => by cases hx)
 have hl : ((rowN [] H.ops).length : Int) = H.total := by rw [rowN_len (w := 0) rfl v.ctx, v.tot]; omega
 have ee : H.ents = H'.ents := ents_ext hN hl H.ops e (by rw [I.now, e, ← I'.now]) v.pls (by rw [et]; exact v'.pls) I.off (by rw [e]; exact I'.off)
 have eH : H = H' := by
  obtain ⟨a, b⟩ := H
  obtain ⟨a', b'⟩ := H'
  simp only at ee et
  subst ee et; rfl
 subst eH
 exact ⟨rfl, rule_ext r r' (Mk.ext (h.mk hn) (h'.mk hn') r.len r'.len)⟩
theorem CtxOk.take : ∀ {w : Int} {l : List GOp} (k : Nat), CtxOk w l → CtxOk w (l.take k)
 | w, [], k, _ => by simp [CtxOk]
 | w, o :: l, 0, _ => trivial
 | w, o :: l, k + 1, h => ⟨h.1, h.2.take k⟩
/-- The next one of the order can be put at the end. -/
theorem Made.next {n : Nat} {H : Hist} {X : List Ce} (h : Made n H X) (hn : n ≤ 1000) {k : Nat} {H1 : Hist} {X1 : List Ce} (h1 : Made k H1 X1) (e : H1.ops = H.ops.take k) (hk : k < H.ops.length) : Good H1 k H.ops[k] := by
 have hlen : H.ops.length = n := by unfold Hist.ops; rw [List.length_map]; exact (h.inv hn).2.2
 obtain ⟨v, r, l⟩ := h.inv hn
 obtain ⟨v1, r1, l1⟩ := h1.inv (by omega)
 have I := h.ci hn
 have hsp : H.ops = H.ops.take k ++ (H.ops[k] :: H.ops.drop (k + 1)) := by rw [← List.drop_eq_getElem_cons hk, List.take_append_drop]
 have hb : beforeF H1 k = sumO (H.ops.take k) := by
  rw [before_ops, e, List.take_of_length_le]
  rw [List.length_take]; omega
 have hc := v.ctx
 rw [hsp, CtxOk.append, Int.zero_add] at hc
 have ht := v.tot
 rw [hsp, sumO_append] at ht
 simp only [sumO] at ht
 have h0 := sumO_nonneg hc.2.2
 have hle := v.le
 have hT := I.tgt
 rw [hsp, TgtOk.append, List.nil_append] at hT
 have hid : ∀ p ∈ H.ops.take k, ¬ (p.c = H.ops[k].c ∧ p.n = H.ops[k].n) := by
  intro p hp hh
  obtain ⟨j, hj, rfl⟩ := List.mem_iff_getElem.1 hp
  rw [List.length_take] at hj
  rw [List.getElem_take] at hh
  have hnd := v.ids
  have e2 : (H.ents.map fun e => (e.op.c, e.op.n)) = H.ops.map fun o => (o.c, o.n) := by unfold Hist.ops; rw [List.map_map]; rfl
  rw [e2] at hnd
  have := List.getElem_inj (h₀ := by rw [List.length_map]; omega) (h₁ := by rw [List.length_map]; exact hk) hnd (i := j) (j := k)
  simp only [List.getElem_map, Prod.mk.injEq] at this
  have := this.1 hh
  omega
 have hfr : whereId H1.ents H.ops[k].c H.ops[k].n = none := by
  cases hw : whereId H1.ents H.ops[k].c H.ops[k].n with
  | none => rfl
  | some j =>
   obtain ⟨hj, g1, g2⟩ := whereId_some hw
   refine absurd ⟨g1, g2⟩ (hid H1.ents[j].op ?_)
   rw [← e]; exact List.mem_map.2 ⟨_, List.getElem_mem hj, rfl⟩
 refine ⟨by omega, by rw [hb]; exact hc.2.1, hfr, ?_, ?_, ?_⟩
 ·obtain ⟨x, hx, hxe⟩ := List.mem_map.1 (show H.ops[k] ∈ H.ents.map (·.op) from List.getElem_mem hk)
  have := v.idr x hx
  rw [hxe] at this; exact this
 ·intro h4
  obtain ⟨p, p1, p2, p3, p4⟩ := hT.2.1 h4
  rw [← e] at p1
  obtain ⟨x, hx, rfl⟩ := List.mem_map.1 p1
  obtain ⟨j, hj, rfl⟩ := List.mem_iff_getElem.1 hx
  refine ⟨j, ?_, by omega, H1.ents[j], List.getElem?_eq_getElem hj, p4⟩
  rw [← p2, ← p3]; exact whereId_of v1.ids hj
 ·have ht1 : H1.total = sumO (H.ops.take k) := by rw [v1.tot, e]
  rw [ht1]; omega
theorem carry_nil (o : GOp) : carryF o [] = (o, []) := rfl
theorem Made.next_ops {n : Nat} {H : Hist} {X : List Ce} (h : Made n H X) (hn : n ≤ 1000) {k : Nat} {H1 : Hist} {X1 : List Ce} (h1 : Made k H1 X1) (e : H1.ops = H.ops.take k) (hk : k < H.ops.length) : (putF H1 k H.ops[k]).1.ops = H.ops.take (k + 1) := by
 have g := h.next hn h1 e hk
 have hlen : H.ops.length = n := by unfold Hist.ops; rw [List.length_map]; exact (h.inv hn).2.2
 have hl1 : H1.ops.length = k := by rw [e, List.length_take]; omega
 rw [h1.ops (by omega) g, List.take_of_length_le (by omega), List.drop_eq_nil_of_le (by omega), carry_nil, e, List.take_succ_eq_append_getElem hk]
 rfl
end Go.Proofs.YtcjbjkbghgjmdaaGreatDoor
/- One by one in the order, plain: what the walk of HistoryIsFold asks. -/
namespace Go.Proofs.YtcjbjkbghgjmdaaGreatDoor
open Go Go.GW
theorem decode_le4 (s : ByteArray) (p : Nat) : (Utf8.decode s p).2 ≤ 4 := by
 unfold Utf8.decode
 simp only
 repeat' split
 all_goals (show _ ≤ 4; first | exact (by decide : 1 ≤ 4) | exact (by decide : 2 ≤ 4) | exact (by decide : 3 ≤ 4) | exact (by decide : 4 ≤ 4))
theorem runes_size (s : ByteArray) : ∀ (m p : Nat), s.size - p ≤ m → s.size - p ≤ 4 * (runesAt s p).length
 | m, p, hm => by
  by_cases hp : p < s.size
  ·rw [runesAt, dif_pos hp]
   have h1 := decode_pos s p
   have h2 := decode_le4 s p
   cases m with
   | zero => omega
   | succ m =>
    have := runes_size s m (p + (Utf8.decode s p).2) (by omega)
    simp only [List.length_cons]; omega
  ·omega
theorem Right.text {w : Int} {o : GOp} (h : Right w o) : o.text.size ≤ 1024 := by
 by_cases hk : o.kind = 1
 ·have h3 := insF_ok.1 ((check_ins hk h.w0).1 h.ck).2
  have h4 := utF_runes h3.1
  have h5 := runes_size o.text o.text.size 0 (by omega)
  unfold runesF at h4
  omega
 ·have hh := (h.head h.w0).2.2
  unfold extraF at hh
  have h6 : (o.text == ⟨#[]⟩) = true := by
   cases hx : o.text == ⟨#[]⟩ with
   | true => rfl
   | false => exfalso; apply hh; simp [hk, hx]
  rw [emptyB_eq h6]; exact Nat.zero_le _
theorem VI.weak {N N' : Int} {n : Nat} {H : Hist} {X : List Ce} {nx : List Int} (h : VI N n H X nx) (hN : N ≤ N') : VI N' n H X nx := ⟨h.made, h.le, h.nxl, h.nxe, fun x hx => by have := h.nx0 x hx; omega⟩
/-- The first k of the order have come to the end, one by one. -/
structure FoI (H : Hist) (k : Nat) (H1 : Hist) (X1 : List Ce) (nx1 : List Int) (L1 : List MR) (t1 : Tr) : Prop where
 le : k ≤ H.ents.length
 vi : VI 1024 k H1 X1 nx1
 ops : H1.ops = H.ops.take k
 hr : HR H1 L1
 wt : Wf t1
 hX : t1.row = X1
theorem VI.next {N : Int} {n : Nat} {H : Hist} {X : List Ce} {nx : List Int} (h : VI N n H X nx) {k : Nat} {H1 : Hist} {X1 : List Ce} {nx1 : List Int} (h1 : VI 1024 k H1 X1 nx1) (e : H1.ops = H.ops.take k) (hk : k < H.ents.length) {o : GOp} (ho : H.ops[k]? = some o) :
  Good H1 k o ∧ o.text.size ≤ 1024 ∧ VI 1024 (k + 1) (putF H1 k o).1 (applyRow (putF H1 k o).2.1 X1) (nxF nx1 o.c o.n) ∧ (putF H1 k o).1.ops = H.ops.take (k + 1) := by
 have hkl : k < H.ops.length := by unfold Hist.ops; rw [List.length_map]; exact hk
 have hn := h.le
 have hl := h.len
 have g := h.made.next (by omega) h1.made e hkl
 have hp := h.made.next_ops (by omega) h1.made e hkl
 rw [List.getElem?_eq_getElem hkl] at ho
 obtain rfl := Option.some.inj ho
 have hb := right_bd g.idr
 exact ⟨g, g.right.text, h1.step g (by omega) (Int.le_refl _) hb.2.2.2, hp⟩
theorem VI.one {N N' : Int} {n n' : Nat} {H H' : Hist} {X X' : List Ce} {nx nx' : List Int} (h : VI N n H X nx) (h' : VI N' n' H' X' nx') (e : H.ops = H'.ops) : H = H' ∧ X = X' :=
 h.made.one h'.made (by have := h.le; omega) (by have := h'.le; omega) e
end Go.Proofs.YtcjbjkbghgjmdaaGreatDoor
/- Closures, calls of values, literal slices of many elements, bits, a builder's string. -/
namespace Go.GW
open Go
section
variable {P : Program} {n : Nat} {R : Post} {l : Fr} {Ps : List Part} {As : List Fact} {d : Option Tmp} {ty : TypeId} {pos : String} {aft : Array Edge} {g : Option (Nat × Bool)} {K : Nx}
theorem q_func {k : FuncId} {xs : List Operand} {vs : List Value} (hxs : Evs l xs vs) : QR P l Ps As ⟨d, .makeFunc (.func k) #[] xs.toArray, ty, pos, aft, g⟩ (.func (.func k) #[] vs.toArray) := fun Z w ρ hs hρ => by
  have h1 := hxs.map hρ
  simp only [execOp, List.map_toArray, h1, Instr.makeFunc]
  simp
/-- A call of a value that is a function of the program, with what it has captured. -/
theorem OW_callV {k : FuncId} {d : Nat} {x : Operand} {caps : List Value} {xs : List Operand} {ts : Array TypeId} {args : List Value} {Lin Ps' : List Part} {pre : List Fact} {res : Value → List Part → List Fact → Prop}
    (hx : evs l x = some (.func (.func k) #[] caps.toArray)) (hsp : Sp P k (args ++ caps) Lin pre res) (hxs : Evs l xs args) (hd : d < n) (hp : (Lin ++ Ps').flatten.Perm Ps.flatten) (hpre : ∀ A ∈ pre, A ∈ As)
    (h : ∀ v Lo fs, res v Lo fs → K ((d, v) :: l) (Lo ++ Ps') (fs ++ As)) :
    OW P n R l Ps As ⟨some d, .call ⟨.value x, xs.toArray, ts⟩, ty, pos, aft, g⟩ K := by
  intro Z w a hs ha
  have hP : St Z w (Lin ++ Ps') (pre ++ As) := (hs.permParts hp).subFacts fun A hA => by
    rcases List.mem_append.1 hA with hA | hA
    · exact hpre A hA
    · exact hA
  have hrun : (execOp a.eval ⟨some d, .call ⟨.value x, xs.toArray, ts⟩, ty, pos, aft, g⟩).run P w = .ok (.enter k (args ++ caps).toArray) w := by
    have h1 := hxs.map fun x v hx => ha.eval hx
    have h2 := run_callFunc hsp.enters (args ++ caps).toArray w
    have h3 := ha.eval hx
    simp only [execOp, resolve, Deferred.ofValue, invoke, h3, List.map_toArray, h1, Sem.run_bind, Sem.run_pure, Result.andThen_ok]
    simpa using h2
  unfold Oper.wp
  rw [hrun, Oper.upon_enter]
  refine (hsp.calls Z w Ps' As hP).mono ?_
  rintro e w' ⟨v, rfl, Z', Lo, fs, h1, h2⟩
  refine ⟨(d, v) :: l, Z', Lo ++ Ps', fs ++ As, ha.put hd v, h2.subFacts ?_, h v Lo fs h1⟩
  intro A hA
  rcases List.mem_append.1 hA with h | h
  · exact List.mem_append.2 (.inl h)
  · exact List.mem_append.2 (.inr (List.mem_append.2 (.inr h)))
/-- Parts in one. -/
theorem Sp.flat {k : FuncId} {args : List Value} {Lin : List Part} {pre : List Fact} {res : Value → List Part → List Fact → Prop} (h : Sp P k args Lin pre res) : Sp P k args [Lin.flatten] pre (fun v Lo fs => ∃ Lo', res v Lo' fs ∧ Lo = [Lo'.flatten]) := by
  refine ⟨h.enters, fun Z w Ps As hs => ?_⟩
  have hs' : St Z w (Lin ++ Ps) (pre ++ As) := by
    refine hs.permParts ?_
    simp
  refine (h.calls Z w Ps As hs').mono ?_
  rintro e w' ⟨v, he, Z', Lo, fs, h1, h2⟩
  exact ⟨v, he, Z', [Lo.flatten], fs, ⟨Lo, h1, rfl⟩, h2.permParts (by simp)⟩
/-- Parts taken one by one out of one. -/
theorem WC_unflat {c : Code} {Qs : List Part} (h : WC P n c R l (Qs ++ Ps) As) : WC P n c R l (Qs.flatten :: Ps) As := fun Z w a hs ha => h Z w a (hs.permParts (by simp)) ha
theorem q_shr {k yk : IntKind} {a b c : Int} {t t2 : TypeId} {x y : Operand} (hx : evs l x = some (.int k a)) (hy : evs l y = some (.int yk b)) (hb : 0 ≤ b) (hw : a.fdiv (2 ^ (min b.toNat k.bits)) = c) : QR P l Ps As ⟨d, .binOp .shr t x y t2, ty, pos, aft, g⟩ (.int k c) := fun Z w ρ hs hρ => by
  subst hw
  have h1 : ¬ b < 0 := by omega
  simp [execOp, hρ _ _ hx, hρ _ _ hy, binOp, eqGuard, Op.shift, h1]
theorem q_or {t t2 : TypeId} {x y : Operand} {k : IntKind} {a b c : Int} (hx : evs l x = some (.int k a)) (hy : evs l y = some (.int k b)) (hw : bits .or k a b = c) : QR P l Ps As ⟨d, .binOp .or t x y t2, ty, pos, aft, g⟩ (.int k c) := fun Z w ρ hs hρ => by
  subst hw; simp [execOp, hρ _ _ hx, hρ _ _ hy, go_sem]
/-- .. many ways through two parts of the code. -/
theorem WC_meet2 {α : Type} (fr : α → Fr) (ps : α → List Part) (qs : α → List Fact) (p : α → Prop) {x y z : Code} (h1 : WC P n x (thenR (WC P n y (thenR (fun l Ps As => ∃ x, p x ∧ Sub (fr x) l ∧ (ps x).Sublist Ps ∧ ∀ A ∈ qs x, A ∈ As) R)) R) l Ps As) (h2 : ∀ x, p x → WC P n z R (fr x) (ps x) (qs x)) : WC P n (.seq x (.seq y z)) R l Ps As :=
  WC_seq (h1.mono fun e l Ps As he => by
    cases e with
    | normal => exact WC_meet fr ps qs p he h2
    | _ => exact he)
theorem OW_quiet {d : Nat} {op : Op} {v : Value} (hq : QR P l Ps As ⟨some d, op, ty, pos, aft, g⟩ v) (hd : d < n) (h : K ((d, v) :: l) Ps As) : OW P n R l Ps As ⟨some d, op, ty, pos, aft, g⟩ K :=
  OW_value rfl hd fun Z w ρ hs hρ => ⟨v, w, Z, Ps, As, hq Z w ρ hs hρ, hs, h⟩
/-- A literal slice of many elements, by what it comes to. -/
theorem OW_sliceM {T E : TypeId} {d : Nat} {m : Nat} {xs : List (Nat × Operand)} {vs : List (Nat × Value)} {cs : List Value} (hx : EvP l xs vs) (hb : ∀ w : World, (Instr.buildSlice T m vs.toArray).run P w = .ok (.slice (some ⟨w.heap.size, 0, none⟩) m m) (w.alloc (cellsO cs E))) (hd : d < n)
    (h : ∀ b, K ((d, .slice (some ⟨b, 0, none⟩) m m) :: l) ([(b, cellsO cs E)] :: Ps) As) : OW P n R l Ps As ⟨some d, .buildSlice T m xs.toArray, ty, pos, aft, g⟩ K :=
  OW_value rfl hd fun Z w ρ hs hρ => by
    refine ⟨_, w.alloc (cellsO cs E), Z, _, As, ?_, hs.alloc _, h w.heap.size⟩
    have h1 := hx.map hρ
    simp only [execOp, List.map_toArray, h1, Sem.run_bind, hb]; rfl
theorem OW_appendM {T E : TypeId} {d : Nat} {x y : Operand} {zv : Value} {sz by_ k b c m : Nat} {v : Value} {cs news : List Value} {T' : TypeId} {p : Part} {Qs : List Part} (hu : P.underlying T = some (.slice E)) (ht : ti P E = some (some zv, sz, by_)) (hz : zv.cells.size = sz) (hsz : 0 < sz) (hx : evs l x = some v) (hy : evs l y = some (.slice (some ⟨b, 0, none⟩) m c))
    (hr : Row E sz v k cs p) (hb : OwnAt Qs b (cellsO news T')) (hl : news.length = m * sz) (h1 : news.all Value.oneCell' = true) (h63 : (k + m) * by_ ≤ 140737488355328) (hmx : k + m ≤ maxLen) (hd : d < n) (hQ : (p :: Qs).flatten.Perm Ps.flatten)
    (h : ∀ v' p', Row E sz v' (k + m) (cs ++ news) p' → K ((d, v') :: l) (p' :: Qs) As) : OW P n R l Ps As ⟨some d, .call ⟨.builtin .append, #[x, y], #[T, T]⟩, ty, pos, aft, g⟩ K :=
  OW_value rfl hd fun Z w ρ hs hρ => by
    have hs' := hs.permParts hQ
    have hc : CellsAt w b 0 news := ⟨_, _, _, hs'.block (ownS hb), fun j v hv => by simpa using hv⟩
    obtain ⟨v', w', p', g1, g2, g3⟩ := run_append (ty := ty) (c := c) hu ht hz hsz hs' hr (ad := ⟨b, 0, none⟩) (m := m) (news := news) hl (fun j u hu => by rw [add_none]; exact hc.cell hu) (fun u hu => List.all_eq_true.1 h1 u hu) h63 hmx
    exact ⟨v', w', Z, _, As, by rw [execOp_append (hρ _ _ hx) (hρ _ _ hy), Sem.run_bind, g1]; rfl, g3, h v' p' g2⟩
/-! ### A builder's string -/
theorem shape_own {Z : Nat → Prop} {w : World} (hs : St Z w Ps As) {b : Nat} {cs : List Value} {T : TypeId} (hb : OwnAt Ps b (cellsO cs T)) : w.shape? b = some (T, cs.length) := by
  have := hs.block hb
  unfold World.shape? cellsO at *
  rw [this]; simp
theorem q_toUnsafe {src dst t : TypeId} {x : Operand} {j : TypeInfo} {b T : Nat} {cs : List Value} (hs : P.underlying src = some (.pointer t)) (hd : P.underlying dst = some .unsafePointer) (ht : P.info? t = some j) (hj : j.size ≠ 0) (hx : evs l x = some (.pointer (some ⟨b, 0, none⟩))) (hb : OwnAt Ps b (cellsO cs T)) (hc : 0 < cs.length) :
    QR P l Ps As ⟨d, .convert src dst x, ty, pos, aft, g⟩ (.pointer (some ⟨b, 0, none⟩)) := fun Z w ρ hst hρ => by
  have h := Lib.run_to_unsafe (P := P) (w := w) ⟨b, 0, none⟩ hs hd ht hj (shape_own hst hb) hc
  simp only [execOp, hρ _ _ hx, Sem.run_bind, h, Result.andThen_ok, Sem.run_pure]
theorem q_fromUnsafe {src dst u : TypeId} {x : Operand} {j : TypeInfo} {b T : Nat} {cs : List Value} (hs : P.underlying src = some .unsafePointer) (hd : P.underlying dst = some (.pointer u)) (hu : P.info? u = some j) (hx : evs l x = some (.pointer (some ⟨b, 0, none⟩))) (hb : OwnAt Ps b (cellsO cs T)) (hl : liesAt P P.depth T (cs.length / P.cellsOf T) 0 u 1 = true) :
    QR P l Ps As ⟨d, .convert src dst x, ty, pos, aft, g⟩ (.pointer (some ⟨b, 0, none⟩)) := fun Z w ρ hst hρ => by
  have h := Lib.run_from_unsafe (P := P) (w := w) ⟨b, 0, none⟩ hs hd hu (shape_own hst hb) hl
  simp only [execOp, hρ _ _ hx, Sem.run_bind, h, Result.andThen_ok, Sem.run_pure]
theorem q_extern {f : FuncId} {x : Operand} {v : Value} {ts : Array TypeId} (hb : ∀ w, (callFunc f #[v]).run P w = .ok (.value v) w) (hx : evs l x = some v) : QR P l Ps As ⟨d, .call ⟨.value (.func f), #[x], ts⟩, ty, pos, aft, g⟩ v := fun Z w ρ hs hρ => by
  have h0 : ρ (.func f) = .func (.func f) #[] #[] := hρ _ _ rfl
  simp only [execOp, resolve, Deferred.ofValue, invoke, h0, List.map_toArray, List.map_cons, List.map_nil, hρ _ _ hx, Sem.run_bind, Sem.run_pure, Result.andThen_ok]
  simpa using hb w
theorem q_sliceData {T : TypeId} {x : Operand} {A : Addr} {m c : Nat} (hc : c ≠ 0) (hx : evs l x = some (.slice (some A) m c)) : QR P l Ps As ⟨d, .call ⟨.builtin .unsafeSliceData, #[x], #[T]⟩, ty, pos, aft, g⟩ (.pointer (some A)) := fun Z w ρ hs hρ => by
  simp only [execOp, resolve, invoke, List.map_toArray, List.map_cons, List.map_nil, hρ _ _ hx, Sem.run_bind, Sem.run_pure, Result.andThen_ok]
  show ((do pure (Next.value (← Builtin.unsafeSliceData_ #[T] ty #[.slice (some A) m c])) : Sem Next)).run P w = _
  rw [Sem.run_bind, Lib.run_unsafeSliceData_row _ _ _ _ _ _ hc]; rfl
theorem q_pneqSame {t e t2 : TypeId} {x y : Operand} {a : Addr} {j : TypeInfo} (hu : P.underlying t = some (.pointer e)) (hj : P.info? e = some j) (hx : evs l x = some (.pointer (some a))) (hy : evs l y = some (.pointer (some a))) : QR P l Ps As ⟨d, .binOp .neq t x y t2, ty, pos, aft, g⟩ (.bool false) := fun Z w ρ hs hρ => by
  have h := Lib.run_neq_ptr_same (P := P) w a hu hj
  simp only [execOp, hρ _ _ hx, hρ _ _ hy, eqGuard_at_pointer, Sem.run_bind, h, Result.andThen_ok, Sem.run_pure]
def By (bs : List Int) : Prop := ∀ x ∈ bs, 0 ≤ x ∧ x < 256
def bytesU (bs : List Int) : List UInt8 := bs.map fun x => UInt8.ofNat x.toNat
def strOf (bs : List Int) : ByteArray := ⟨(bytesU bs).toArray⟩
theorem OW_unsafeString {d : Nat} {pt it e : TypeId} {x y : Operand} {b T : Nat} {bs : List Int} {jk : List Value} {Ps' : List Part} (hp : P.underlying pt = some (.pointer T)) (hc : P.cellsOf T = 1) (hby : By bs) (hne : bs ≠ []) (h63 : bs.length ≤ 9223372036854775807)
    (hx : evs l x = some (.pointer (some ⟨b, 0, none⟩))) (hy : evs l y = some (.int .i64 (bs.length : Nat))) (hd : d < n) (hD : DelAt Ps [(b, cellsO (bs.map (Value.int .u8) ++ jk) T)] Ps') (h : K ((d, .string (strOf bs)) :: l) Ps' As) :
    OW P n R l Ps As ⟨some d, .call ⟨.builtin .unsafeString, #[x, y], #[pt, it]⟩, ty, pos, aft, g⟩ K :=
  OW_value rfl hd fun Z w ρ hs hρ => by
    have hs' := hs.permParts hD.perm
    have hcell := hs'.cells (b := b) own0
    have hrun := Lib.run_unsafeString_row (P := P) (w := w) pt it ty T hp hc b _ (shape_own hs' own0) (bytesU bs) (by unfold bytesU; simpa using hne) (by unfold bytesU; simp) (by unfold bytesU; simpa using h63) (fun j u hu => by
      unfold bytesU at hu
      rw [List.getElem?_map] at hu
      cases hj : bs[j]? with
      | none => rw [hj] at hu; cases hu
      | some z =>
        rw [hj] at hu
        have hz := hby z (List.mem_of_getElem? hj)
        have hlt : j < bs.length := by
          rcases Nat.lt_or_ge j bs.length with h | h
          · exact h
          · rw [List.getElem?_eq_none h] at hj; cases hj
        obtain rfl := Option.some.inj hu
        have h2 : (bs.map (Value.int .u8) ++ jk)[j]? = some (.int .u8 z) := by rw [List.getElem?_append_left (by simpa using hlt), List.getElem?_map, hj]; rfl
        have h3 := hcell.cell h2
        have h4 : ((UInt8.ofNat z.toNat).toNat : Int) = z := by rw [UInt8.toNat_ofNat']; omega
        rw [add_none, h4]
        simpa using h3)
    have hlen : (bytesU bs).length = bs.length := by unfold bytesU; simp
    rw [hlen] at hrun
    refine ⟨_, w.freeze ⟨b, 0, none⟩ bs.length, Z, Ps', As, ?_, ?_, h⟩
    · simp only [execOp, resolve, invoke, List.map_toArray, List.map_cons, List.map_nil, hρ _ _ hx, hρ _ _ hy, Sem.run_bind, Sem.run_pure, Result.andThen_ok]
      show ((do pure (Next.value (← Builtin.unsafeString_ #[pt, it] ty #[.pointer (some ⟨b, 0, none⟩), .int .i64 (bs.length : Nat)])) : Sem Next)).run P w = _
      rw [Sem.run_bind, hrun]; rfl
    · have hb := hs'.own (b, cellsO (bs.map (Value.int .u8) ++ jk) T) (by simp)
      have hnb : ∀ q ∈ Ps'.flatten, q.1 ≠ b := fun q hq e => by
        have := hs'.nodup
        rw [List.flatten_cons, List.map_append, List.nodup_append] at this
        exact this.2.2 b (by simp) q.1 (List.mem_map.2 ⟨q, hq, rfl⟩) e.symm
      have hne0 : bs.length ≠ 0 := by simpa using hne
      have hh : ∀ c, c ≠ b → (w.freeze ⟨b, 0, none⟩ bs.length).heap[c]? = w.heap[c]? := fun c hcb => by
        unfold World.freeze
        rw [if_neg hne0]
        simp only [Array.getElem?_modify]
        rw [if_neg (fun e => hcb e.symm)]
      have hos : (w.freeze ⟨b, 0, none⟩ bs.length).os = w.os ∧ (w.freeze ⟨b, 0, none⟩ bs.length).tape = w.tape ∧ (w.freeze ⟨b, 0, none⟩ bs.length).output = w.output ∧ (w.freeze ⟨b, 0, none⟩ bs.length).heap.size = w.heap.size := by
        unfold World.freeze; rw [if_neg hne0]; exact ⟨rfl, rfl, rfl, by simp⟩
      refine ⟨fun c hc => by rw [hos.2.2.2]; exact hs.zlt c hc, fun q hq => ?_, ?_, fun A hA => A.stable (fun _ h => h) (fun c hc => hh c fun e => hb.2 (e ▸ hc)) hos.1 hos.2.1 hos.2.2.1 (hs.facts A hA)⟩
      · have := hs'.own q (by rw [List.flatten_cons]; exact List.mem_append_right _ hq)
        exact ⟨by rw [hh _ (hnb q hq)]; exact this.1, this.2⟩
      · have := hs'.nodup
        rw [List.flatten_cons, List.map_append, List.nodup_append] at this
        exact this.2.1
end
end Go.GW
/- Walks: builders. -/
namespace Go.Proofs.YtcjbjkbghgjmdaaGreatDoor
open Go Go.GW
def u8w (x : Int) : Int := IntKind.u8.wrap x
def encI (r : Int) : List Int :=
 if IntKind.u32.wrap r ≤ 127 then [u8w r]
 else if IntKind.u32.wrap r ≤ 2047 then [bits .or .u8 192 (u8w (r.fdiv (2 ^ 6))), bits .or .u8 128 (bits .and .u8 (u8w r) 63)]
 else if IntKind.u32.wrap r < 55296 ∨ (57343 < IntKind.u32.wrap r ∧ IntKind.u32.wrap r ≤ 65535) then [bits .or .u8 224 (u8w (r.fdiv (2 ^ 12))), bits .or .u8 128 (bits .and .u8 (u8w (r.fdiv (2 ^ 6))) 63), bits .or .u8 128 (bits .and .u8 (u8w r) 63)]
 else if IntKind.u32.wrap r > 65535 ∧ IntKind.u32.wrap r ≤ 1114111 then [bits .or .u8 240 (u8w (r.fdiv (2 ^ 18))), bits .or .u8 128 (bits .and .u8 (u8w (r.fdiv (2 ^ 12))) 63), bits .or .u8 128 (bits .and .u8 (u8w (r.fdiv (2 ^ 6))) 63), bits .or .u8 128 (bits .and .u8 (u8w r) 63)]
 else [239, 191, 189]
theorem u8_range (x : Int) : 0 ≤ IntKind.u8.wrap x ∧ IntKind.u8.wrap x < 256 := by
 have h : IntKind.u8.wrap x = x % 256 := rfl
 rw [h]; omega
theorem or_range (a b : Int) : 0 ≤ bits .or .u8 a b ∧ bits .or .u8 a b < 256 := u8_range _
theorem encI_by (r : Int) : By (encI r) := by
 have h1 := u8_range r
 intro x hx
 unfold encI at hx
 split at hx
 ·simp only [List.mem_singleton] at hx; subst hx; exact h1
 ·split at hx
  ·simp only [List.mem_cons, List.not_mem_nil, or_false] at hx; rcases hx with rfl | rfl <;> exact or_range _ _
  ·split at hx
   ·simp only [List.mem_cons, List.not_mem_nil, or_false] at hx; rcases hx with rfl | rfl | rfl <;> exact or_range _ _
   ·split at hx
    ·simp only [List.mem_cons, List.not_mem_nil, or_false] at hx; rcases hx with rfl | rfl | rfl | rfl <;> exact or_range _ _
    ·simp only [List.mem_cons, List.not_mem_nil, or_false] at hx; omega
theorem encI_len (r : Int) : 1 ≤ (encI r).length ∧ (encI r).length ≤ 4 := by
 unfold encI
 split
 ·simp
 ·split
  ·simp
  ·split
   ·simp
   ·split <;> simp
theorem by_append {a b : List Int} (ha : By a) (hb : By b) : By (a ++ b) := fun x hx => (List.mem_append.1 hx).elim (ha x) (hb x)
abbrev blP (b : Nat) (ad : Option Addr) (v : Value) : Part := [(b, cellsO [.pointer ad, v] 138)]
theorem cv32 (x : Int) (w : World) : (convert 21 179 (.int .i32 x)).run Tryz.prog w = .ok (.int .u32 (IntKind.u32.wrap x)) w := by kernel_rfl
theorem cv8 (x : Int) (w : World) : (convert 21 5 (.int .i32 x)).run Tryz.prog w = .ok (.int .u8 (u8w x)) w := by kernel_rfl
theorem bs122_2 (a b : Int) (w : World) : (Instr.buildSlice 136 2 #[(0, .int .u8 a), (1, .int .u8 b)]).run Tryz.prog w = .ok (.slice (some ⟨w.heap.size, 0, none⟩) 2 2) (w.alloc (cellsO [.int .u8 a, .int .u8 b] 5)) := by kernel_rfl
theorem bs122_3 (a b c : Int) (w : World) : (Instr.buildSlice 136 3 #[(0, .int .u8 a), (1, .int .u8 b), (2, .int .u8 c)]).run Tryz.prog w = .ok (.slice (some ⟨w.heap.size, 0, none⟩) 3 3) (w.alloc (cellsO [.int .u8 a, .int .u8 b, .int .u8 c] 5)) := by kernel_rfl
theorem bs122_4 (a b c d : Int) (w : World) : (Instr.buildSlice 136 4 #[(0, .int .u8 a), (1, .int .u8 b), (2, .int .u8 c), (3, .int .u8 d)]).run Tryz.prog w = .ok (.slice (some ⟨w.heap.size, 0, none⟩) 4 4) (w.alloc (cellsO [.int .u8 a, .int .u8 b, .int .u8 c, .int .u8 d] 5)) := by kernel_rfl
theorem noEsc (v : Value) (w : World) : (callFunc 103 #[v]).run Tryz.prog w = .ok (.value v) w := by kernel_rfl
/-- What a function answers that writes behind a row of bytes. -/
def BwP (us : List Int) : Value → List Part → List Fact → Prop := fun v Lo fs => ∃ p, Row 5 1 v us.length (ints .u8 us) p ∧ Lo = [p] ∧ fs = []

set_option maxRecDepth 10000 in
theorem appNon_s (v : Value) (us : List Int) (p : Part) (r : Int) (hr : Row 5 1 v us.length (ints .u8 us) p) (hb : us.length ≤ 1073741824) (hn : ¬ IntKind.u32.wrap r ≤ 127) : Sp Tryz.prog 104 [v, .int .i32 r] [p] [] (BwP (us ++ encI r)) := by
 refine Sp.of (n := 78) ⟨_, Tryz.func104, rfl, rfl, rfl, rfl⟩ (Nat.le_of_ble_eq_true rfl) fun Ps As => WC_seq (WC_region (Lq (q_assign rfl) (WL_nil (thenN (WC_seq (WC_region (Lq (q_move rfl) (Lq (q_conv rfl (cv32 _)) (Lq (q_assign rfl) (WL_nil (thenN (WC_block (WC_seq (WC_region (Lq (q_move rfl) (Lq (q_leq rfl rfl) ?_))))))))))))))))
 refine Lq (q_assign rfl) (WL_nil (thenN (WC_cond rfl (fun h11 => ?_) (fun h11 => ?_))))
 ·refine WC_seq (WC_region (Lq (q_move rfl) (Lq (q_move rfl) (Lq (q_shr rfl rfl (by decide) rfl) (Lq (q_conv rfl (cv8 _)) (Lq (q_or rfl rfl rfl) (Lq (q_move rfl) (Lq (q_conv rfl (cv8 _)) (Lq (q_and rfl rfl rfl) (Lq (q_or rfl rfl rfl) ?_))))))))))
  refine WL_main rfl (OW_sliceM (cs := [_, _]) (.cons rfl (.cons rfl (.nil))) (fun w => bs122_2 _ _  w) (by decide) fun b23 => WL_main rfl (OW_appendM (m := 2) (news := [_, _]) Un136 ti5 rfl (by decide) rfl rfl hr own0 rfl rfl (by omega) (by unfold maxLen; omega) (by decide) (DelAt.perm (.s (.z))) fun v24 p24 hr24 => Lq (q_assign rfl) (WL_nil (thenN (WC_ret (blockRet ?_))))))
  refine ⟨_, [_], [], fun Z w hs => .tmp rfl (.nil), ?_, fun Z w hs => hs.out (Sk (Sd (Sr))) (fun _ h => h)⟩
  try simp only [Bp, Bq] at *
  refine ⟨_, ?_, rfl, rfl⟩
  unfold encI
  rw [if_neg (by omega), if_pos (by omega)]
  rw [List.length_append, ints_append]
  exact hr24
 ·refine WC_seq (WC_seq (WC_region (Lq (q_move rfl) (Lq (q_lss rfl rfl) (Lq (q_assign rfl) (WL_nil (thenN (WC_cond rfl (fun h25 => ?_) (fun h25 => ?_)))))))))
  ·refine WC_skip (thenN (WC_true rfl h25 (WC_seq (WC_region (Lq (q_move rfl) (Lq (q_move rfl) (Lq (q_shr rfl rfl (by decide) rfl) (Lq (q_conv rfl (cv8 _)) (Lq (q_or rfl rfl rfl) (Lq (q_move rfl) (Lq (q_shr rfl rfl (by decide) rfl) ?_)))))))))))
   refine Lq (q_conv rfl (cv8 _)) (Lq (q_and rfl rfl rfl) (Lq (q_or rfl rfl rfl) (Lq (q_move rfl) (Lq (q_conv rfl (cv8 _)) (Lq (q_and rfl rfl rfl) (Lq (q_or rfl rfl rfl) (WL_main rfl (OW_sliceM (cs := [_, _, _]) (.cons rfl (.cons rfl (.cons rfl (.nil)))) (fun w => bs122_3 _ _ _  w) (by decide) fun b48 => WL_main rfl (OW_appendM (m := 3) (news := [_, _, _]) Un136 ti5 rfl (by decide) rfl rfl hr own0 rfl rfl (by omega) (by unfold maxLen; omega) (by decide) (DelAt.perm (.s (.z))) fun v49 p49 hr49 => Lq (q_assign rfl) ?_)))))))))
   refine WL_nil (thenN (WC_ret (blockRet ?_)))
   refine ⟨_, [_], [], fun Z w hs => .tmp rfl (.nil), ?_, fun Z w hs => hs.out (Sk (Sd (Sr))) (fun _ h => h)⟩
   try simp only [Bp, Bq] at *
   refine ⟨_, ?_, rfl, rfl⟩
   unfold encI
   rw [if_neg (by omega), if_neg (by omega), if_pos (by omega)]
   rw [List.length_append, ints_append]
   exact hr49
  ·refine WC_region (Lq (q_move rfl) (Lq (q_lss rfl rfl) (Lq (q_move rfl) (WL_guard (t := 30) rfl (fun g30 => ?_) (fun g30 => ?_)))))
   ·refine Lg rfl rfl rfl g30 (q_move rfl) (Lg rfl rfl rfl g30 (q_leq rfl rfl) (Lq (q_pickT rfl g30 rfl) (Lq (q_assign rfl) (WL_nil (thenN (WC_cond rfl (fun h25 => ?_) (fun h25 => ?_)))))))
    ·refine WC_seq (WC_region (Lq (q_move rfl) (Lq (q_move rfl) (Lq (q_shr rfl rfl (by decide) rfl) (Lq (q_conv rfl (cv8 _)) (Lq (q_or rfl rfl rfl) (Lq (q_move rfl) (Lq (q_shr rfl rfl (by decide) rfl) (Lq (q_conv rfl (cv8 _)) (Lq (q_and rfl rfl rfl) ?_))))))))))
     refine Lq (q_or rfl rfl rfl) (Lq (q_move rfl) (Lq (q_conv rfl (cv8 _)) (Lq (q_and rfl rfl rfl) (Lq (q_or rfl rfl rfl) (WL_main rfl (OW_sliceM (cs := [_, _, _]) (.cons rfl (.cons rfl (.cons rfl (.nil)))) (fun w => bs122_3 _ _ _  w) (by decide) fun b48 => WL_main rfl (OW_appendM (m := 3) (news := [_, _, _]) Un136 ti5 rfl (by decide) rfl rfl hr own0 rfl rfl (by omega) (by unfold maxLen; omega) (by decide) (DelAt.perm (.s (.z))) fun v49 p49 hr49 => Lq (q_assign rfl) (WL_nil (thenN (WC_ret (blockRet ?_)))))))))))
     refine ⟨_, [_], [], fun Z w hs => .tmp rfl (.nil), ?_, fun Z w hs => hs.out (Sk (Sd (Sr))) (fun _ h => h)⟩
     try simp only [Bp, Bq] at *
     refine ⟨_, ?_, rfl, rfl⟩
     unfold encI
     rw [if_neg (by omega), if_neg (by omega), if_pos (by omega)]
     rw [List.length_append, ints_append]
     exact hr49
    ·refine WC_seq (WC_region (Lq (q_move rfl) (Lq (q_gtr rfl rfl) (Lq (q_move rfl) (WL_guard (t := 53) rfl (fun g53 => ?_) (fun g53 => ?_))))))
     ·refine Lg rfl rfl rfl g53 (q_move rfl) (Lg rfl rfl rfl g53 (q_leq rfl rfl) (Lq (q_pickT rfl g53 rfl) (Lq (q_assign rfl) (WL_nil (thenN (WC_cond rfl (fun h50 => ?_) (fun h50 => ?_)))))))
      ·refine WC_seq (WC_region (Lq (q_move rfl) (Lq (q_move rfl) (Lq (q_shr rfl rfl (by decide) rfl) (Lq (q_conv rfl (cv8 _)) (Lq (q_or rfl rfl rfl) (Lq (q_move rfl) (Lq (q_shr rfl rfl (by decide) rfl) (Lq (q_conv rfl (cv8 _)) (Lq (q_and rfl rfl rfl) ?_))))))))))
       refine Lq (q_or rfl rfl rfl) (Lq (q_move rfl) (Lq (q_shr rfl rfl (by decide) rfl) (Lq (q_conv rfl (cv8 _)) (Lq (q_and rfl rfl rfl) (Lq (q_or rfl rfl rfl) (Lq (q_move rfl) (Lq (q_conv rfl (cv8 _)) (Lq (q_and rfl rfl rfl) (Lq (q_or rfl rfl rfl) ?_)))))))))
       refine WL_main rfl (OW_sliceM (cs := [_, _, _, _]) (.cons rfl (.cons rfl (.cons rfl (.cons rfl (.nil))))) (fun w => bs122_4 _ _ _ _  w) (by decide) fun b76 => WL_main rfl (OW_appendM (m := 4) (news := [_, _, _, _]) Un136 ti5 rfl (by decide) rfl rfl hr own0 rfl rfl (by omega) (by unfold maxLen; omega) (by decide) (DelAt.perm (.s (.z))) fun v77 p77 hr77 => Lq (q_assign rfl) (WL_nil (thenN (WC_ret (blockRet ?_))))))
       refine ⟨_, [_], [], fun Z w hs => .tmp rfl (.nil), ?_, fun Z w hs => hs.out (Sk (Sd (Sr))) (fun _ h => h)⟩
       try simp only [Bp, Bq] at *
       refine ⟨_, ?_, rfl, rfl⟩
       unfold encI
       rw [if_neg (by omega), if_neg (by omega), if_neg (by omega), if_pos (by omega)]
       rw [List.length_append, ints_append]
       exact hr77
      ·refine WC_seq (WC_region (Lq (q_move rfl) (WL_main rfl (OW_sliceM (cs := [_, _, _]) (.cons rfl (.cons rfl (.cons rfl (.nil)))) (fun w => bs122_3 _ _ _  w) (by decide) fun b9 => WL_main rfl (OW_appendM (m := 3) (news := [_, _, _]) Un136 ti5 rfl (by decide) rfl rfl hr own0 rfl rfl (by omega) (by unfold maxLen; omega) (by decide) (DelAt.perm (.s (.z))) fun v10 p10 hr10 => Lq (q_assign rfl) (WL_nil (thenN (WC_ret (blockRet ?_)))))))))
       refine ⟨_, [_], [], fun Z w hs => .tmp rfl (.nil), ?_, fun Z w hs => hs.out (Sk (Sd (Sr))) (fun _ h => h)⟩
       try simp only [Bp, Bq] at *
       refine ⟨_, ?_, rfl, rfl⟩
       unfold encI
       rw [if_neg (by omega), if_neg (by omega), if_neg (by omega), if_neg (by omega)]
       rw [List.length_append, ints_append]
       exact hr10
     ·refine Ln rfl rfl rfl g53 (Ln rfl rfl rfl g53 (Lq (q_pickF rfl g53 rfl) (Lq (q_assign rfl) (WL_nil (thenN (WC_false rfl rfl (WC_seq (WC_region (Lq (q_move rfl) (WL_main rfl (OW_sliceM (cs := [_, _, _]) (.cons rfl (.cons rfl (.cons rfl (.nil)))) (fun w => bs122_3 _ _ _  w) (by decide) fun b9 => WL_main rfl (OW_appendM (m := 3) (news := [_, _, _]) Un136 ti5 rfl (by decide) rfl rfl hr own0 rfl rfl (by omega) (by unfold maxLen; omega) (by decide) (DelAt.perm (.s (.z))) fun v10 p10 hr10 => Lq (q_assign rfl) (WL_nil (thenN (WC_ret (blockRet ?_))))))))))))))))
      refine ⟨_, [_], [], fun Z w hs => .tmp rfl (.nil), ?_, fun Z w hs => hs.out (Sk (Sd (Sr))) (fun _ h => h)⟩
      try simp only [Bp, Bq] at *
      refine ⟨_, ?_, rfl, rfl⟩
      unfold encI
      rw [if_neg (by omega), if_neg (by omega), if_neg (by omega), if_neg (by omega)]
      rw [List.length_append, ints_append]
      exact hr10
   ·refine Ln rfl rfl rfl g30 (Ln rfl rfl rfl g30 (Lq (q_pickF rfl g30 rfl) (Lq (q_assign rfl) (WL_nil (thenN (WC_false rfl rfl (WC_seq (WC_region (Lq (q_move rfl) (Lq (q_gtr rfl rfl) (Lq (q_move rfl) (WL_guard (t := 53) rfl (fun g53 => ?_) (fun g53 => ?_)))))))))))))
    ·refine Lg rfl rfl rfl g53 (q_move rfl) (Lg rfl rfl rfl g53 (q_leq rfl rfl) (Lq (q_pickT rfl g53 rfl) (Lq (q_assign rfl) (WL_nil (thenN (WC_cond rfl (fun h50 => ?_) (fun h50 => ?_)))))))
     ·refine WC_seq (WC_region (Lq (q_move rfl) (Lq (q_move rfl) (Lq (q_shr rfl rfl (by decide) rfl) (Lq (q_conv rfl (cv8 _)) (Lq (q_or rfl rfl rfl) (Lq (q_move rfl) (Lq (q_shr rfl rfl (by decide) rfl) (Lq (q_conv rfl (cv8 _)) (Lq (q_and rfl rfl rfl) ?_))))))))))
      refine Lq (q_or rfl rfl rfl) (Lq (q_move rfl) (Lq (q_shr rfl rfl (by decide) rfl) (Lq (q_conv rfl (cv8 _)) (Lq (q_and rfl rfl rfl) (Lq (q_or rfl rfl rfl) (Lq (q_move rfl) (Lq (q_conv rfl (cv8 _)) (Lq (q_and rfl rfl rfl) (Lq (q_or rfl rfl rfl) ?_)))))))))
      refine WL_main rfl (OW_sliceM (cs := [_, _, _, _]) (.cons rfl (.cons rfl (.cons rfl (.cons rfl (.nil))))) (fun w => bs122_4 _ _ _ _  w) (by decide) fun b76 => WL_main rfl (OW_appendM (m := 4) (news := [_, _, _, _]) Un136 ti5 rfl (by decide) rfl rfl hr own0 rfl rfl (by omega) (by unfold maxLen; omega) (by decide) (DelAt.perm (.s (.z))) fun v77 p77 hr77 => Lq (q_assign rfl) (WL_nil (thenN (WC_ret (blockRet ?_))))))
      refine ⟨_, [_], [], fun Z w hs => .tmp rfl (.nil), ?_, fun Z w hs => hs.out (Sk (Sd (Sr))) (fun _ h => h)⟩
      try simp only [Bp, Bq] at *
      refine ⟨_, ?_, rfl, rfl⟩
      unfold encI
      rw [if_neg (by omega), if_neg (by omega), if_neg (by omega), if_pos (by omega)]
      rw [List.length_append, ints_append]
      exact hr77
     ·refine WC_seq (WC_region (Lq (q_move rfl) (WL_main rfl (OW_sliceM (cs := [_, _, _]) (.cons rfl (.cons rfl (.cons rfl (.nil)))) (fun w => bs122_3 _ _ _  w) (by decide) fun b9 => WL_main rfl (OW_appendM (m := 3) (news := [_, _, _]) Un136 ti5 rfl (by decide) rfl rfl hr own0 rfl rfl (by omega) (by unfold maxLen; omega) (by decide) (DelAt.perm (.s (.z))) fun v10 p10 hr10 => Lq (q_assign rfl) (WL_nil (thenN (WC_ret (blockRet ?_)))))))))
      refine ⟨_, [_], [], fun Z w hs => .tmp rfl (.nil), ?_, fun Z w hs => hs.out (Sk (Sd (Sr))) (fun _ h => h)⟩
      try simp only [Bp, Bq] at *
      refine ⟨_, ?_, rfl, rfl⟩
      unfold encI
      rw [if_neg (by omega), if_neg (by omega), if_neg (by omega), if_neg (by omega)]
      rw [List.length_append, ints_append]
      exact hr10
    ·refine Ln rfl rfl rfl g53 (Ln rfl rfl rfl g53 (Lq (q_pickF rfl g53 rfl) (Lq (q_assign rfl) (WL_nil (thenN (WC_false rfl rfl (WC_seq (WC_region (Lq (q_move rfl) (WL_main rfl (OW_sliceM (cs := [_, _, _]) (.cons rfl (.cons rfl (.cons rfl (.nil)))) (fun w => bs122_3 _ _ _  w) (by decide) fun b9 => WL_main rfl (OW_appendM (m := 3) (news := [_, _, _]) Un136 ti5 rfl (by decide) rfl rfl hr own0 rfl rfl (by omega) (by unfold maxLen; omega) (by decide) (DelAt.perm (.s (.z))) fun v10 p10 hr10 => Lq (q_assign rfl) (WL_nil (thenN (WC_ret (blockRet ?_))))))))))))))))
     refine ⟨_, [_], [], fun Z w hs => .tmp rfl (.nil), ?_, fun Z w hs => hs.out (Sk (Sd (Sr))) (fun _ h => h)⟩
     try simp only [Bp, Bq] at *
     refine ⟨_, ?_, rfl, rfl⟩
     unfold encI
     rw [if_neg (by omega), if_neg (by omega), if_neg (by omega), if_neg (by omega)]
     rw [List.length_append, ints_append]
     exact hr10


set_option maxRecDepth 10000 in
theorem appRune_s (v : Value) (us : List Int) (p : Part) (r : Int) (hr : Row 5 1 v us.length (ints .u8 us) p) (hb : us.length ≤ 1073741824) : Sp Tryz.prog 93 [v, .int .i32 r] [p] [] (BwP (us ++ encI r)) := by
 refine Sp.of (n := 16) ⟨_, Tryz.func93, rfl, rfl, rfl, rfl⟩ (Nat.le_of_ble_eq_true rfl) fun Ps As => WC_seq (WC_region (Lq (q_assign rfl) (WL_nil (thenN (WC_seq (WC_seq (WC_region (Lq (q_move rfl) (Lq (q_conv rfl (cv32 _)) (Lq (q_leq rfl rfl) (WL_nil (thenN (WC_cond rfl (fun h7 => ?_) (fun h7 => ?_))))))))))))))
 ·refine WC_seq (WC_region (Lq (q_move rfl) (Lq (q_move rfl) (Lq (q_conv rfl (cv8 _)) (WL_main rfl (OW_slice1 (cs := [_]) Un136 ti5 (by decide) (by decide) rfl rfl rfl rfl (by decide) fun b11 => WL_main rfl (OW_append1 (news := [_]) Un136 ti5 rfl (by decide) rfl rfl hr own0 rfl rfl (by omega) (by unfold maxLen; omega) (by decide) (DelAt.perm (.s (.z))) fun v12 p12 hr12 => Lq (q_assign rfl) (WL_nil (thenN (WC_ret (thenRet ?_)))))))))))
  refine ⟨_, [_], [], fun Z w hs => .tmp rfl (.nil), ?_, fun Z w hs => hs.out (Sk (Sd (Sr))) (fun _ h => h)⟩
  try simp only [Bp, Bq] at *
  refine ⟨_, ?_, rfl, rfl⟩
  unfold encI
  rw [if_pos (by omega)]
  rw [List.length_append, ints_append]
  exact hr12
 ·refine WC_skip (thenN (WC_seq (WC_region (Lq (q_move rfl) (Lq (q_move rfl) (WL_main rfl (OW_call1 (appNon_s v us p r hr hb (by simpa using h7)) (.cons rfl (.cons rfl (.nil))) (by decide) (.z) mem0 fun u3_2 Lo fs hres => ?_)))))))
  obtain ⟨p15, hr15, rfl, rfl⟩ := hres
  refine Lq (q_assign rfl) (WL_nil (thenN (WC_ret ?_)))
  refine ⟨_, [_], [], fun Z w hs => .tmp rfl (.nil), ?_, fun Z w hs => hs.out (Sk (Sr)) (fun _ h => h)⟩
  exact ⟨_, hr15, rfl, rfl⟩


set_option maxRecDepth 10000 in
theorem bcopy_0 (b : Nat) (v : Value) : Sp Tryz.prog 92 [.pointer (some ⟨b, 0, none⟩)] [blP b none v] [] (fun u Lo fs => u = .tuple #[] ∧ Lo = [blP b (some ⟨b, 0, none⟩) v] ∧ fs = []) := by
 refine Sp.of (n := 20) ⟨_, Tryz.func92, rfl, rfl, rfl, rfl⟩ (Nat.le_of_ble_eq_true rfl) fun Ps As => WC_seq (WC_region (Lq (q_move rfl) (Lq (q_nil rfl) (Lq (q_field (o' := 0) Un138 rfl ti135 rfl rfl) (Lq (q_load1 Un135 rfl rfl own0 rfl) (Lq (q_peql Un135 rfl rfl (by simp)) (WL_nil (thenN (WC_true rfl rfl (WC_region (Lq (q_move rfl) (Lq (q_move rfl) ?_))))))))))))
 refine Lq (q_toUnsafe (j := _) Un135 Un177 rfl (by decide) rfl own0 (Nat.succ_pos _)) (Lq (q_extern (noEsc _) rfl) (Lq (q_fromUnsafe (j := _) Un177 Un135 rfl rfl own0 (by kernel_rfl)) (Lq (q_nil rfl) (Lq (q_field (o' := 0) Un138 rfl ti135 rfl rfl) (WL_main rfl (OW_store1 ti135 rfl rfl rfl (.z) (.z) (WL_nil ?_)))))))
 refine ⟨_, [_], [], fun Z w hs => .nil, ?_, fun Z w hs => hs.out (Sk (Sr)) (fun _ h => h)⟩
 exact ⟨rfl, rfl, rfl⟩


set_option maxRecDepth 10000 in
theorem bcopy_1 (b : Nat) (v : Value) : Sp Tryz.prog 92 [.pointer (some ⟨b, 0, none⟩)] [blP b (some ⟨b, 0, none⟩) v] [] (fun u Lo fs => u = .tuple #[] ∧ Lo = [blP b (some ⟨b, 0, none⟩) v] ∧ fs = []) := by
 refine Sp.of (n := 20) ⟨_, Tryz.func92, rfl, rfl, rfl, rfl⟩ (Nat.le_of_ble_eq_true rfl) fun Ps As => WC_seq (WC_region (Lq (q_move rfl) (Lq (q_nil rfl) (Lq (q_field (o' := 0) Un138 rfl ti135 rfl rfl) (Lq (q_load1 Un135 rfl rfl own0 rfl) (Lq (q_peql Un135 rfl rfl (by simp)) (WL_nil (thenN (WC_false rfl rfl (WC_seq (WC_region (Lq (q_move rfl) (Lq (q_nil rfl) ?_)))))))))))))
 refine Lq (q_field (o' := 0) Un138 rfl ti135 rfl rfl) (Lq (q_load1 Un135 rfl rfl own0 rfl) (Lq (q_move rfl) (Lq (q_pneqSame (j := _) Un135 rfl rfl rfl) (WL_nil (thenN (WC_false rfl rfl (WC_skip ?_)))))))
 refine ⟨_, [_], [], fun Z w hs => .nil, ?_, fun Z w hs => hs.out (Sk (Sr)) (fun _ h => h)⟩
 exact ⟨rfl, rfl, rfl⟩

theorem bcopy_s (b : Nat) (ad : Option Addr) (v : Value) (h : ad = none ∨ ad = some ⟨b, 0, none⟩) : Sp Tryz.prog 92 [.pointer (some ⟨b, 0, none⟩)] [blP b ad v] [] (fun u Lo fs => u = .tuple #[] ∧ Lo = [blP b (some ⟨b, 0, none⟩) v] ∧ fs = []) := by
 rcases h with rfl | rfl
 ·exact bcopy_0 b v
 ·exact bcopy_1 b v

set_option maxRecDepth 10000 in
theorem bwrite_s (b : Nat) (ad : Option Addr) (v : Value) (us : List Int) (p : Part) (r : Int) (had : ad = none ∨ ad = some ⟨b, 0, none⟩) (hr : Row 5 1 v us.length (ints .u8 us) p) (hb : us.length ≤ 1073741824) : Sp Tryz.prog 70 [.pointer (some ⟨b, 0, none⟩), .int .i32 r] [blP b ad v, p] [] (fun u Lo fs => ∃ v' p', Row 5 1 v' (us ++ encI r).length (ints .u8 (us ++ encI r)) p' ∧ Lo = [blP b (some ⟨b, 0, none⟩) v', p'] ∧ fs = []) := by
 have hel := encI_len r
 obtain ⟨Av, cv, rfl⟩ := hr.slice
 refine Sp.of (n := 30) ⟨_, Tryz.func70, rfl, rfl, rfl, rfl⟩ (Nat.le_of_ble_eq_true rfl) fun Ps As => WC_seq (WC_region (Lq (q_assign rfl) (Lq (q_assign rfl) (WL_nil (thenN (WC_seq (WC_region (Lq (q_move rfl) (WL_main rfl (OW_call1 (bcopy_s b ad _ had) (.cons rfl (.nil)) (by decide) (.z) mem0 fun u1_1 Lo fs hres => ?_))))))))))
 obtain ⟨rfl, rfl, rfl⟩ := hres
 refine WL_nil (thenN (WC_seq (WC_region (Lq (q_move rfl) (Lq (q_nil rfl) (Lq (q_field (o' := 1) Un138 rfl ti136 rfl rfl) (Lq (q_load1 Un136 rfl rfl own0 rfl) (Lq (q_len Un136 rfl) (Lq (q_assign rfl) (WL_nil (thenN (WC_seq (WC_region (Lq (q_move rfl) (Lq (q_move rfl) ?_)))))))))))))))
 refine Lq (q_nil rfl) (Lq (q_field (o' := 1) Un138 rfl ti136 rfl rfl) (Lq (q_load1 Un136 rfl rfl own0 rfl) (Lq (q_move rfl) (WL_main rfl (OW_call1 (appRune_s _ us p r hr hb) (.cons rfl (.cons rfl (.nil))) (by decide) (.s (.z)) mem0 fun u3_6 Lo fs hres => ?_)))))
 obtain ⟨p2, hr2, rfl, rfl⟩ := hres
 obtain ⟨A2, c2, rfl⟩ := hr2.slice
 refine Lq (q_nil rfl) (Lq (q_field (o' := 1) Un138 rfl ti136 rfl rfl) (WL_main rfl (OW_store1 ti136 rfl rfl rfl (.s (.z)) (.s (.z)) (WL_nil (thenN (WC_fr [(6, _), (5, _), (4, _), (0, _)] (.cons rfl (.cons rfl (.cons rfl (.cons rfl (.nil _))))) (WC_seq (WC_pick (.z) (WC_pick (.s (.z)) (WC_region (Lq (q_move rfl) ?_)))))))))))
 refine Lq (q_nil rfl) (Lq (q_field (o' := 1) Un138 rfl ti136 rfl rfl) (Lq (q_load1 Un136 rfl rfl own0 rfl) (Lq (q_len Un136 rfl) (Lq (q_move rfl) (Lq (q_sub rfl rfl rfl) (Lq (q_assign rfl) (Lq (q_assign rfl) (WL_nil (thenN (WC_ret ?_))))))))))
 refine ⟨_, [_, _], [], fun Z w hs => .tmp rfl (.tmp rfl (.nil)), ?_, fun Z w hs => hs.out (Sk (Sk (Sr))) (fun _ h => h)⟩
 exact ⟨_, _, hr2, rfl, rfl⟩


set_option maxRecDepth 10000 in
theorem bstr_s (b : Nat) (ad : Option Addr) (v : Value) (us : List Int) (p : Part) (hr : Row 5 1 v us.length (ints .u8 us) p) (hb : us.length ≤ 1073741824) (hby : By us) (hne : us ≠ []) : Sp Tryz.prog 71 [.pointer (some ⟨b, 0, none⟩)] [blP b ad v, p] [] (fun u Lo fs => u = .string (strOf us) ∧ Lo = [blP b ad v] ∧ fs = []) := by
 have hl0 := List.length_pos_iff.2 hne
 obtain ⟨hl, ⟨_, h0, _⟩ | ⟨bb, cap, jk, rfl, rfl, h1, h2, h3⟩⟩ := hr
 ·omega
 refine Sp.of (n := 14) ⟨_, Tryz.func71, rfl, rfl, rfl, rfl⟩ (Nat.le_of_ble_eq_true rfl) fun Ps As => WC_seq (WC_region (Lq (q_assign rfl) (WL_nil (thenN (WC_seq (WC_draw _ _ [] (.c 0 0 (.c 1 0 (.c 2 0 (.c 3 0 (.c 4 0 (.c 5 0 (.c 6 0 (.c 7 0 (.c 8 0 (.c 9 0 (.c 10 2 (.c 11 0 .nil)))))))))))) mixed (fun _ _ _ _ h => h) (Sk (Sd (Sr))) (fun _ h => h) (by kernel_rfl) (by decide) fun ws Z0 => Qe rfl (q_move rfl) (Qe rfl (q_nil rfl) (Qe rfl (q_field (o' := 1) Un138 rfl ti136 rfl rfl) (Qe rfl (q_load1 Un136 rfl rfl own0 rfl) (Qe rfl (q_sliceData (by omega) rfl) ?_))))))))))
 refine Qe rfl (q_move rfl) (Qe rfl (q_nil rfl) (Qe rfl (q_field (o' := 1) Un138 rfl ti136 rfl rfl) (Qe rfl (q_load1 Un136 rfl rfl own0 rfl) (Qe rfl (q_len Un136 rfl) (WE_main rfl rfl (OW_unsafeString (e := 5) (T := 5) Un166 rfl hby hne (by omega) rfl rfl (by decide) (.s (.z)) ?_))))))
 refine ⟨⟨(Sk (Sr)), M0⟩, ?_⟩
 refine Qe rfl (q_assign rfl) (WE_end (WF_nil (thenN (WC_ret ?_))))
 refine ⟨_, [_], [], fun Z w hs => .tmp rfl (.nil), ?_, fun Z w hs => hs.out (Sk (Sr)) T1⟩
 exact ⟨rfl, rfl, rfl⟩

end Go.Proofs.YtcjbjkbghgjmdaaGreatDoor
/- Runs of a row of cells, plain. -/
namespace Go.Proofs.YtcjbjkbghgjmdaaGreatDoor
open Go Go.GW
abbrev Rn := ByteArray × Int
def runC (x : Rn) : List Value := [.string x.1, .int .i64 x.2]
structure RS where
 rs : List Rn
 hid : Int
 bs : List Int
def flushF (s : RS) : RS := if s.bs = [] then s else ⟨s.rs ++ [(strOf s.bs, s.hid)], s.hid, []⟩
def turnR (s : RS) (hid : Int) : RS := if hid = s.hid then s else { flushF s with hid := hid }
def pieceF (s : RS) (rs : List Int) (hid : Int) : RS := { turnR s hid with bs := (turnR s hid).bs ++ rs.flatMap encI }
theorem by_nil : By [] := fun x hx => by cases hx
/-- How much a row's runs hold. -/
structure RsB (s : RS) (n : Nat) : Prop where
 by_ : By s.bs
 bl : s.bs.length ≤ 4 * n
 rl : s.rs.length + (if s.bs = [] then 0 else 1) ≤ n
theorem RsB.flush {s : RS} {n : Nat} (h : RsB s n) : RsB (flushF s) n ∧ (flushF s).rs.length ≤ n := by
 have hr := h.rl
 unfold flushF
 split
 ·rename_i hb
  exact ⟨h, by rw [if_pos hb] at hr; omega⟩
 ·rename_i hb
  rw [if_neg hb] at hr
  exact ⟨⟨by_nil, by simp, by simpa using hr⟩, by simpa using hr⟩
theorem RsB.turn {s : RS} {n : Nat} (h : RsB s n) (hid : Int) : RsB (turnR s hid) n := by
 unfold turnR
 split
 ·exact h
 ·exact ⟨h.flush.1.by_, h.flush.1.bl, h.flush.1.rl⟩
theorem flat_by : ∀ rs : List Int, By (rs.flatMap encI)
 | [] => by_nil
 | r :: rs => by rw [List.flatMap_cons]; exact by_append (encI_by r) (flat_by rs)
theorem flat_len4 : ∀ rs : List Int, (rs.flatMap encI).length ≤ 4 * rs.length
 | [] => by simp
 | r :: rs => by
  have := flat_len4 rs; have := encI_len r
  rw [List.flatMap_cons, List.length_append, List.length_cons]; omega
theorem RsB.piece {s : RS} {n : Nat} (h : RsB s n) {rs : List Int} (hid : Int) (hne : rs ≠ []) : RsB (pieceF s rs hid) (n + rs.length) := by
 have ht := h.turn hid
 have h4 := flat_len4 rs
 have hl := List.length_pos_iff.2 hne
 have hb := ht.bl
 have hr := ht.rl
 refine ⟨by_append ht.by_ (flat_by rs), ?_, ?_⟩
 ·show ((turnR s hid).bs ++ rs.flatMap encI).length ≤ _
  rw [List.length_append]; omega
 ·show (turnR s hid).rs.length + _ ≤ _
  split at hr <;> split <;> omega
abbrev hcP (b : Nat) (x : Int) : Part := [(b, cellsO [.int .i64 x] 3)]
structure RunS (bB : Nat) (s : RS) (ad : Option Addr) (v : Value) (p : Part) (rv : Value) (rp : Part) : Prop where
 ad : ad = none ∨ ad = some ⟨bB, 0, none⟩
 row : Row 5 1 v s.bs.length (ints .u8 s.bs) p
 rr : Row 90127 2 rv s.rs.length (flatC runC s.rs) rp
end Go.Proofs.YtcjbjkbghgjmdaaGreatDoor
/- The text of a row: the visible cells' runes, plain. -/
namespace Go.Proofs.YtcjbjkbghgjmdaaGreatDoor
open Go Go.GW
def visF (X : List Ce) : List Int := (X.filter fun c => decide (c.2 = 0)).map (·.1)
def visN (X : List Ce) : Nat := X.countP fun c => decide (c.2 = 0)
def vbs (X : List Ce) : List Int := (visF X).flatMap encI
def textF (X : List Ce) : ByteArray := strOf (vbs X)
theorem visF_length (X : List Ce) : (visF X).length = visN X := by unfold visF visN; rw [List.length_map, List.countP_eq_length_filter]
theorem visF_append (X Y : List Ce) : visF (X ++ Y) = visF X ++ visF Y := by unfold visF; simp
theorem visN_append (X Y : List Ce) : visN (X ++ Y) = visN X + visN Y := by unfold visN; rw [List.countP_append]
theorem visN_le (X : List Ce) : visN X ≤ X.length := List.countP_le_length
theorem vbs_append (X Y : List Ce) : vbs (X ++ Y) = vbs X ++ vbs Y := by unfold vbs; rw [visF_append, List.flatMap_append]
theorem visF_cells (rs : List Int) : visF (cellsOf rs 0) = rs := by
 unfold visF cellsOf
 rw [List.filter_eq_self.2 (by simp), List.map_map]
 exact List.map_id _
theorem visF_hid {X : List Ce} (h : ∀ c ∈ X, c.2 ≠ 0) : visF X = [] := by
 unfold visF
 rw [List.filter_eq_nil_iff.2 (by simpa using h)]; rfl
theorem visN_hid {X : List Ce} (h : ∀ c ∈ X, c.2 ≠ 0) : visN X = 0 := by rw [← visF_length, visF_hid h]; rfl
theorem cells_hid (rs : List Int) {hid : Int} (h : hid ≠ 0) : ∀ c ∈ cellsOf rs hid, c.2 ≠ 0 := fun c hc => by
 unfold cellsOf at hc
 obtain ⟨x, _, rfl⟩ := List.mem_map.1 hc
 exact h
theorem vbs_by (X : List Ce) : By (vbs X) := flat_by _
theorem vbs_len (X : List Ce) : (vbs X).length ≤ 4 * X.length := by
 have h1 := flat_len4 (visF X)
 have h2 := visN_le X
 rw [← visF_length] at h2
 unfold vbs; omega
theorem visN_pre {X R : List Ce} (h : X <+: R) : visN X ≤ visN R := by
 obtain ⟨Y, rfl⟩ := h
 rw [visN_append]; omega
theorem visF_full {X R : List Ce} (h : X <+: R) (e : visN R ≤ visN X) : visF R = visF X := by
 obtain ⟨Y, rfl⟩ := h
 rw [visN_append] at e
 rw [visF_append, show visF Y = [] from List.length_eq_zero_iff.1 (by rw [visF_length]; omega), List.append_nil]
/-- What a tree's sums tell of it. -/
def shownF (s : Sm) : Int := if s.mn = 0 then s.am else 0
theorem Wf.shown {t : Tr} (h : Wf t) : shownF (allF t) = visN t.row := by
 cases t with
 | nil => rfl
 | nd s l rs hid r plus =>
  obtain ⟨h1, h2, h3, h4, h5, h6, h7⟩ := h
  obtain ⟨g1, g2, g3, g4, g5, g6⟩ := h5
  show shownF s = visN (up plus (l.row ++ (cellsOf rs hid ++ r.row)))
  unfold shownF
  by_cases hm : s.mn = 0
  ·rw [if_pos hm, g4, hm]; rfl
  ·rw [if_neg hm, visN_hid]; rfl
   intro c hc
   have := g2 c hc
   have := (h7 c hc).1
   obtain ⟨d, hd, e⟩ := g3
   have := (h7 d hd).1
   omega
theorem hid_of_shown {X : List Ce} (h : visN X = 0) : ∀ c ∈ X, c.2 ≠ 0 := fun c hc => by
 have := List.countP_eq_zero.1 h c hc
 simpa using this
/-- The first visible cell's place: all cells ahead of it are hidden. -/
structure Fst (X : List Ce) (k : Nat) : Prop where
 le : k ≤ X.length
 hid : ∀ c ∈ X.take k, c.2 ≠ 0
/-- Going down to it. -/
structure GoI (R : List Ce) (t : Tr) (k : Nat) : Prop where
 wf : Wf t
 pos : 0 < visN t.row
 at_ : ∃ B, R.drop k = t.row ++ B
 le : k ≤ R.length
 hid : ∀ c ∈ R.take k, c.2 ≠ 0
theorem GoI.zero {t : Tr} (wt : Wf t) (h : 0 < visN t.row) : GoI t.row t 0 := ⟨wt, h, ⟨[], by simp⟩, Nat.zero_le _, fun c hc => by simp at hc⟩
theorem GoI.ne {R : List Ce} {t : Tr} {k : Nat} (h : GoI R t k) : t ≠ .nil := fun e => by
 have := h.pos
 rw [e] at this
 exact absurd this (by simp [Tr.row, visN])
theorem GoI.bd {R : List Ce} {t : Tr} {k : Nat} (h : GoI R t k) : k + t.row.length ≤ R.length := by
 obtain ⟨B, hB⟩ := h.at_
 have := congrArg List.length hB
 rw [List.length_drop, List.length_append] at this
 have := h.le
 omega
theorem take_more {R A C : List Ce} {k : Nat} (hk : k ≤ R.length) (h : R.drop k = A ++ C) : R.take (k + A.length) = R.take k ++ A ∧ R.drop (k + A.length) = C ∧ k + A.length ≤ R.length := by
 have e : R = R.take k ++ (A ++ C) := by rw [← h, List.take_append_drop]
 have hl : (R.take k).length = k := by rw [List.length_take]; omega
 have h3 := congrArg List.length h
 rw [List.length_drop, List.length_append] at h3
 refine ⟨?_, ?_, by omega⟩
 ·conv => lhs; rw [e]
  rw [show k + A.length = (R.take k).length + A.length from by rw [hl], List.take_length_add_append, List.take_left]
 ·conv => lhs; rw [e]
  rw [show k + A.length = (R.take k).length + A.length from by rw [hl], List.drop_length_add_append, List.drop_left]
theorem GoI.left {R : List Ce} {t l : Tr} {k : Nat} {C : List Ce} (h : GoI R t k) (wl : Wf l) (e : t.row = l.row ++ C) (hp : 0 < visN l.row) : GoI R l k := by
 obtain ⟨B, hB⟩ := h.at_
 exact ⟨wl, hp, ⟨C ++ B, by rw [hB, e, List.append_assoc]⟩, h.le, h.hid⟩
theorem GoI.own {R : List Ce} {t : Tr} {k : Nat} {L C : List Ce} (h : GoI R t k) (e : t.row = L ++ C) (hz : visN L = 0) : Fst R (k + L.length) := by
 obtain ⟨B, hB⟩ := h.at_
 obtain ⟨t1, t2, t3⟩ := take_more (A := L) (C := C ++ B) h.le (by rw [hB, e, List.append_assoc])
 refine ⟨t3, fun c hc => ?_⟩
 rw [t1] at hc
 rcases List.mem_append.1 hc with hc | hc
 ·exact h.hid c hc
 ·exact hid_of_shown hz c hc
theorem GoI.right {R : List Ce} {t r : Tr} {k : Nat} {L M : List Ce} (h : GoI R t k) (wr : Wf r) (e : t.row = L ++ (M ++ r.row)) (hz : visN L = 0) (hm : ∀ c ∈ M, c.2 ≠ 0) : GoI R r (k + L.length + M.length) := by
 obtain ⟨B, hB⟩ := h.at_
 have hp := h.pos
 rw [e, visN_append, visN_append, hz, visN_hid hm] at hp
 obtain ⟨t1, t2, t3⟩ := take_more (A := L ++ M) (C := r.row ++ B) h.le (by rw [hB, e]; simp)
 rw [List.length_append, ← Nat.add_assoc] at t1 t2 t3
 refine ⟨wr, by omega, ⟨B, t2⟩, t3, fun c hc => ?_⟩
 rw [t1] at hc
 rcases List.mem_append.1 hc with hc | hc
 ·exact h.hid c hc
 ·rcases List.mem_append.1 hc with hc | hc
  ·exact hid_of_shown hz c hc
  ·exact hm c hc
/-- A visible piece lies behind. -/
theorem Fst.vis {R X : List Ce} {k : Nat} {rs : List Int} (h : Fst R k) (hne : rs ≠ []) (hp : X ++ cellsOf rs 0 <+: R) : k ≤ X.length := by
 rcases Nat.lt_or_ge X.length k with hlt | hge
 ·exfalso
  obtain ⟨Y, rfl⟩ := hp
  obtain ⟨r, rs, rfl⟩ := List.exists_cons_of_ne_nil hne
  refine h.hid (r, 0) ?_ rfl
  refine List.mem_of_getElem? (i := X.length) ?_
  rw [List.getElem?_take, if_pos hlt, List.append_assoc, List.getElem?_append_right (Nat.le_refl _), Nat.sub_self]; rfl
 ·exact hge
theorem Fst.skip {R X : List Ce} {k : Nat} (h : Fst R k) (hp : X <+: R) (hl : X.length ≤ k) : visF X = [] := by
 refine visF_hid fun c hc => h.hid c ?_
 obtain ⟨Y, rfl⟩ := hp
 rw [List.take_append, List.take_of_length_le hl]
 exact List.mem_append_left _ hc
end Go.Proofs.YtcjbjkbghgjmdaaGreatDoor
/- The order without an edit and its status commands: names, counters, text. -/
namespace Go.Proofs.YtcjbjkbghgjmdaaGreatDoor
open Go Go.GW
/-! ### An order that can be put command by command -/
structure OrdOk (L : List GOp) : Prop where
 ctx : CtxOk 0 L
 ids : (L.map fun o => (o.c, o.n)).Nodup
 idr : ∀ o ∈ L, rightF o.c o.n = true
 tgt : TgtOk [] L
 le : sumO L ≤ 60000
theorem Made.ord {n : Nat} {H : Hist} {X : List Ce} (h : Made n H X) (hn : n ≤ 1000) : OrdOk H.ops := by
 obtain ⟨v, r, l⟩ := h.inv hn
 refine ⟨v.ctx, ?_, ?_, (h.ci hn).tgt, by rw [← v.tot]; exact v.le⟩
 ·have := v.ids
  unfold Hist.ops
  rw [List.map_map]; exact this
 ·intro o ho
  obtain ⟨e, he, rfl⟩ := List.mem_map.1 ho
  exact v.idr e he
theorem OrdOk.next {L : List GOp} (h : OrdOk L) {k : Nat} {H1 : Hist} {X1 : List Ce} (h1 : Made k H1 X1) (hk1 : k ≤ 1000) (e : H1.ops = L.take k) {o : GOp} (ho : L[k]? = some o) : Good H1 k o := by
 have hk : k < L.length := by
  rcases Nat.lt_or_ge k L.length with h | h
  ·exact h
  ·rw [List.getElem?_eq_none h] at ho; cases ho
 rw [List.getElem?_eq_getElem hk] at ho
 obtain rfl := Option.some.inj ho
 obtain ⟨v1, r1, l1⟩ := h1.inv hk1
 have hsp : L = L.take k ++ (L[k] :: L.drop (k + 1)) := by rw [← List.drop_eq_getElem_cons hk, List.take_append_drop]
 have hb : beforeF H1 k = sumO (L.take k) := by
  rw [before_ops, e, List.take_of_length_le]
  rw [List.length_take]; omega
 have hc := h.ctx
 have ht := h.le
 rw [hsp, sumO_append] at ht
 rw [hsp, CtxOk.append, Int.zero_add] at hc
 simp only [sumO] at ht
 have h0 := sumO_nonneg hc.2.2
 have hT := h.tgt
 rw [hsp, TgtOk.append, List.nil_append] at hT
 have hid : ∀ p ∈ L.take k, ¬ (p.c = L[k].c ∧ p.n = L[k].n) := by
  intro p hp hh
  obtain ⟨j, hj, rfl⟩ := List.mem_iff_getElem.1 hp
  rw [List.length_take] at hj
  rw [List.getElem_take] at hh
  have := List.getElem_inj (h₀ := by rw [List.length_map]; omega) (h₁ := by rw [List.length_map]; exact hk) h.ids (i := j) (j := k)
  simp only [List.getElem_map, Prod.mk.injEq] at this
  have := this.1 hh
  omega
 refine ⟨by omega, by rw [hb]; exact hc.2.1, ?_, h.idr _ (List.getElem_mem hk), ?_, ?_⟩
 ·cases hw : whereId H1.ents L[k].c L[k].n with
  | none => rfl
  | some j =>
   obtain ⟨hj, g1, g2⟩ := whereId_some hw
   refine absurd ⟨g1, g2⟩ (hid H1.ents[j].op ?_)
   rw [← e]; exact List.mem_map.2 ⟨_, List.getElem_mem hj, rfl⟩
 ·intro h4
  obtain ⟨p, p1, p2, p3, p4⟩ := hT.2.1 h4
  rw [← e] at p1
  obtain ⟨x, hx, rfl⟩ := List.mem_map.1 p1
  obtain ⟨j, hj, rfl⟩ := List.mem_iff_getElem.1 hx
  refine ⟨j, ?_, by omega, H1.ents[j], List.getElem?_eq_getElem hj, p4⟩
  rw [← p2, ← p3]; exact whereId_of v1.ids hj
 ·have ht1 : H1.total = sumO (L.take k) := by rw [v1.tot, e]
  rw [ht1]; omega
theorem OrdOk.step {L : List GOp} (h : OrdOk L) {k : Nat} {H1 : Hist} {X1 : List Ce} {nx1 : List Int} (h1 : VI 1024 k H1 X1 nx1) (hL : L.length ≤ 200) (e : H1.ops = L.take k) {o : GOp} (ho : L[k]? = some o) :
  Good H1 k o ∧ o.text.size ≤ 1024 ∧ VI 1024 (k + 1) (putF H1 k o).1 (applyRow (putF H1 k o).2.1 X1) (nxF nx1 o.c o.n) ∧ (putF H1 k o).1.ops = L.take (k + 1) := by
 have hk : k < L.length := by
  rcases Nat.lt_or_ge k L.length with h | h
  ·exact h
  ·rw [List.getElem?_eq_none h] at ho; cases ho
 have g := h.next h1.made (by omega) e ho
 have hb := right_bd g.idr
 refine ⟨g, g.right.text, h1.step g (by omega) (Int.le_refl _) hb.2.2.2, ?_⟩
 have hl1 : H1.ops.length = k := by rw [e, List.length_take]; omega
 rw [List.getElem?_eq_getElem hk] at ho
 rw [h1.made.ops (by omega) g, List.take_of_length_le (by omega), List.drop_eq_nil_of_le (by omega), carry_nil, e, List.take_succ_eq_append_getElem hk, Option.some.inj ho]
 rfl
/-! ### Erasing -/
def stOf (d o : GOp) : Prop := o.kind = 4 ∧ o.tc = d.c ∧ o.tn = d.n
instance (d o : GOp) : Decidable (stOf d o) := by unfold stOf; infer_instance
/-- N' is N without the names D, which stand in one run. -/
def Gap (D N N' : List Nm) : Prop := ∃ P Q, N = P ++ (D ++ Q) ∧ N' = P ++ Q
/-- l' is l without d's status commands, each in the context N' for N. -/
inductive Er (d : GOp) : List Nm → List Nm → List GOp → List GOp → Prop
 | nil {N N' : List Nm} : Er d N N' [] []
 | skip {N N' : List Nm} {o : GOp} {l l' : List GOp} (h : stOf d o) (hr : Er d N N' l l') : Er d N N' (o :: l) l'
 | keep {N N' : List Nm} {o o' : GOp} {l l' : List GOp} (h : ¬ stOf d o) (hs : Same o o') (hn : namesOf o' N' = namesOf o N) (hw : Right N'.length o') (hg : Gap (blk d) (insRow o N) (insRow o' N')) (hr : Er d (insRow o N) (insRow o' N') l l') : Er d N N' (o :: l) (o' :: l')
abbrev Sg := Int × Bool × List (Option Nm)
/-- What each of an order's operations is, and what it is about. -/
def sgL (all : List GOp) : List Nm → List GOp → List Sg
 | _, [] => []
 | N, o :: l => (o.kind, lastOff o.c o.n false all, namesOf o N) :: sgL all (insRow o N) l
theorem sgL_append (all : List GOp) : ∀ (N : List Nm) (a b : List GOp), sgL all N (a ++ b) = sgL all N a ++ sgL all (rowN N a) b
 | N, [], b => rfl
 | N, o :: a, b => by simp only [List.cons_append, sgL, rowN]; rw [sgL_append all _ a b]
def hidS (s : Sg) : Bool := (decide (s.1 = 1) && s.2.1) || (decide (s.1 = 2) && !s.2.1)
def cntS (S : List Sg) (x : Nm) : Nat := S.countP fun s => hidS s && decide (some x ∈ s.2.2)
theorem ents_sg {ops : List GOp} {N0 : List Nm} : ∀ {es : List Ent} {N : List Nm}, es.map (nmE N0) = allN N (es.map (·.op)) → (∀ e ∈ es, e.off = lastOff e.op.c e.op.n false ops) → es.map (fun e => ((e.op.kind, e.off, nmE N0 e) : Sg)) = sgL ops N (es.map (·.op))
 | [], _, _, _ => rfl
 | e :: es, N, h, ho => by
  simp only [List.map_cons, allN, List.cons.injEq] at h
  simp only [List.map_cons, sgL, List.cons.injEq]
  refine ⟨?_, ents_sg h.2 fun x hx => ho x (List.mem_cons_of_mem _ hx)⟩
  rw [← ho e List.mem_cons_self, h.1]
theorem mem_nm {T : Int} {N : List Nm} (hN : N.Nodup) (hl : (N.length : Int) = T) {xs : List Rg} (hp : Pls T xs) {q : Nat} {x : Nm} (hx : N[q]? = some x) : some x ∈ (placesF xs).map (fun q => N[q.toNat]?) ↔ inRb q xs = true := by
 rw [inRb_iff, ← mem_places, List.mem_map]
 have hq : q < N.length := by
  rcases Nat.lt_or_ge q N.length with h | h
  ·exact h
  ·rw [List.getElem?_eq_none h] at hx; cases hx
 constructor
 ·rintro ⟨p, hp1, hp2⟩
  have h1 := hp.in (mem_places.1 hp1)
  rw [List.getElem?_eq_getElem (by omega)] at hp2
  rw [List.getElem?_eq_getElem hq] at hx
  have h2 : N[p.toNat] = N[q] := (Option.some.inj hp2).trans (Option.some.inj hx).symm
  have := (List.getElem_inj (h₀ := by omega) (h₁ := hq) hN).1 h2
  rw [show (q : Int) = p from by omega]; exact hp1
 ·intro h
  exact ⟨q, h, by rw [Int.toNat_natCast]; exact hx⟩
/-- A made history's counters, by names. -/
theorem Made.cnt {n : Nat} {H : Hist} {X : List Ce} (h : Made n H X) (hn : n ≤ 1000) {q : Nat} {x : Nm} (hx : (rowN [] H.ops)[q]? = some x) : cnt H.ents q = cntS (sgL H.ops [] H.ops) x := by
 obtain ⟨v, r, l⟩ := h.inv hn
 have I := h.ci hn
 have hN : (rowN [] H.ops).Nodup := rowN_nodup List.nodup_nil (h.ord hn).ids (fun x hx => by cases hx)
 have hl : ((rowN [] H.ops).length : Int) = H.total := by rw [rowN_len (w := 0) rfl v.ctx, v.tot]; omega
 have e := ents_sg (es := H.ents) (N := []) (ops := H.ops) (N0 := rowN [] H.ops) I.now I.off
 have e2 : H.ents.map (·.op) = H.ops := rfl
 rw [e2] at e
 rw [← e]
 unfold Proofs.YtcjbjkbghgjmdaaGreatDoor.cnt cntS
 rw [List.countP_map]
 refine List.countP_congr fun e he => ?_
 simp only [Function.comp, Bool.and_eq_true, decide_eq_true_eq]
 have hm := mem_nm hN hl (v.pls e he) hx
 show (hidE e = true ∧ inRb q e.now = true) ↔ (hidS (e.op.kind, e.off, nmE (rowN [] H.ops) e) = true ∧ some x ∈ nmE (rowN [] H.ops) e)
 unfold nmE
 rw [hm]; rfl
theorem Made.rune {n : Nat} {H : Hist} {X : List Ce} (h : Made n H X) (hn : n ≤ 1000) {q : Nat} {x : Nm} (hx : (rowN [] H.ops)[q]? = some x) : ∃ o ∈ H.ops, o.kind = 1 ∧ o.c = x.1 ∧ o.n = x.2.1 ∧ (X[q]?).map (·.1) = (runesF o.text)[x.2.2]? := by
 obtain ⟨v, r, l⟩ := h.inv hn
 have I := h.ci hn
 have M := h.mk hn
 have hl : ((rowN [] H.ops).length : Int) = H.total := by rw [rowN_len (w := 0) rfl v.ctx, v.tot]; omega
 have hq : q < (rowN [] H.ops).length := by
  rcases Nat.lt_or_ge q (rowN [] H.ops).length with h | h
  ·exact h
  ·rw [List.getElem?_eq_none h] at hx; cases hx
 have h1 := M.one q (by omega) (by omega)
 obtain ⟨s, hs, hm⟩ := List.countP_pos_iff.1 (show 0 < (sigs H.ents).countP (mkOf q) by omega)
 obtain ⟨e, he, rfl⟩ := List.mem_map.1 hs
 unfold mkOf at hm
 simp only [Bool.and_eq_true, decide_eq_true_eq] at hm
 have hk : e.op.kind = 1 := hm.1
 have hp := mem_places.2 (inRb_iff.1 hm.2)
 obtain ⟨k, hk1, hk2⟩ := List.mem_iff_getElem.1 hp
 have ht := M.text _ hs hm.1
 -- the names of e's places
 obtain ⟨j, hj, hje⟩ := List.mem_iff_getElem.1 he
 have hnow : nmE (rowN [] H.ops) e = (blk e.op).map some := by
  have h2 : ∀ (es : List Ent) (N : List Nm), es.map (nmE (rowN [] H.ops)) = allN N (es.map (·.op)) → ∀ e ∈ es, e.op.kind = 1 → nmE (rowN [] H.ops) e = (blk e.op).map some := by
   intro es
   induction es with
   | nil => intro N _ e he; cases he
   | cons a es ih =>
    intro N hh e he hk
    simp only [List.map_cons, allN, List.cons.injEq] at hh
    rcases List.mem_cons.1 he with rfl | he
    ·rw [hh.1]; unfold namesOf; rw [if_pos hk]
    ·exact ih _ hh.2 e he hk
  exact h2 H.ents [] I.now e he hk
 unfold nmE at hnow
 have e1 := congrArg (·[k]?) hnow
 have e2 := congrArg (·[k]?) ht
 simp only [List.getElem?_map] at e1 e2
 have hk3 : (placesF (sigE e).2.2)[k]? = some ((q : Nat) : Int) := by rw [List.getElem?_eq_getElem hk1, hk2]
 have hk4 : (placesF e.now)[k]? = some ((q : Nat) : Int) := hk3
 rw [hk4] at e1
 rw [hk3] at e2
 simp only [Option.map_some, Int.toNat_natCast] at e1 e2
 rw [hx] at e1
 have hblk : (blk e.op)[k]? = some x := by
  cases hb : (blk e.op)[k]? with
  | none => rw [hb] at e1; cases e1
  | some y => rw [hb] at e1; simp only [Option.map_some, Option.some.injEq] at e1; rw [e1]
 have hbx := blk_mem (List.mem_of_getElem? hblk)
 have hbk : x.2.2 = k := by
  unfold blk at hblk
  rw [List.getElem?_map] at hblk
  cases hr : (List.range (widthF e.op).toNat)[k]? with
  | none => rw [hr] at hblk; cases hblk
  | some z =>
   rw [hr] at hblk
   simp only [Option.map_some, Option.some.injEq] at hblk
   have hz : z = k := by
    have hlt : k < (widthF e.op).toNat := by
     rcases Nat.lt_or_ge k (widthF e.op).toNat with h | h
     ·exact h
     ·rw [List.getElem?_eq_none (by rw [List.length_range]; exact h)] at hr; cases hr
    rw [List.getElem?_range hlt] at hr; exact (Option.some.inj hr).symm
   rw [← hblk]; exact hz
 refine ⟨e.op, List.mem_map.2 ⟨e, he, rfl⟩, hk, hbx.1.symm, hbx.2.symm, ?_⟩
 rw [hbk]
 cases hr : (runesF (sigE e).2.1)[k]? with
 | none => rw [hr] at e2; cases e2
 | some c =>
  rw [hr] at e2
  simp only [Option.map_some, Option.some.injEq] at e2
  show (X[q]?).map (·.1) = (runesF e.op.text)[k]?
  rw [show (runesF e.op.text)[k]? = some c from hr]; exact e2
end Go.Proofs.YtcjbjkbghgjmdaaGreatDoor
/- The text behind an erasing is the text with the edit off. -/
namespace Go.Proofs.YtcjbjkbghgjmdaaGreatDoor
open Go Go.GW
theorem stOf_row {d o : GOp} (h : stOf d o) (N : List Nm) : insRow o N = N := insRow_nil (by unfold widthF; rw [if_neg (by have := h.1; omega)]) N
theorem Gap.first (d : GOp) (N : List Nm) : Gap (blk d) (insRow d N) N := ⟨N.take d.at_.toNat, N.drop d.at_.toNat, rfl, (List.take_append_drop _ _).symm⟩
theorem Er.gap {d : GOp} {N N' : List Nm} {l l' : List GOp} (h : Er d N N' l l') : Gap (blk d) N N' → Gap (blk d) (rowN N l) (rowN N' l') := by
 induction h with
 | nil => exact id
 | skip h _ ih => intro hg; simp only [rowN]; rw [stOf_row h]; exact ih hg
 | keep _ _ _ _ hg _ ih => intro _; simp only [rowN]; exact ih hg
theorem Er.off {d : GOp} {N N' : List Nm} {l l' : List GOp} (h : Er d N N' l l') {c n : Int} (hc : ¬ (c = d.c ∧ n = d.n)) : ∀ b, lastOff c n b l' = lastOff c n b l := by
 induction h with
 | nil => intro b; rfl
 | skip h _ ih =>
  intro b
  simp only [lastOff]
  rw [if_neg (fun hh => hc ⟨hh.2.1.symm.trans h.2.1, hh.2.2.symm.trans h.2.2⟩)]
  exact ih b
 | keep _ hs _ _ _ _ ih =>
  intro b
  simp only [lastOff]
  rw [hs.kind, hs.tc, hs.tn, hs.on]; exact ih _
theorem Er.mem {d : GOp} {N N' : List Nm} {l l' : List GOp} (h : Er d N N' l l') : ∀ o' ∈ l', ∃ o ∈ l, Same o o' := by
 induction h with
 | nil => intro o' ho; cases ho
 | skip _ _ ih => intro o' ho; obtain ⟨o, h1, h2⟩ := ih o' ho; exact ⟨o, List.mem_cons_of_mem _ h1, h2⟩
 | keep _ hs _ _ _ _ ih =>
  intro o' ho
  rcases List.mem_cons.1 ho with rfl | ho
  ·exact ⟨_, List.mem_cons_self, hs⟩
  ·obtain ⟨o, h1, h2⟩ := ih o' ho; exact ⟨o, List.mem_cons_of_mem _ h1, h2⟩
theorem cntS_append (a b : List Sg) (x : Nm) : cntS (a ++ b) x = cntS a x + cntS b x := by unfold cntS; rw [List.countP_append]
theorem cntS_cons (s : Sg) (b : List Sg) (x : Nm) : cntS (s :: b) x = cntS b x + (if (hidS s && decide (some x ∈ s.2.2)) = true then 1 else 0) := by unfold cntS; rw [List.countP_cons]
theorem hidS_st {o : GOp} (h : o.kind = 4) (b : Bool) (ns : List (Option Nm)) : hidS (o.kind, b, ns) = false := by unfold hidS; simp [h]
theorem sg_same {all all' : List GOp} : ∀ {l : List GOp} {N : List Nm}, (∀ o ∈ l, lastOff o.c o.n false all' = lastOff o.c o.n false all) → sgL all' N l = sgL all N l
 | [], _, _ => rfl
 | o :: l, N, h => by
  simp only [sgL]
  rw [h o List.mem_cons_self, sg_same fun p hp => h p (List.mem_cons_of_mem _ hp)]
theorem Er.sg {d : GOp} {all all' : List GOp} {N N' : List Nm} {l l' : List GOp} (h : Er d N N' l l') (x : Nm) (ha : ∀ c n, ¬ (c = d.c ∧ n = d.n) → lastOff c n false all' = lastOff c n false all) : (∀ o ∈ l, ¬ (o.c = d.c ∧ o.n = d.n)) → cntS (sgL all' N' l') x = cntS (sgL all N l) x := by
 induction h with
 | nil => intro _; rfl
 | skip h _ ih =>
  intro hl
  simp only [sgL]
  rw [cntS_cons, hidS_st h.1, stOf_row h]
  simp only [Bool.false_and, Bool.false_eq_true, if_false, Nat.add_zero]
  exact ih fun o ho => hl o (List.mem_cons_of_mem _ ho)
 | keep h hs hn hw hg _ ih =>
  intro hl
  simp only [sgL]
  rw [cntS_cons, cntS_cons, ih fun o ho => hl o (List.mem_cons_of_mem _ ho), hs.kind, hs.c, hs.n, hn, ha _ _ (hl _ List.mem_cons_self)]
theorem rowN_mem : ∀ {N : List Nm} {l : List GOp} {x : Nm}, x ∈ rowN N l → x ∈ N ∨ ∃ o ∈ l, x ∈ blk o
 | N, [], x, h => .inl h
 | N, o :: l, x, h => by
  rcases rowN_mem (l := l) h with h | ⟨p, h1, h2⟩
  ·rcases List.mem_append.1 ((insRow_perm o N).mem_iff.1 h) with h | h
   ·exact .inr ⟨o, List.mem_cons_self, h⟩
   ·exact .inl h
  ·exact .inr ⟨p, List.mem_cons_of_mem _ h1, h2⟩
theorem ids_inj {L : List GOp} (h : (L.map fun o => (o.c, o.n)).Nodup) {a b : GOp} (ha : a ∈ L) (hb : b ∈ L) (h1 : a.c = b.c) (h2 : a.n = b.n) : a = b := by
 obtain ⟨i, hi, rfl⟩ := List.mem_iff_getElem.1 ha
 obtain ⟨j, hj, rfl⟩ := List.mem_iff_getElem.1 hb
 have := List.getElem_inj (h₀ := by simpa using hi) (h₁ := by simpa using hj) h
 simp only [List.getElem_map, Prod.mk.injEq] at this
 have := this.1 ⟨h1, h2⟩
 subst this; rfl
/-- The law. -/
theorem erase_text {n m : Nat} {H Hu : Hist} {X Xu : List Ce} (h : Made n H X) (hn : n ≤ 1000) (hu : Made m Hu Xu) (hm : m ≤ 1000) {A B B' : List GOp} {d : GOp} (e : H.ops = A ++ (d :: B)) (eu : Hu.ops = A ++ B') (hE : Er d (insRow d (rowN [] A)) (rowN [] A) B B') (hd : d.kind ≠ 4) (hoff : lastOff d.c d.n false H.ops = true) : visF Xu = visF X := by
 have O := h.ord hn
 have Ou := hu.ord hm
 obtain ⟨v, r, _⟩ := h.inv hn
 obtain ⟨vu, ru, _⟩ := hu.inv hm
 have hN : (rowN [] H.ops).Nodup := rowN_nodup List.nodup_nil O.ids (fun x hx => by cases hx)
 have hlN : (rowN [] H.ops).length = X.length := by
  have h1 := rowN_len (N := []) (w := 0) rfl v.ctx
  have h2 := r.len
  rw [v.tot] at h2; omega
 have hlU : (rowN [] Hu.ops).length = Xu.length := by
  have h1 := rowN_len (N := []) (w := 0) rfl vu.ctx
  have h2 := ru.len
  rw [vu.tot] at h2; omega
 obtain ⟨P, Q, g1, g2⟩ := hE.gap (Gap.first d (rowN [] A))
 have eN : rowN [] H.ops = P ++ (blk d ++ Q) := by rw [e, rowN_append]; exact g1
 have eU : rowN [] Hu.ops = P ++ Q := by rw [eu, rowN_append]; exact g2
 have hids := O.ids
 have hdm : d ∈ H.ops := by rw [e]; exact List.mem_append_right _ List.mem_cons_self
 have hA : ∀ o ∈ A, ¬ (o.c = d.c ∧ o.n = d.n) := by
  intro o ho hh
  rw [e, List.map_append, List.nodup_append] at hids
  exact hids.2.2 _ (List.mem_map.2 ⟨o, ho, rfl⟩) _ (List.mem_map.2 ⟨d, List.mem_cons_self, rfl⟩) (by rw [hh.1, hh.2])
 have hB : ∀ o ∈ B, ¬ (o.c = d.c ∧ o.n = d.n) := by
  intro o ho hh
  rw [e, List.map_append, List.nodup_append, List.map_cons, List.nodup_cons] at hids
  exact hids.2.1.1 (List.mem_map.2 ⟨o, ho, by rw [hh.1, hh.2]⟩)
 have ha : ∀ c n, ¬ (c = d.c ∧ n = d.n) → lastOff c n false Hu.ops = lastOff c n false H.ops := by
  intro c n hc
  rw [e, eu, lastOff_append, lastOff_append, hE.off hc]
  simp only [lastOff]
  rw [if_neg (fun hh => hd hh.1)]
 -- counters by names
 have hcnt : ∀ x : Nm, cntS (sgL H.ops [] H.ops) x = cntS (sgL Hu.ops [] Hu.ops) x + (if (hidS (d.kind, true, namesOf d (rowN [] A)) && decide (some x ∈ namesOf d (rowN [] A))) = true then 1 else 0) := by
  intro x
  have h1 : sgL H.ops [] H.ops = sgL H.ops [] A ++ ((d.kind, true, namesOf d (rowN [] A)) :: sgL H.ops (insRow d (rowN [] A)) B) := by
   conv => lhs; rw [show sgL H.ops [] H.ops = sgL H.ops [] (A ++ (d :: B)) from by rw [← e]]
   rw [sgL_append]
   simp only [sgL]
   rw [hoff]
  have h2 : sgL Hu.ops [] Hu.ops = sgL Hu.ops [] A ++ sgL Hu.ops (rowN [] A) B' := by
   conv => lhs; rw [show sgL Hu.ops [] Hu.ops = sgL Hu.ops [] (A ++ B') from by rw [← eu]]
   rw [sgL_append]
  rw [h1, h2, cntS_append, cntS_append, cntS_cons, hE.sg x ha hB, sg_same (all := H.ops) (all' := Hu.ops) (l := A) fun o ho => ha _ _ (hA o ho)]
  dsimp only
  omega
 have hat : ∀ (q : Nat) (x : Nm) c, (rowN [] H.ops)[q]? = some x → X[q]? = some c → c.2 = (cntS (sgL H.ops [] H.ops) x : Nat) := fun q x c h1 h2 => by
  rw [r.cnt q c h2, h.cnt hn h1]
 have hatu : ∀ (q : Nat) (x : Nm) c, (rowN [] Hu.ops)[q]? = some x → Xu[q]? = some c → c.2 = (cntS (sgL Hu.ops [] Hu.ops) x : Nat) := fun q x c h1 h2 => by
  rw [ru.cnt q c h2, hu.cnt hm h1]
 rw [eN, List.nodup_append, List.nodup_append] at hN
 -- a name that is not d's
 have hnot : ∀ x, x ∈ rowN [] H.ops → x ∉ blk d → ¬ (x.1 = d.c ∧ x.2.1 = d.n) := by
  intro x hx hxd hh
  rcases rowN_mem hx with h1 | ⟨o, ho, hxo⟩
  ·cases h1
  ·have hb := blk_mem hxo
   have := ids_inj O.ids ho hdm (hb.1.symm.trans hh.1) (hb.2.symm.trans hh.2)
   subst this; exact hxd hxo
 -- one cell of both
 have key : ∀ (q p : Nat) (x : Nm), (rowN [] H.ops)[q]? = some x → (rowN [] Hu.ops)[p]? = some x → x ∉ blk d → X[q]? = Xu[p]? := by
  intro q p x h1 h2 hxd
  have hq : q < X.length := by
   rcases Nat.lt_or_ge q (rowN [] H.ops).length with h | h
   ·omega
   ·rw [List.getElem?_eq_none h] at h1; cases h1
  have hp : p < Xu.length := by
   rcases Nat.lt_or_ge p (rowN [] Hu.ops).length with h | h
   ·omega
   ·rw [List.getElem?_eq_none h] at h2; cases h2
  have hid := hnot x (List.mem_of_getElem? h1) hxd
  obtain ⟨o, o1, o2, o3, o4, o5⟩ := h.rune hn h1
  obtain ⟨u, u1, u2, u3, u4, u5⟩ := hu.rune hm h2
  have htx : u.text = o.text := by
   rw [eu] at u1
   rcases List.mem_append.1 u1 with u1 | u1
   ·have hum : u ∈ H.ops := by rw [e]; exact List.mem_append_left _ u1
    rw [ids_inj O.ids hum o1 (u3.trans o3.symm) (u4.trans o4.symm)]
   ·obtain ⟨w, w1, w2⟩ := hE.mem u u1
    have hwm : w ∈ H.ops := by rw [e]; exact List.mem_append_right _ (List.mem_cons_of_mem _ w1)
    have := ids_inj O.ids hwm o1 (w2.c.symm.trans (u3.trans o3.symm)) (w2.n.symm.trans (u4.trans o4.symm))
    rw [w2.text, this]
  rw [List.getElem?_eq_getElem hq, List.getElem?_eq_getElem hp]
  rw [List.getElem?_eq_getElem hq] at o5
  rw [List.getElem?_eq_getElem hp, htx, ← o5] at u5
  have e1 := hat q x _ h1 (List.getElem?_eq_getElem hq)
  have e2 := hatu p x _ h2 (List.getElem?_eq_getElem hp)
  have hc := hcnt x
  have hz : (hidS (d.kind, true, namesOf d (rowN [] A)) && decide (some x ∈ namesOf d (rowN [] A))) = false := by
   rcases (show d.kind = 1 ∨ d.kind ≠ 1 from by omega) with hk | hk
   ·have : ¬ some x ∈ namesOf d (rowN [] A) := by
     unfold namesOf
     rw [if_pos hk]
     simpa using hxd
    simp [this]
   ·have : hidS (d.kind, true, namesOf d (rowN [] A)) = false := by unfold hidS; simp [hk]
    rw [this]; rfl
  rw [hz] at hc
  simp only [Bool.false_eq_true, if_false, Nat.add_zero] at hc
  simp only [Option.map_some, Option.some.injEq] at u5
  congr 1
  exact Prod.ext u5.symm (by rw [e1, e2, hc])
 -- the three runs of X
 have lX : X.length = P.length + ((blk d).length + Q.length) := by rw [← hlN, eN, List.length_append, List.length_append]
 have lU : Xu.length = P.length + Q.length := by rw [← hlU, eU, List.length_append]
 have s1 : Xu.take P.length = X.take P.length := by
  apply List.ext_getElem?
  intro q
  rw [List.getElem?_take, List.getElem?_take]
  by_cases hq : q < P.length
  ·rw [if_pos hq, if_pos hq]
   have hx : P[q]? = some P[q] := List.getElem?_eq_getElem hq
   refine (key q q P[q] (by rw [eN, List.getElem?_append_left hq, hx]) (by rw [eU, List.getElem?_append_left hq, hx]) fun hb => ?_).symm
   exact hN.2.2 _ (List.getElem_mem hq) _ (List.mem_append_left _ hb) rfl
  ·rw [if_neg hq, if_neg hq]
 have s2 : Xu.drop P.length = X.drop (P.length + (blk d).length) := by
  apply List.ext_getElem?
  intro q
  rw [List.getElem?_drop, List.getElem?_drop]
  by_cases hq : q < Q.length
  ·have hx : Q[q]? = some Q[q] := List.getElem?_eq_getElem hq
   refine (key (P.length + (blk d).length + q) (P.length + q) Q[q] ?_ ?_ fun hb => ?_).symm
   ·rw [eN, List.getElem?_append_right (by omega), List.getElem?_append_right (by omega), ← hx]
    congr 1; omega
   ·rw [eU, List.getElem?_append_right (by omega), ← hx]
    congr 1; omega
   ·exact hN.2.1.2.2 _ hb _ (List.getElem_mem hq) rfl
  ·rw [List.getElem?_eq_none (by omega), List.getElem?_eq_none (by omega)]
 have s3 : visF ((X.drop P.length).take (blk d).length) = [] := by
  refine visF_hid fun c hc => ?_
  obtain ⟨j, hj, rfl⟩ := List.mem_iff_getElem.1 hc
  rw [List.length_take, List.length_drop] at hj
  have hjb : j < (blk d).length := by omega
  have hxq : (rowN [] H.ops)[P.length + j]? = some (blk d)[j] := by
   rw [eN, List.getElem?_append_right (by omega), Nat.add_sub_cancel_left, List.getElem?_append_left hjb, List.getElem?_eq_getElem hjb]
  have hXq : X[P.length + j]? = some ((X.drop P.length).take (blk d).length)[j] := by
   rw [List.getElem_take, List.getElem_drop, List.getElem?_eq_getElem (by omega)]
  have e1 := hat _ _ _ hxq hXq
  rw [e1, hcnt]
  have hk : d.kind = 1 := by
   rcases (show d.kind = 1 ∨ d.kind ≠ 1 from by omega) with hk | hk
   ·exact hk
   ·rw [blk_nil (by unfold widthF; rw [if_neg hk])] at hjb; simp at hjb
  rw [if_pos]
  ·omega
  ·have : some (blk d)[j] ∈ namesOf d (rowN [] A) := by
    unfold namesOf; rw [if_pos hk]
    exact List.mem_map.2 ⟨_, List.getElem_mem hjb, rfl⟩
   simp only [this, decide_true, Bool.and_true]
   unfold hidS; simp [hk]
 have eX : X = X.take P.length ++ ((X.drop P.length).take (blk d).length ++ X.drop (P.length + (blk d).length)) := by
  rw [← List.drop_drop, List.take_append_drop, List.take_append_drop]
 have eXu : Xu = Xu.take P.length ++ Xu.drop P.length := (List.take_append_drop _ _).symm
 have f1 : visF X = visF (X.take P.length) ++ (visF ((X.drop P.length).take (blk d).length) ++ visF (X.drop (P.length + (blk d).length))) := by
  conv => lhs; rw [eX]
  rw [visF_append, visF_append]
 have f2 : visF Xu = visF (Xu.take P.length) ++ visF (Xu.drop P.length) := by
  conv => lhs; rw [eXu]
  rw [visF_append]
 rw [f1, f2, s3, s1, s2, List.nil_append]
end Go.Proofs.YtcjbjkbghgjmdaaGreatDoor
/- One command of the order without an edit: what the code makes of it. -/
namespace Go.Proofs.YtcjbjkbghgjmdaaGreatDoor
open Go Go.GW
/-! ### What span's functions compute -/
def countF : List Rg → Int
 | [] => 0
 | r :: rs => (r.hi - r.lo) + countF rs
def rankF (p : Int) : List Rg → Int
 | [] => 0
 | r :: rs => if r.lo ≥ p then 0 else (min r.hi p - r.lo) + rankF p rs
def meetF (acc : List Rg) : List Rg → List Rg → List Rg
 | r :: a, s :: b => if r.hi ≤ s.hi then meetF (addF acc (max r.lo s.lo) (min r.hi s.hi)) a (s :: b) else meetF (addF acc (max r.lo s.lo) (min r.hi s.hi)) (r :: a) b
 | [], _ => acc
 | _, [] => acc
 termination_by a b => a.length + b.length
def packF (acc : List Rg) : List Rg → List Rg
 | [] => acc
 | r :: rs => packF (addF acc r.lo r.hi) rs
theorem addF_ne {acc : List Rg} {lo hi : Int} (h : acc ≠ []) : addF acc lo hi ≠ [] := by
 by_cases hlh : hi ≤ lo
 ·rw [addF_skip hlh]; exact h
 ·rcases List.eq_nil_or_concat acc with rfl | ⟨ys, r, rfl⟩
  ·exact absurd rfl h
  ·rw [List.concat_eq_append] at *
   by_cases hj : lo ≤ r.hi
   ·rw [addF_join hlh hj]; simp
   ·rw [addF_more hlh hj]; simp
theorem meetF_nilL (acc b : List Rg) : meetF acc [] b = acc := by unfold meetF; rfl
theorem meetF_nilR (acc a : List Rg) : meetF acc a [] = acc := by cases a <;> (unfold meetF; rfl)
theorem meetF_cons (acc : List Rg) (r s : Rg) (a b : List Rg) : meetF acc (r :: a) (s :: b) = if r.hi ≤ s.hi then meetF (addF acc (max r.lo s.lo) (min r.hi s.hi)) a (s :: b) else meetF (addF acc (max r.lo s.lo) (min r.hi s.hi)) (r :: a) b := by
 rw [meetF]
theorem meetF_ne : ∀ (n : Nat) {acc a b : List Rg}, a.length + b.length ≤ n → acc ≠ [] → meetF acc a b ≠ []
 | n, acc, [], b, _, h => by rw [meetF_nilL]; exact h
 | n, acc, r :: a, [], _, h => by rw [meetF_nilR]; exact h
 | 0, acc, r :: a, s :: b, hn, h => by simp at hn
 | n + 1, acc, r :: a, s :: b, hn, h => by
  simp only [List.length_cons] at hn
  rw [meetF_cons]
  split
  ·exact meetF_ne n (by simp only [List.length_cons]; omega) (addF_ne h)
  ·exact meetF_ne n (by simp only [List.length_cons]; omega) (addF_ne h)
/-- One run meets a list. -/
theorem meetF_one {r : Rg} (hr : r.lo < r.hi) : ∀ {b : Int} {xs : List Rg}, NormB b xs → meetF [] [r] xs = [] → ∀ s ∈ xs, s.hi ≤ r.lo ∨ r.hi ≤ s.lo
 | b, [], _, _, s, hs => by cases hs
 | b, x :: xs, h, e, s, hs => by
  rw [meetF_cons] at e
  have hx := h.2.1
  have ho : ¬ max r.lo x.lo < min r.hi x.hi := by
   intro hlt
   have h1 : addF [] (max r.lo x.lo) (min r.hi x.hi) ≠ [] := by rw [addF_nil (by omega)]; simp
   split at e
   ·exact meetF_ne _ (Nat.le_refl _) h1 e
   ·exact meetF_ne _ (Nat.le_refl _) h1 e
  split at e
  ·rename_i hle
   rcases List.mem_cons.1 hs with rfl | hs
   ·omega
   ·have := h.2.2.mem s hs; omega
  ·rename_i hle
   rw [addF_skip (by omega)] at e
   rcases List.mem_cons.1 hs with rfl | hs
   ·omega
   ·exact meetF_one hr h.2.2 e s hs
theorem meetF_nilA (xs : List Rg) : meetF [] [] xs = [] := meetF_nilL _ _
/-- Ranges in their order. -/
def SortR : Int → List Rg → Prop
 | _, [] => True
 | b, r :: rs => b ≤ r.lo ∧ r.lo < r.hi ∧ SortR r.hi rs
theorem SortR.mono {b b' : Int} {xs : List Rg} (h : SortR b xs) (hb : b' ≤ b) : SortR b' xs := by
 cases xs with
 | nil => trivial
 | cons r xs => exact ⟨by have := h.1; omega, h.2⟩
theorem SortR.mem : ∀ {b : Int} {xs : List Rg}, SortR b xs → ∀ r ∈ xs, b ≤ r.lo ∧ r.lo < r.hi
 | b, [], _, r, hr => by cases hr
 | b, x :: xs, h, r, hr => by
  rcases List.mem_cons.1 hr with rfl | hr
  ·exact ⟨h.1, h.2.1⟩
  ·have := SortR.mem h.2.2 r hr
   have := h.1; have := h.2.1; omega
theorem SortR.le : ∀ {b : Int} {xs : List Rg}, SortR b xs → ∀ (i j : Nat) (hi : i < xs.length) (hj : j < xs.length), i ≤ j → xs[i].lo ≤ xs[j].lo
 | b, [], _, i, j, hi, hj, _ => by simp at hi
 | b, x :: xs, h, 0, 0, hi, hj, _ => Int.le_refl _
 | b, x :: xs, h, 0, j + 1, hi, hj, _ => by
  have := h.2.2.mem _ (List.getElem_mem (by simpa using hj : j < xs.length))
  have := h.2.1
  simp only [List.getElem_cons_zero, List.getElem_cons_succ]; omega
 | b, x :: xs, h, i + 1, 0, hi, hj, hij => by omega
 | b, x :: xs, h, i + 1, j + 1, hi, hj, hij => by
  simp only [List.getElem_cons_succ]
  exact SortR.le h.2.2 i j (by simpa using hi) (by simpa using hj) (by omega)
theorem packF_ok {T : Int} : ∀ (xs acc : List Rg) (b : Int), 0 ≤ b → SortR b xs → BelowR T xs → NormB 0 acc → BelowR T acc → (∀ l, acc.getLast? = some l → l.lo ≤ b ∧ l.hi ≤ b) → NormB 0 (packF acc xs) ∧ BelowR T (packF acc xs) ∧ ∀ q, memR q (packF acc xs) ↔ memR q acc ∨ memR q xs
 | [], acc, b, _, _, _, h1, h2, _ => ⟨h1, h2, fun q => ⟨.inl, fun h => h.elim id (fun h => absurd h (memR_nil q))⟩⟩
 | r :: xs, acc, b, hb, hs, ht, h1, h2, hl => by
  have g1 := hs.1
  have g2 := hs.2.1
  obtain ⟨a1, a2, a3, a4, a5⟩ := addF_ok (lo := r.lo) (hi := r.hi) h1 (by omega) (fun _ l hll => by have := hl l hll; omega)
  have a6 := a3 T h2 (fun _ => ht r List.mem_cons_self)
  have hlast : ∀ l, (addF acc r.lo r.hi).getLast? = some l → l.lo ≤ r.hi ∧ l.hi ≤ r.hi := by
   intro l hll
   have h5 := a5 g2 l hll
   refine ⟨by omega, ?_⟩
   rcases List.eq_nil_or_concat acc with rfl | ⟨ys, x, rfl⟩
   ·rw [addF_nil (by omega)] at hll
    simp at hll; subst hll; exact Int.le_refl _
   ·rw [List.concat_eq_append] at *
    have hx := hl x (by simp)
    by_cases hj : r.lo ≤ x.hi
    ·rw [addF_join (by omega) hj] at hll
     simp at hll; subst hll
     show max x.hi r.hi ≤ r.hi; omega
    ·rw [addF_more (by omega) hj] at hll
     simp at hll; subst hll; exact Int.le_refl _
  obtain ⟨b1, b2, b3⟩ := packF_ok (T := T) xs (addF acc r.lo r.hi) r.hi (by omega) hs.2.2 (fun x hx => ht x (List.mem_cons_of_mem _ hx)) a1 a6 hlast
  refine ⟨b1, b2, fun q => ?_⟩
  simp only [packF]
  rw [b3, a2, memR_cons]
  constructor
  ·rintro ((h | h) | h)
   ·exact .inl h
   ·exact .inr (.inl h)
   ·exact .inr (.inr h)
  ·rintro (h | h | h)
   ·exact .inl (.inl h)
   ·exact .inl (.inr h)
   ·exact .inr h
/-! ### The cells that are gone -/
structure GoneI (d : GOp) (N N' : List Nm) (gone : List Rg) (g : Nat) : Prop where
 row : ∃ P Q, N = P ++ (blk d ++ Q) ∧ N' = P ++ Q ∧ P.length = g
 gone : gone = if d.kind = 1 then [⟨g, g + widthF d⟩] else []
 z : d.kind ≠ 1 → g = 0
theorem GoneI.gap {d : GOp} {N N' : List Nm} {gone : List Rg} {g : Nat} (h : GoneI d N N' gone g) : Gap (blk d) N N' := by
 obtain ⟨P, Q, h1, h2, _⟩ := h.row
 exact ⟨P, Q, h1, h2⟩
theorem GoneI.len {d : GOp} {N N' : List Nm} {gone : List Rg} {g : Nat} (h : GoneI d N N' gone g) : N.length = N'.length + (blk d).length ∧ g ≤ N'.length := by
 obtain ⟨P, Q, rfl, rfl, h3⟩ := h.row
 simp only [List.length_append]; omega
theorem gap_get {D P Q : List Nm} (q : Int) (hq : 0 ≤ q) : (P ++ (D ++ Q))[(shQ P.length D.length q).toNat]? = (P ++ Q)[q.toNat]? := by
 unfold shQ
 split
 ·rw [List.getElem?_append_left (by omega), List.getElem?_append_left (by omega)]
 ·rw [List.getElem?_append_right (by omega), List.getElem?_append_right (by omega), List.getElem?_append_right (by omega)]
  congr 1; omega
/-- Rank of a place. -/
theorem GoneI.rank {d : GOp} {N N' : List Nm} {gone : List Rg} {g : Nat} (h : GoneI d N N' gone g) (hw : 0 ≤ widthF d) (p : Int) : rankF p gone = if d.kind = 1 then (if p ≤ g then 0 else min ((g : Int) + widthF d) p - g) else 0 := by
 rw [h.gone]
 split
 ·simp only [rankF]
  by_cases hp : p ≤ g
  ·rw [if_pos (by omega), if_pos hp]
  ·rw [if_neg (by omega), if_neg hp]; omega
 ·rfl
theorem GoneI.count {d : GOp} {N N' : List Nm} {gone : List Rg} {g : Nat} (h : GoneI d N N' gone g) : countF gone = if d.kind = 1 then widthF d else 0 := by
 rw [h.gone]
 split
 ·simp only [countF]; omega
 ·rfl
/-- A list of places that leaves the gap out, without it. -/
def downR (gone rs : List Rg) : List Rg := rs.map fun r => ⟨r.lo - rankF r.lo gone, r.hi - rankF r.hi gone⟩
theorem down_ok {g wd : Int} (hg : 0 ≤ g) (hw : 0 ≤ wd) {rk : Int → Int} (hrk : ∀ p, (p ≤ g → rk p = 0) ∧ (g + wd ≤ p → rk p = wd)) {T : Int} : ∀ {b : Int} {rs : List Rg}, NormB b rs → 0 ≤ b → BelowR (T + wd) rs → g ≤ T → (∀ s ∈ rs, s.hi ≤ g ∨ g + wd ≤ s.lo) → SortR (if b ≤ g then b else max g (b - wd)) (rs.map fun r => ⟨r.lo - rk r.lo, r.hi - rk r.hi⟩) ∧ BelowR T (rs.map fun r => ⟨r.lo - rk r.lo, r.hi - rk r.hi⟩) ∧ ∀ q, memR q (rs.map fun r => ⟨r.lo - rk r.lo, r.hi - rk r.hi⟩) ↔ memR (if q < g then q else q + wd) rs
 | b, [], _, _, _, _, _ => ⟨trivial, fun r hr => (by cases hr), fun q => ⟨fun h => absurd h (memR_nil _), fun h => absurd h (memR_nil _)⟩⟩
 | b, r :: rs, h, hb, ht, hgT, hd => by
  have h1 := h.1
  have h2 := h.2.1
  have h3 := ht r List.mem_cons_self
  have h4 := hd r List.mem_cons_self
  have k1 := hrk r.lo
  have k2 := hrk r.hi
  obtain ⟨i1, i2, i3⟩ := down_ok hg hw hrk (T := T) h.2.2 (by omega) (fun x hx => ht x (List.mem_cons_of_mem _ hx)) hgT (fun x hx => hd x (List.mem_cons_of_mem _ hx))
  have hlo : (r.hi ≤ g ∧ rk r.lo = 0 ∧ rk r.hi = 0) ∨ (g + wd ≤ r.lo ∧ rk r.lo = wd ∧ rk r.hi = wd) := by
   rcases h4 with h4 | h4
   ·exact .inl ⟨h4, k1.1 (by omega), k2.1 h4⟩
   ·exact .inr ⟨h4, k1.2 h4, k2.2 (by omega)⟩
  refine ⟨⟨?_, ?_, i1.mono ?_⟩, ?_, fun q => ?_⟩
  ·dsimp only; split <;> omega
  ·dsimp only; omega
  ·dsimp only; split <;> omega
  ·intro x hx
   rcases List.mem_cons.1 hx with rfl | hx
   ·dsimp only; omega
   ·exact i2 x hx
  ·rw [List.map_cons, memR_cons, memR_cons, i3]
   dsimp only
   constructor
   ·rintro (h | h)
    ·left; split <;> omega
    ·exact .inr h
   ·rintro (h | h)
    ·left; split at h <;> omega
    ·exact .inr h
end Go.Proofs.YtcjbjkbghgjmdaaGreatDoor
/- Made slices of elements, copies of slices. -/
namespace Go.GW
open Go
section
variable {P : Program} {n : Nat} {R : Post} {l : Fr} {Ps : List Part} {As : List Fact} {ty : TypeId} {pos : String} {aft : Array Edge} {g : Option (Nat × Bool)} {K : Nx}
theorem OW_makeN {T E : TypeId} {d : Nat} {x y : Operand} {zv : Value} {sz by_ k : Nat} (hu : P.underlying T = some (.slice E)) (ht : ti P E = some (some zv, sz, by_)) (hx : evs l x = some (.int .i64 k)) (hy : evs l y = some (.int .i64 k)) (hk : k * by_ ≤ 281474976710656) (hm : k ≤ maxLen) (hd : d < n)
    (h : ∀ b cs, cs.length = k * sz → K ((d, .slice (some ⟨b, 0, none⟩) k k) :: l) ([(b, cellsO cs E)] :: Ps) As) : OW P n R l Ps As ⟨some d, .makeSlice T x y, ty, pos, aft, g⟩ K :=
  OW_value rfl hd fun Z w ρ hs hρ => by
    unfold ti at ht
    cases hi : P.info? E with
    | none => rw [hi] at ht; cases ht
    | some i =>
      rw [hi] at ht
      simp only [Option.map_some, Option.some.injEq, Prod.mk.injEq] at ht
      have hm' := hm
      simp only [maxLen] at hm'
      have hb' : (i.bytes : Int) * (k : Int) ≤ 281474976710656 := by
        have h1 : ((i.bytes * k : Nat) : Int) ≤ 281474976710656 := by rw [ht.2.2, Nat.mul_comm]; omega
        rwa [Int.natCast_mul] at h1
      have hr := run_make (P := P) w T E i zv hu hi ht.1 .i64 .i64 k k (by omega) (by omega) hb' (by omega)
      refine ⟨_, w.alloc (cellsO (madeCells zv.cells (k * i.size)).toList E), Z, _, As, ?_, hs.alloc _, h w.heap.size _ ?_⟩
      · simp only [execOp, hρ _ _ hx, hρ _ _ hy, Sem.run_bind, hr, Result.andThen_ok, Sem.run_pure, Int.toNat_natCast]
      · simp [size_madeCells, ht.2.1]
/-- A whole slice is copied into one of its length. -/
theorem OW_copyS {α : Type} {e : De α} {d : Nat} {T E : TypeId} {x y : Operand} {z : Option Value} {by_ b c cap : Nat} {T' : TypeId} {A : Option Addr} {cs : List Value} {xs : List α} {Qs : List Part} (hu : P.underlying T = some (.slice E)) (ht : ti P E = some (z, e.sz, by_)) (hx : evs l x = some (.slice (some ⟨b, 0, none⟩) xs.length c)) (hy : evs l y = some (.slice A xs.length cap))
    (hA : RdF e A cap xs ∈ As) (hne : xs ≠ []) (hl : cs.length = xs.length * e.sz) (hsz : 0 < e.sz) (hd : d < n) (hQ : ([(b, cellsO cs T')] :: Qs).flatten.Perm Ps.flatten)
    (h : ∀ css, css.flatten.length = xs.length * e.sz → K ((d, .int .i64 xs.length) :: l) ([(b, cellsO css.flatten T')] :: Qs) (RepsF e xs css :: As)) : OW P n R l Ps As ⟨some d, .call ⟨.builtin .copy, #[x, y], #[T, T]⟩, ty, pos, aft, g⟩ K :=
  OW_value rfl hd fun Z w ρ hs hρ => by
    have hs' := hs.permParts hQ
    obtain ⟨g1, g2, ⟨g3, g4⟩ | ⟨b2, q, css, rfl, g4, g5, g6⟩⟩ : RdS e Z w A cap xs := hs.facts _ hA
    · exact absurd g3 hne
    · have hfl : css.flatten.length = xs.length * e.sz := by rw [flat_len g5.lens, g5.length]
      obtain ⟨w', k1, k2⟩ := run_storeCells (P := P) css.flatten w cs 0 0 (hs'.addFact (A := RepsF e xs css) g5) (by rw [hfl, hl]; omega) (fun v hv => g5.ones v hv)
      have hset : setAll cs (0 + 0) css.flatten = css.flatten := by
        rw [setAll_eq _ _ _ (by rw [hfl, hl]; omega), List.take_zero, List.nil_append, Nat.zero_add, hfl, ← hl, List.drop_length, List.append_nil]
      rw [hset] at k2
      refine ⟨_, w', Z, _, _, ?_, k2, h css hfl⟩
      have hmin : Nat.min xs.length xs.length = xs.length := Nat.min_self _
      have h1 := run_loadCells' (P := P) g6
      have h2 : (Builtin.copy_ #[T, T] ty #[.slice (some ⟨b, 0, none⟩) xs.length c, .slice (some ⟨b2, q, none⟩) xs.length cap]).run P w = .ok (.int .i64 xs.length) w' := by
        have e1 : (#[T, T] : Array TypeId)[0]? = some T := rfl
        have e2 : (#[.slice (some ⟨b, 0, none⟩) xs.length c, .slice (some ⟨b2, q, none⟩) xs.length cap] : Array Value)[0]? = some (.slice (some ⟨b, 0, none⟩) xs.length c) := rfl
        have e3 : (#[.slice (some ⟨b, 0, none⟩) xs.length c, .slice (some ⟨b2, q, none⟩) xs.length cap] : Array Value)[1]? = some (.slice (some ⟨b2, q, none⟩) xs.length cap) := rfl
        unfold Builtin.copy_
        simp only [e1, e2, e3, Sem.run_bind, run_underlying' hu, Result.andThen_ok, Builtin.lenOf, Sem.run_pure, run_sizeOf ht, Builtin.firstCells, hmin, ← hfl, h1, k1]
        rfl
      have h3 := hρ _ _ hx
      have h4 := hρ _ _ hy
      simp only [execOp, resolve, invoke, List.map_toArray, List.map_cons, List.map_nil, h3, h4, Sem.run_bind, Sem.run_pure, Result.andThen_ok]
      show ((do pure (Next.value (← Builtin.copy_ #[T, T] ty #[.slice (some ⟨b, 0, none⟩) xs.length c, .slice (some ⟨b2, q, none⟩) xs.length cap])) : Sem Next)).run P w = _
      rw [Sem.run_bind, h2]; rfl
/-- What a function that hands out nothing reads of a frozen slice, it may read of a row of our own: the row is frozen for the call and thawed behind it. -/
theorem Sp.thaw {α : Type} {e : De α} {k : FuncId} {args : List Value} {Lin : List Part} {pre : List Fact} {res : Value → List Part → List Fact → Prop} {b cap : Nat} {T' : TypeId} {xs : List α} {css : List (List Value)} {jk : List Value} (h : Sp P k args Lin (RdF e (some ⟨b, 0, none⟩) cap xs :: pre) res) (hres : ∀ v Lo fs, res v Lo fs → fs = []) (hc : xs.length ≤ cap ∧ cap ≤ maxLen) :
    Sp P k args ([(b, cellsO (css.flatten ++ jk) T')] :: Lin) (RepsF e xs css :: pre) (fun v Lo fs => ∃ Lo', res v Lo' [] ∧ Lo = [(b, cellsO (css.flatten ++ jk) T')] :: Lo' ∧ fs = []) := by
  refine ⟨h.enters, fun Z w Ps As hs => ?_⟩
  have hb := hs.own (b, cellsO (css.flatten ++ jk) T') (by simp)
  have hf := St.freeze (p := [(b, cellsO (css.flatten ++ jk) T')]) (Ps := Lin ++ Ps) hs
  have hrep : Reps (e.rep (fun c => Z c ∨ ∃ o, (c, o) ∈ [(b, cellsO (css.flatten ++ jk) T')]) w) xs css := hf.facts (RepsF e xs css) (by simp)
  have hzb : ∃ o, (b, o) ∈ [(b, cellsO (css.flatten ++ jk) T')] := ⟨_, List.mem_singleton.2 rfl⟩
  have h1 := hf.addFact (A := NearF w (fun c => Z c ∨ ∃ o, (c, o) ∈ [(b, cellsO (css.flatten ++ jk) T')])) ⟨fun c hc => ⟨hc, rfl⟩, rfl, rfl, rfl⟩
  have h2 := h1.addFact (A := RdF e (some ⟨b, 0, none⟩) cap xs) ⟨hc.1, hc.2, .inr ⟨b, 0, css, rfl, .inr hzb, hrep, ⟨_, _, _, hb.1, fun j v hv => by
    have hj : (css.flatten ++ jk)[j]? = some v := by
      rw [List.getElem?_append_left]
      · exact hv
      · rcases Nat.lt_or_ge j css.flatten.length with h | h
        · exact h
        · rw [List.getElem?_eq_none h] at hv; cases hv
    simpa using hj⟩⟩⟩
  have h3 : St (fun c => Z c ∨ ∃ o, (c, o) ∈ [(b, cellsO (css.flatten ++ jk) T')]) w (Lin ++ Ps) ((RdF e (some ⟨b, 0, none⟩) cap xs :: pre) ++ (NearF w (fun c => Z c ∨ ∃ o, (c, o) ∈ [(b, cellsO (css.flatten ++ jk) T')]) :: As)) := h2.subFacts fun A hA => by
    rcases List.mem_append.1 hA with hA | hA
    · rcases List.mem_cons.1 hA with rfl | hA
      · exact List.mem_cons_self
      · exact List.mem_cons_of_mem _ (List.mem_cons_of_mem _ (List.mem_append_left _ (List.mem_cons_of_mem _ hA)))
    · rcases List.mem_cons.1 hA with rfl | hA
      · exact List.mem_cons_of_mem _ List.mem_cons_self
      · exact List.mem_cons_of_mem _ (List.mem_cons_of_mem _ (List.mem_append_right _ hA))
  refine (h.calls _ w Ps _ h3).mono ?_
  rintro en w' ⟨v, rfl, Z', Lo, fs, g1, g2⟩
  obtain rfl := hres _ _ _ g1
  have hn := g2.facts (NearF w (fun c => Z c ∨ ∃ o, (c, o) ∈ [(b, cellsO (css.flatten ++ jk) T')])) (by simp)
  have hZb : Z' b := (hn.1 b (.inr hzb)).1
  have hwb : w'.heap[b]? = some (cellsO (css.flatten ++ jk) T') := by rw [(hn.1 b (.inr hzb)).2]; exact hb.1
  refine ⟨v, rfl, fun c => Z' c ∧ c ≠ b, _, [], ⟨Lo, g1, rfl, rfl⟩, ?_⟩
  have hst : ∀ A : Fact, A.holds Z w → A.holds (fun c => Z' c ∧ c ≠ b) w' := fun A hA => A.stable (fun c hc => ⟨(hn.1 c (.inl hc)).1, fun hcb => hb.2 (hcb ▸ hc)⟩) (fun c hc => (hn.1 c (.inl hc)).2) hn.2.1 hn.2.2.1 hn.2.2.2 hA
  refine ⟨fun c hc => g2.zlt c hc.1, fun q hq => ?_, ?_, fun A hA => hst A (hs.facts A (by simpa using hA))⟩
  · rcases List.mem_append.1 (by simpa using hq : q ∈ [(b, cellsO (css.flatten ++ jk) T')] ++ (Lo ++ Ps).flatten) with hq | hq
    · rw [List.mem_singleton] at hq; subst hq
      exact ⟨hwb, fun hh => hh.2 rfl⟩
    · have := g2.own q hq
      exact ⟨this.1, fun hh => this.2 hh.1⟩
  · have hnd := g2.nodup
    show ((([(b, cellsO (css.flatten ++ jk) T')] :: Lo) ++ Ps).flatten.map Prod.fst).Nodup
    rw [List.cons_append, List.flatten_cons, List.map_append, List.nodup_append]
    refine ⟨by simp, hnd, fun x hx y hy hxy => ?_⟩
    subst hxy
    simp only [List.map_cons, List.map_nil, List.mem_singleton] at hx
    subst hx
    obtain ⟨q, hq, hqb⟩ := List.mem_map.1 hy
    exact (g2.own q hq).2 (hqb ▸ hZb)
end
end Go.GW
/- Walks: span.Count, Rank, both; own. -/
namespace Go.Proofs.YtcjbjkbghgjmdaaGreatDoor
open Go Go.GW
theorem countF_bd : ∀ {b T : Int} {xs : List Rg}, NormB b xs → BelowR T xs → b ≤ T → 0 ≤ countF xs ∧ countF xs ≤ T - b
  | b, T, [], _, _, h => by simp only [countF]; omega
  | b, T, r :: rs, hn, ht, _ => by
    have h1 := hn.1
    have h2 := hn.2.1
    have h3 := ht r List.mem_cons_self
    by_cases h4 : r.hi + 1 ≤ T
    · have := countF_bd hn.2.2 (fun x hx => ht x (List.mem_cons_of_mem _ hx)) h4
      simp only [countF]; omega
    · cases rs with
      | nil => simp only [countF]; omega
      | cons x xs =>
        have := hn.2.2.1
        have := hn.2.2.2.1
        have := ht x (List.mem_cons_of_mem _ List.mem_cons_self)
        omega
theorem rankF_bd (p : Int) : ∀ {b T : Int} {xs : List Rg}, NormB b xs → BelowR T xs → b ≤ T → 0 ≤ rankF p xs ∧ rankF p xs ≤ T - b
  | b, T, [], _, _, h => by simp only [rankF]; omega
  | b, T, r :: rs, hn, ht, _ => by
    have h1 := hn.1
    have h2 := hn.2.1
    have h3 := ht r List.mem_cons_self
    simp only [rankF]
    split
    · omega
    · by_cases h4 : r.hi + 1 ≤ T
      · have := rankF_bd p hn.2.2 (fun x hx => ht x (List.mem_cons_of_mem _ hx)) h4
        omega
      · cases rs with
        | nil => simp only [rankF]; omega
        | cons x xs =>
          have := hn.2.2.1
          have := hn.2.2.2.1
          have := ht x (List.mem_cons_of_mem _ List.mem_cons_self)
          omega
theorem countF_append : ∀ (a b : List Rg), countF (a ++ b) = countF a + countF b
  | [], b => by simp [countF]
  | r :: a, b => by simp only [List.cons_append, countF, countF_append a b]; omega
theorem nrm_take : ∀ {b : Int} {xs : List Rg} (k : Nat), NormB b xs → NormB b (xs.take k)
  | b, [], k, _ => by simp [NormB]
  | b, r :: rs, 0, _ => trivial
  | b, r :: rs, k + 1, h => ⟨h.1, h.2.1, nrm_take k h.2.2⟩
theorem nrm_drop : ∀ {b : Int} {xs : List Rg} (k : Nat), NormB b xs → NormB b (xs.drop k)
  | b, [], k, _ => by simp [NormB]
  | b, r :: rs, 0, h => h
  | b, r :: rs, k + 1, h => (nrm_drop k h.2.2).mono (by have := h.1; have := h.2.1; omega)
theorem Pls.take {T : Int} {xs : List Rg} (h : Pls T xs) (k : Nat) : Pls T (xs.take k) := ⟨nrm_take k h.norm, fun r hr => h.below r (List.mem_of_mem_take hr)⟩
theorem Pls.drop {T : Int} {xs : List Rg} (h : Pls T xs) (k : Nat) : Pls T (xs.drop k) := ⟨nrm_drop k h.norm, fun r hr => h.below r (List.mem_of_mem_drop hr)⟩
theorem check_p (A : Option Addr) (c : Nat) (xs : List Rg) (h : Pls 60000 xs) : Sp Tryz.prog 53 [.slice A xs.length c] [] [RdF rgD A c xs] (fun v Lo fs => ∃ x, v = .tuple #[.int .i64 x, .int .i64 0] ∧ Lo = [] ∧ fs = []) := by
  refine (check_s A c xs (by have := h.len (by omega); omega)).mono ?_
  rintro v Lo fs ⟨rfl, rfl, rfl⟩
  exact ⟨_, by rw [h.ck (by omega)], rfl, rfl⟩

set_option maxRecDepth 10000 in
theorem count_p (A : Option Addr) (c : Nat) (xs : List Rg) (h : Pls 60000 xs) : Sp Tryz.prog 56 [.slice A xs.length c] [] [RdF rgD A c xs] (Is (.tuple #[.int .i64 (countF xs), .int .i64 0])) := by
  have hl := h.len (by omega)
  refine Sp.of (n := 32) ⟨_, Tryz.func56, rfl, rfl, rfl, rfl⟩ (Nat.le_of_ble_eq_true rfl) fun Ps As => WC_seq (WC_region (Lq (q_assign rfl) (Lq (q_assign rfl) (WL_nil (thenN (WC_seq (WC_seq (WC_region (Lq (q_move rfl) (WL_main rfl (OW_call0 (check_p A c xs h) (.cons rfl (.nil)) (by decide) (memc M0 mem0) fun u1_1 Lo fs hres => ?_)))))))))))
  obtain ⟨x0, rfl, rfl, rfl⟩ := hres
  refine Lq (q_move rfl) (Lq (q_extract (vs := [_, _]) rfl rfl) (Lq (q_extract (vs := [_, _]) rfl rfl) (Lq (q_assign rfl) (Lq (q_assign rfl) (WL_nil (thenN (WC_seq (WC_region (Lq (q_move rfl) (Lq (q_neq rfl rfl) (WL_nil (thenN (WC_false rfl rfl (WC_skip (thenN (WC_seq (WC_region (Lq (q_assign rfl) ?_))))))))))))))))))
  refine WL_nil (thenN (WC_seq (WC_seq (WC_region (Lq (q_move rfl) (Lq (q_len Un45 rfl) (Lq (q_move rfl) (WL_nil (thenN (WC_fr [(19, _), (18, _), (17, _), (6, _), (3, _), (2, _)] (.cons rfl (.cons rfl (.cons rfl (.cons rfl (.cons rfl (.cons rfl (.nil _))))))) (WC_block ?_)))))))))))
  refine WC_loopE (α := Nat) (fun k => xs.length - k)
    (fun k => [(6, .int .i64 (countF (xs.take k))), (17, .slice A xs.length c), (18, .int .i64 xs.length), (19, .int .i64 k)])
    (fun k => Ps)
    (fun k => (RdF rgD A c xs :: As))
    (fun k => k ≤ xs.length)
    0 ?_ (.cons rfl (.cons rfl (.cons rfl (.cons rfl (.nil _))))) (Sr) (fun _ h => h) ?_
  · exact Nat.zero_le _
  · rintro k hI
    refine WC_seq (WC_region (Lq (q_lss rfl rfl) (WL_nil (thenN (WC_seq (WC_cond rfl (fun h20 => ?_) (fun h20 => ?_)))))))
    · refine WC_skip (thenN (WC_seq (WC_block (WC_seq ?_))))
      try simp only [Bp, Bq] at *
      have hk : k < xs.length := by omega
      have hr := h.norm.mem _ (List.getElem_mem hk)
      have hb := h.below _ (List.getElem_mem hk)
      have hn1 := countF_bd (h.take (k + 1)).norm (h.take (k + 1)).below (by omega)
      have hn0 := countF_bd (h.take k).norm (h.take k).below (by omega)
      have hsc : countF (xs.take (k + 1)) = countF (xs.take k) + (xs[k].hi - xs[k].lo) := by rw [List.take_succ_eq_append_getElem hk, countF_append]; simp only [countF]; omega
      refine WC_elem (k := k) M0 (List.getElem?_eq_getElem hk) (rg_open _) fun b7 q7 y7 e7 => ?_
      cases e7
      refine WC_region (Lq (q_idxRd Un45 ti119 rfl rfl (by omega) (by omega)) (Lq (q_loadFN (k := 0) (vs := [_, _]) Un119 rfl ti119 rfl M0 rfl rfl rfl) (WL_main rfl (OW_alloc (cs := [_, _]) ti119 rfl (by decide) fun b8 => WL_main rfl (OW_storeN (cs' := [_, _]) (vs := [_, _]) ti119 rfl rfl rfl rfl rfl (Nat.le_of_ble_eq_true rfl) (.z) (WL_nil (thenN (WC_region (Lq (q_move rfl) (Lq (q_field (o' := 1) Un119 rfl ti3 rfl rfl) (Lq (q_load1 Un3 rfl rfl own0 rfl) (Lq (q_field (o' := 0) Un119 rfl ti3 rfl rfl) ?_))))))))))))
      refine Lq (q_load1 Un3 rfl rfl own0 rfl) (Lq (q_sub rfl rfl (wr64 (by omega))) (Lq (q_add rfl rfl (by rw [hsc]; exact wr64 (by omega)) (c := countF (xs.take (k + 1)))) (Lq (q_assign rfl) (WL_nil (blockN (thenN (WC_region (Lq (q_add rfl rfl (wr64 (by omega)) (c := ((k + 1 : Nat) : Int))) (Lq (q_move rfl) (WL_nil (thenK ?_)))))))))))
      refine ⟨k + 1, ?_, (.cons rfl (.cons rfl (.cons rfl (.cons rfl (.nil _))))), (Sd (Sr)), T1⟩
      exact ⟨by omega, by omega⟩
    · refine WC_exit (thenExit (thenExit (blockHit (thenN (WC_seq (WC_region (Lq (q_move rfl) (Lq (q_assign rfl) (Lq (q_assign rfl) (WL_nil (thenN (WC_ret ?_))))))))))))
      refine ⟨_, [], [], fun Z w hs => .tmp rfl (.tmp rfl (.nil)), ?_, fun Z w hs => hs.out (Sr) (fun _ h => h)⟩
      try simp only [Bp, Bq] at *
      obtain rfl : k = xs.length := by omega
      exact ⟨by rw [List.take_length]; rfl, rfl, rfl⟩


set_option maxRecDepth 10000 in
theorem rank_p (A : Option Addr) (c : Nat) (xs : List Rg) (p : Int) (h : Pls 60000 xs) (hp : 0 ≤ p ∧ p ≤ 60000) : Sp Tryz.prog 57 [.slice A xs.length c, .int .i64 p] [] [RdF rgD A c xs] (Is (.tuple #[.int .i64 (rankF p xs), .int .i64 0])) := by
  have hl := h.len (by omega)
  refine Sp.of (n := 46) ⟨_, Tryz.func57, rfl, rfl, rfl, rfl⟩ (Nat.le_of_ble_eq_true rfl) fun Ps As => WC_seq (WC_region (Lq (q_assign rfl) (Lq (q_assign rfl) (WL_nil (thenN (WC_seq (WC_seq (WC_region (Lq (q_move rfl) (WL_main rfl (OW_call0 (check_p A c xs h) (.cons rfl (.nil)) (by decide) (memc M0 mem0) fun u1_1 Lo fs hres => ?_)))))))))))
  obtain ⟨x0, rfl, rfl, rfl⟩ := hres
  refine Lq (q_move rfl) (Lq (q_extract (vs := [_, _]) rfl rfl) (Lq (q_extract (vs := [_, _]) rfl rfl) (Lq (q_assign rfl) (Lq (q_assign rfl) (WL_nil (thenN (WC_seq (WC_region (Lq (q_move rfl) (Lq (q_neq rfl rfl) (WL_nil (thenN (WC_false rfl rfl (WC_skip (thenN (WC_seq (WC_seq (WC_region (Lq (q_move rfl) ?_)))))))))))))))))))
  refine Lq (q_lss rfl rfl) (Lq (q_move rfl) (Lg rfl rfl rfl (by simp; omega) (q_move rfl) (Lg rfl rfl rfl (by simp; omega) (q_gtr rfl rfl) (Lq (q_pickF rfl (by simp; omega) rfl) (WL_nil (thenN (WC_fr [(24, _), (5, _), (4, _), (0, _), (1, _)] (.cons rfl (.cons rfl (.cons rfl (.cons rfl (.cons rfl (.nil _)))))) (WC_false rfl (by simp; omega) (WC_skip (thenN (WC_seq (WC_region (Lq (q_assign rfl) ?_)))))))))))))
  refine WL_nil (thenN (WC_seq (WC_seq (WC_region (Lq (q_move rfl) (Lq (q_len Un45 rfl) (Lq (q_move rfl) (WL_nil (thenN (WC_block ?_))))))))))
  refine WC_loopE (α := Nat × Int) (fun (k, n) => xs.length - k)
    (fun (k, n) => [(1, .int .i64 p), (8, .int .i64 n), (25, .slice A xs.length c), (26, .int .i64 xs.length), (27, .int .i64 k)])
    (fun (k, n) => Ps)
    (fun (k, n) => (RdF rgD A c xs :: As))
    (fun (k, n) => k ≤ xs.length ∧ 0 ≤ n ∧ n + rankF p (xs.drop k) = rankF p xs)
    (0, 0) ?_ (.cons rfl (.cons rfl (.cons rfl (.cons rfl (.cons rfl (.nil _)))))) (Sr) (fun _ h => h) ?_
  · exact ⟨Nat.zero_le _, Int.le_refl _, by rw [List.drop_zero]; omega⟩
  · rintro ⟨k, n⟩ hI
    have hle := hI.1
    have hn := hI.2.1
    refine WC_seq (WC_region (Lq (q_lss rfl rfl) (WL_nil (thenN (WC_seq (WC_cond rfl (fun h28 => ?_) (fun h28 => ?_)))))))
    · refine WC_skip (thenN (WC_seq (WC_block (WC_seq ?_))))
      try simp only [Bp, Bq] at *
      have hk : k < xs.length := by omega
      have hr := h.norm.mem _ (List.getElem_mem hk)
      have hb := h.below _ (List.getElem_mem hk)
      have hd : xs.drop k = xs[k] :: xs.drop (k + 1) := List.drop_eq_getElem_cons hk
      have hn1 := rankF_bd p (h.drop (k + 1)).norm (h.drop (k + 1)).below (by omega)
      have hn0 := rankF_bd p h.norm h.below (by omega)
      have hI2 := hI.2.2
      rw [hd] at hI2
      simp only [rankF] at hI2
      refine WC_elem (k := k) M0 (List.getElem?_eq_getElem hk) (rg_open _) fun b7 q7 y7 e7 => ?_
      cases e7
      refine WC_region (Lq (q_idxRd Un45 ti119 rfl rfl (by omega) (by omega)) (Lq (q_loadFN (k := 0) (vs := [_, _]) Un119 rfl ti119 rfl M0 rfl rfl rfl) (WL_main rfl (OW_alloc (cs := [_, _]) ti119 rfl (by decide) fun b10 => WL_main rfl (OW_storeN (cs' := [_, _]) (vs := [_, _]) ti119 rfl rfl rfl rfl rfl (Nat.le_of_ble_eq_true rfl) (.z) (WL_nil (thenN (WC_seq (WC_seq (WC_region (Lq (q_field (o' := 0) Un119 rfl ti3 rfl rfl) (Lq (q_load1 Un3 rfl rfl own0 rfl) (Lq (q_move rfl) (Lq (q_geq rfl rfl) ?_))))))))))))))
      refine WL_nil (thenN (WC_cond rfl (fun h34 => ?_) (fun h34 => ?_)))
      · refine WC_exit (thenExit (blockMiss rfl (thenExit (thenExit (blockHit (thenN (WC_seq (WC_region (Lq (q_move rfl) (Lq (q_assign rfl) (Lq (q_assign rfl) (WL_nil (thenN (WC_fr [(5, _), (4, _)] (.cons rfl (.cons rfl (.nil _))) (WC_ret ?_)))))))))))))))
        refine ⟨_, [], [], fun Z w hs => .tmp rfl (.tmp rfl (.nil)), ?_, fun Z w hs => hs.out (Sd (Sr)) T1⟩
        try simp only [Bp, Bq] at *
        have hz : n = rankF p xs := by
          first
          | (rw [if_pos (by omega)] at hI2; omega)
          | (have hk2 : xs.drop k = [] := List.drop_eq_nil_of_le (by omega)
             have h3 := hI.2.2
             rw [hk2] at h3
             simp only [rankF] at h3; omega)
        exact ⟨by rw [hz]; rfl, rfl, rfl⟩
      · refine WC_skip (thenN ?_)
        try simp only [Bp, Bq] at *
        rw [if_neg (by omega)] at hI2
        refine WC_region (Lq (q_move rfl) (Lq (q_field (o' := 1) Un119 rfl ti3 rfl rfl) (Lq (q_load1 Un3 rfl rfl own0 rfl) (Lq (q_move rfl) (Lq (q_min rfl rfl) (Lq (q_field (o' := 0) Un119 rfl ti3 rfl rfl) (Lq (q_load1 Un3 rfl rfl own0 rfl) (Lq (q_sub rfl rfl (wr64 (by omega))) (Lq (q_add rfl rfl (wr64 (by omega)) (c := n + (min xs[k].hi p - xs[k].lo))) ?_)))))))))
        refine Lq (q_assign rfl) (WL_nil (blockN (thenN (WC_region (Lq (q_add rfl rfl (wr64 (by omega)) (c := ((k + 1 : Nat) : Int))) (Lq (q_move rfl) (WL_nil (thenK ?_))))))))
        refine ⟨(k + 1, n + (min xs[k].hi p - xs[k].lo)), ?_, (.cons rfl (.cons rfl (.cons rfl (.cons rfl (.cons rfl (.nil _)))))), (Sd (Sr)), T1⟩
        exact ⟨by show xs.length - (k + 1) < xs.length - k; omega, by omega, by show 0 ≤ n + (min xs[k].hi p - xs[k].lo); omega, by show n + (min xs[k].hi p - xs[k].lo) + rankF p (xs.drop (k + 1)) = rankF p xs; omega⟩
    · refine WC_exit (thenExit (thenExit (blockHit (thenN (WC_seq (WC_region (Lq (q_move rfl) (Lq (q_assign rfl) (Lq (q_assign rfl) (WL_nil (thenN (WC_ret ?_))))))))))))
      refine ⟨_, [], [], fun Z w hs => .tmp rfl (.tmp rfl (.nil)), ?_, fun Z w hs => hs.out (Sr) (fun _ h => h)⟩
      try simp only [Bp, Bq] at *
      have hz : n = rankF p xs := by
        first
        | (rw [if_pos (by omega)] at hI2; omega)
        | (have hk2 : xs.drop k = [] := List.drop_eq_nil_of_le (by omega)
           have h3 := hI.2.2
           rw [hk2] at h3
           simp only [rankF] at h3; omega)
      exact ⟨by rw [hz]; rfl, rfl, rfl⟩


set_option maxRecDepth 10000 in
theorem both_p (A B : Option Addr) (c d : Nat) (xs ys : List Rg) (h : Pls 60000 xs) (h2 : Pls 60000 ys) : Sp Tryz.prog 82 [.slice A xs.length c, .slice B ys.length d] [] [RdF rgD A c xs, RdF rgD B d ys] (Is (.int .i64 0)) := by
  refine Sp.of (n := 23) ⟨_, Tryz.func82, rfl, rfl, rfl, rfl⟩ (Nat.le_of_ble_eq_true rfl) fun Ps As => WC_seq (WC_region (Lq (q_assign rfl) (WL_nil (thenN (WC_seq (WC_seq (WC_region (Lq (q_move rfl) (WL_main rfl (OW_call0 (check_p A c xs h) (.cons rfl (.nil)) (by decide) (memc M0 mem0) fun u1_1 Lo fs hres => ?_))))))))))
  obtain ⟨x0, rfl, rfl, rfl⟩ := hres
  refine Lq (q_move rfl) (Lq (q_extract (vs := [_, _]) rfl rfl) (Lq (q_extract (vs := [_, _]) rfl rfl) (Lq (q_assign rfl) (Lq (q_assign rfl) (WL_nil (thenN (WC_seq (WC_region (Lq (q_move rfl) (Lq (q_neq rfl rfl) (WL_nil (thenN (WC_false rfl rfl (WC_skip (thenN (WC_seq (WC_region (Lq (q_move rfl) ?_))))))))))))))))))
  refine WL_main rfl (OW_call0 (check_p B d ys h2) (.cons rfl (.nil)) (by decide) (memc M1 mem0) fun u4_1 Lo fs hres => ?_)
  obtain ⟨x1, rfl, rfl, rfl⟩ := hres
  refine Lq (q_move rfl) (Lq (q_extract (vs := [_, _]) rfl rfl) (Lq (q_extract (vs := [_, _]) rfl rfl) (Lq (q_assign rfl) (Lq (q_assign rfl) (WL_nil (thenN (WC_fr [(8, _), (4, _)] (.cons rfl (.cons rfl (.nil _))) (WC_seq (WC_region (Lq (q_move rfl) (Lq (q_assign rfl) ?_)))))))))))
  refine WL_nil (thenN (WC_ret ?_))
  refine ⟨_, [], [], fun Z w hs => .tmp rfl (.nil), ?_, fun Z w hs => hs.out (Sr) (fun _ h => h)⟩
  exact ⟨rfl, rfl, rfl⟩


set_option maxRecDepth 10000 in
theorem less_p (x y : Rg) (hx : -60000 ≤ x.lo ∧ x.lo ≤ 1048576) (hy : -60000 ≤ y.lo ∧ y.lo ≤ 1048576) : Sp Tryz.prog 84 [.agg (rgC x).toArray, .agg (rgC y).toArray] [] [] (Is (.int .i64 (x.lo - y.lo))) := by
  refine Sp.of (n := 10) ⟨_, Tryz.func84, rfl, rfl, rfl, rfl⟩ (Nat.le_of_ble_eq_true rfl) fun Ps As => WC_seq (WC_region (WL_main rfl (OW_box (cs := [_, _]) rfl rfl (by decide) fun b2 => WL_main rfl (OW_box (cs := [_, _]) rfl rfl (by decide) fun b3 => Lq (q_assign rfl) (WL_nil (thenN (WC_seq (WC_region (Lq (q_field (o' := 0) Un119 rfl ti3 rfl rfl) (Lq (q_load1 Un3 rfl rfl (ownS (own0)) rfl) (Lq (q_field (o' := 0) Un119 rfl ti3 rfl rfl) (Lq (q_load1 Un3 rfl rfl own0 rfl) ?_))))))))))))
  refine Lq (q_sub rfl rfl (wr64 (by omega))) (Lq (q_assign rfl) (WL_nil (thenN (WC_ret ?_))))
  refine ⟨_, [], [], fun Z w hs => .tmp rfl (.nil), ?_, fun Z w hs => hs.out (Sd (Sd (Sr))) (fun _ h => h)⟩
  exact ⟨rfl, rfl, rfl⟩


set_option maxRecDepth 10000 in
theorem oown_s (o : GOp) (A : Option Addr) (c : Nat) (hf : Fit o) : Sp Tryz.prog 55 [opV o A c] [] [barF, RdF rgD A c o.rs] (Is (.int .i64 (ownF o))) := by
  refine Sp.of (n := 23) ⟨_, Tryz.func55, rfl, rfl, rfl, rfl⟩ (Nat.le_of_ble_eq_true rfl) fun Ps As => WC_seq (WC_region (WL_main rfl (OW_box (cs := [_, _, _, _, _, _, _, _, _]) rfl rfl (by decide) fun b1 => Lq (q_assign rfl) (WL_nil (thenN (WC_seq (WC_seq (WC_region (Lq (q_field (o' := 0) Un47 rfl ti44 rfl rfl) (Lq (q_field (o' := 2) Un44 rfl ti42 rfl rfl) (Lq (q_load1 Un42 rfl rfl own0 rfl) (Lq (q_eql rfl rfl) (Lq (q_move rfl) ?_)))))))))))))
  refine WL_guard (t := 7) rfl (fun g7 => ?_) (fun g7 => ?_)
  · refine Lg rfl rfl rfl g7 (q_field (o' := 3) Un47 rfl ti3 rfl rfl) (Lg rfl rfl rfl g7 (q_load1 Un3 rfl rfl own0 rfl) (Lg rfl rfl rfl g7 (q_geq rfl rfl) (Lq (q_pickT rfl g7 rfl) (Lq (q_move rfl) (WL_guard (t := 12) rfl (fun g12 => ?_) (fun g12 => ?_))))))
    · refine Lg rfl rfl rfl g12 (q_field (o' := 3) Un47 rfl ti3 rfl rfl) (Lg rfl rfl rfl g12 (q_load1 Un3 rfl rfl own0 rfl) (Lg rfl rfl rfl g12 (q_leq rfl rfl) (Lq (q_pickT rfl g12 rfl) (WL_nil (thenN (WC_fr [(16, _), (2, _), (1, _)] (.cons rfl (.cons rfl (.cons rfl (.nil _)))) (WC_cond rfl (fun h16 => ?_) (fun h16 => ?_))))))))
      · refine WC_seq (WC_region (Lq (q_loadN (vs := [_, _, _, _, _, _, _, _, _]) Un47 rfl ti47 rfl own0 rfl rfl) (Lq (q_field (o' := 3) Un47 rfl ti3 rfl rfl) (Lq (q_load1 Un3 rfl rfl own0 rfl) (WL_main rfl (OW_call0 (opCheck_s o A c o.at_ (by have := hf.text; omega) hf.rs) (.cons rfl (.cons rfl (.nil))) (by decide) (memc M0 (memc M1 mem0)) fun u2_3 Lo fs hres => ?_))))))
        obtain ⟨rfl, rfl, rfl⟩ := hres
        refine Lq (q_assign rfl) (WL_nil (thenN (WC_ret (thenRet ?_))))
        refine ⟨_, [], [], fun Z w hs => .tmp rfl (.nil), ?_, fun Z w hs => hs.out (Sd (Sr)) (fun _ h => h)⟩
        try simp only [Bp, Bq] at *
        exact ⟨congrArg (Value.int .i64) (by unfold ownF; first | rw [if_pos (by omega)] | rw [if_neg (by omega)]), rfl, rfl⟩
      · refine WC_skip (thenN (WC_seq (WC_region (Lq (q_loadN (vs := [_, _, _, _, _, _, _, _, _]) Un47 rfl ti47 rfl own0 rfl rfl) (WL_main rfl (OW_call0 (opCheck_s o A c 1048576 (by have := hf.text; omega) hf.rs) (.cons rfl (.cons rfl (.nil))) (by decide) (memc M0 (memc M1 mem0)) fun u3_1 Lo fs hres => ?_))))))
        obtain ⟨rfl, rfl, rfl⟩ := hres
        refine Lq (q_assign rfl) (WL_nil (thenN (WC_ret ?_)))
        refine ⟨_, [], [], fun Z w hs => .tmp rfl (.nil), ?_, fun Z w hs => hs.out (Sd (Sr)) (fun _ h => h)⟩
        try simp only [Bp, Bq] at *
        exact ⟨congrArg (Value.int .i64) (by unfold ownF; first | rw [if_pos (by omega)] | rw [if_neg (by omega)]), rfl, rfl⟩
    · refine Ln rfl rfl rfl g12 (Ln rfl rfl rfl g12 (Ln rfl rfl rfl g12 (Lq (q_pickF rfl g12 rfl) (WL_nil (thenN (WC_fr [(16, _), (2, _), (1, _)] (.cons rfl (.cons rfl (.cons rfl (.nil _)))) (WC_false rfl rfl (WC_skip (thenN (WC_seq (WC_region (Lq (q_loadN (vs := [_, _, _, _, _, _, _, _, _]) Un47 rfl ti47 rfl own0 rfl rfl) (WL_main rfl (OW_call0 (opCheck_s o A c 1048576 (by have := hf.text; omega) hf.rs) (.cons rfl (.cons rfl (.nil))) (by decide) (memc M0 (memc M1 mem0)) fun u3_1 Lo fs hres => ?_))))))))))))))
      obtain ⟨rfl, rfl, rfl⟩ := hres
      refine Lq (q_assign rfl) (WL_nil (thenN (WC_ret ?_)))
      refine ⟨_, [], [], fun Z w hs => .tmp rfl (.nil), ?_, fun Z w hs => hs.out (Sd (Sr)) (fun _ h => h)⟩
      try simp only [Bp, Bq] at *
      exact ⟨congrArg (Value.int .i64) (by unfold ownF; first | rw [if_pos (by omega)] | rw [if_neg (by omega)]), rfl, rfl⟩
  · refine Ln rfl rfl rfl g7 (Ln rfl rfl rfl g7 (Ln rfl rfl rfl g7 (Lq (q_pickF rfl g7 rfl) (Lq (q_move rfl) (Ln rfl rfl rfl rfl (Ln rfl rfl rfl rfl (Ln rfl rfl rfl rfl (Lq (q_pickF rfl rfl rfl) (WL_nil (thenN ?_))))))))))
    refine WC_fr [(16, _), (2, _), (1, _)] (.cons rfl (.cons rfl (.cons rfl (.nil _)))) (WC_false rfl rfl (WC_skip (thenN (WC_seq (WC_region (Lq (q_loadN (vs := [_, _, _, _, _, _, _, _, _]) Un47 rfl ti47 rfl own0 rfl rfl) (WL_main rfl (OW_call0 (opCheck_s o A c 1048576 (by have := hf.text; omega) hf.rs) (.cons rfl (.cons rfl (.nil))) (by decide) (memc M0 (memc M1 mem0)) fun u3_1 Lo fs hres => ?_))))))))
    obtain ⟨rfl, rfl, rfl⟩ := hres
    refine Lq (q_assign rfl) (WL_nil (thenN (WC_ret ?_)))
    refine ⟨_, [], [], fun Z w hs => .tmp rfl (.nil), ?_, fun Z w hs => hs.out (Sd (Sr)) (fun _ h => h)⟩
    try simp only [Bp, Bq] at *
    exact ⟨congrArg (Value.int .i64) (by unfold ownF; first | rw [if_pos (by omega)] | rw [if_neg (by omega)]), rfl, rfl⟩

end Go.Proofs.YtcjbjkbghgjmdaaGreatDoor
/- Walks: a sorted list is sorted. -/
namespace Go.Proofs.YtcjbjkbghgjmdaaGreatDoor
open Go Go.GW
/-- A list in order, in few cells. -/
structure Srt (xs : List Rg) : Prop where
 s : SortR 0 xs
 b : BelowR 60000 xs
theorem Srt.at_ {xs : List Rg} (h : Srt xs) {i : Nat} (hi : i < xs.length) : 0 ≤ xs[i].lo ∧ xs[i].lo < xs[i].hi ∧ xs[i].hi ≤ 60000 := by
 have h1 := h.s.mem _ (List.getElem_mem hi)
 have h2 := h.b _ (List.getElem_mem hi)
 omega
theorem Srt.len : ∀ {b : Int} {xs : List Rg}, SortR b xs → BelowR 60000 xs → b ≤ 60000 → b + xs.length ≤ 60000
 | b, [], _, _, h => by simpa using h
 | b, r :: rs, h, ht, _ => by
  have h1 := h.1
  have h2 := h.2.1
  have h3 := ht r List.mem_cons_self
  have := Srt.len h.2.2 (fun x hx => ht x (List.mem_cons_of_mem _ hx)) h3
  simp only [List.length_cons]; omega
theorem Srt.bd {xs : List Rg} (h : Srt xs) : xs.length ≤ 60000 := by
 have := Srt.len h.s h.b (by omega); omega
theorem len8_pos : ∀ n : Fin 256, (1 ≤ n.val → 1 ≤ Lib.len8 (n.val : Int)) ∧ 0 ≤ Lib.len8 (n.val : Int) ∧ Lib.len8 (n.val : Int) ≤ 8 := by decide +kernel
theorem q_len8 {P : Program} {l : Fr} {Ps : List Part} {As : List Fact} {d : Option Tmp} {ty : TypeId} {pos : String} {aft : Array Edge} {g : Option (Nat × Bool)} {T : TypeId} {x y : Operand} {k : IntKind} {i : Int} (hu : P.underlying T = some .string) (hx : evs l x = some (.string Lib.len8tab)) (hy : evs l y = some (.int k i)) (h0 : 0 ≤ i) (h1 : i ≤ 255) : QR P l Ps As ⟨d, .index T x y, ty, pos, aft, g⟩ (.int .u8 (Lib.len8 i)) := fun Z w ρ hs hρ => by
 have h := Lib.run_index_len8tab (P := P) w T k i hu h0 h1
 simp only [execOp, hρ _ _ hx, hρ _ _ hy, Sem.run_bind, h, Result.andThen_ok, Sem.run_pure]
theorem cvU (x : Int) (w : World) : (convert 3 174 (.int .i64 x)).run Tryz.prog w = .ok (.int .u64 (IntKind.u64.wrap x)) w := by kernel_rfl
theorem cvB (x : Int) (w : World) : (convert 190 5 (.int .u64 x)).run Tryz.prog w = .ok (.int .u8 (IntKind.u8.wrap x)) w := by kernel_rfl
theorem cvI (x : Int) (w : World) : (convert 5 3 (.int .u8 x)).run Tryz.prog w = .ok (.int .i64 (IntKind.i64.wrap x)) w := by kernel_rfl
theorem wu8 {x : Int} (h : 0 ≤ x ∧ x ≤ 255) : IntKind.u8.wrap x = x := by
 have : IntKind.u8.wrap x = x % 256 := rfl
 omega
theorem wu64 {x : Int} (h : 0 ≤ x ∧ x ≤ 60000) : IntKind.u64.wrap x = x := by
 have : IntKind.u64.wrap x = x % 18446744073709551616 := rfl
 omega

set_option maxRecDepth 10000 in
theorem len64_s (x : Nat) (hx : x ≤ 60000) (hb : ¬ 256 ≤ x) : Sp Tryz.prog 115 [.int .u64 x] [] [] (fun v Lo fs => v = .int .i64 (0 + Lib.len8 x) ∧ Lo = [] ∧ fs = []) := by
 have hx8 := (len8_pos ⟨x, by omega⟩).2
 have h8a : 0 ≤ Lib.len8 (x : Int) := hx8.1
 have h8b : Lib.len8 (x : Int) ≤ 8 := hx8.2
 refine Sp.of (n := 25) ⟨_, Tryz.func115, rfl, rfl, rfl, rfl⟩ (Nat.le_of_ble_eq_true rfl) fun Ps As => WC_seq (WC_region (Lq (q_assign rfl) (WL_nil (thenN (WC_seq (WC_seq (WC_region (Lq (q_move rfl) (Lq (q_geq rfl rfl) (WL_nil (thenN (WC_false rfl (by simp; omega) (WC_skip (thenN (WC_seq (WC_seq (WC_region (Lq (q_move rfl) ?_))))))))))))))))))
 refine Lq (q_geq rfl rfl) (WL_nil (thenN (WC_false rfl (by simp; omega) (WC_skip (thenN (WC_seq (WC_seq (WC_region (Lq (q_move rfl) (Lq (q_geq rfl rfl) (WL_nil (thenN (WC_false rfl (by simp; omega) (WC_skip (thenN (WC_seq (WC_region (Lq (q_move rfl) ?_))))))))))))))))))
 refine Lq (q_move rfl) (Lq (q_conv rfl (fun w => (cvB _ w).trans (by rw [wu8 (by omega)]))) (Lq (q_len8 Un9 rfl rfl (by omega) (by omega)) (Lq (q_conv rfl (fun w => (cvI _ w).trans (by rw [wr64 (by omega)]))) (Lq (q_add rfl rfl (wr64 (by omega))) (Lq (q_assign rfl) (WL_nil (thenN (WC_fr [(2, _)] (.cons rfl (.nil _)) (WC_ret ?_)))))))))
 refine ⟨_, [], [], fun Z w hs => .tmp rfl (.nil), ?_, fun Z w hs => hs.out (Sr) (fun _ h => h)⟩
 exact ⟨rfl, rfl, rfl⟩


set_option maxRecDepth 10000 in
theorem len64_b (x : Nat) (hx : x ≤ 60000) (hb : 256 ≤ x) : Sp Tryz.prog 115 [.int .u64 x] [] [] (fun v Lo fs => v = .int .i64 (8 + Lib.len8 ((x / 256 : Nat) : Int)) ∧ Lo = [] ∧ fs = []) := by
 have hx8 := (len8_pos ⟨x / 256, by omega⟩).2
 have h8a : 0 ≤ Lib.len8 ((x / 256 : Nat) : Int) := hx8.1
 have h8b : Lib.len8 ((x / 256 : Nat) : Int) ≤ 8 := hx8.2
 have hsh : (x : Int).fdiv (2 ^ (min (8 : Int).toNat IntKind.u64.bits)) = ((x / 256 : Nat) : Int) := by
  rw [show (2 : Int) ^ (min (8 : Int).toNat IntKind.u64.bits) = 256 from rfl, Int.fdiv_eq_ediv_of_nonneg _ (by decide)]; omega
 refine Sp.of (n := 25) ⟨_, Tryz.func115, rfl, rfl, rfl, rfl⟩ (Nat.le_of_ble_eq_true rfl) fun Ps As => WC_seq (WC_region (Lq (q_assign rfl) (WL_nil (thenN (WC_seq (WC_seq (WC_region (Lq (q_move rfl) (Lq (q_geq rfl rfl) (WL_nil (thenN (WC_false rfl (by simp; omega) (WC_skip (thenN (WC_seq (WC_seq (WC_region (Lq (q_move rfl) ?_))))))))))))))))))
 refine Lq (q_geq rfl rfl) (WL_nil (thenN (WC_false rfl (by simp; omega) (WC_skip (thenN (WC_seq (WC_seq (WC_region (Lq (q_move rfl) (Lq (q_geq rfl rfl) (WL_nil (thenN (WC_true rfl (by simp; omega) (WC_seq (WC_region (Lq (q_move rfl) ?_))))))))))))))))
 refine Lq (q_shr rfl rfl (by decide) hsh) (Lq (q_assign rfl) (WL_nil (thenN (WC_region (Lq (q_move rfl) (Lq (q_add rfl rfl (wr64 (by omega)) (c := 8)) (Lq (q_assign rfl) (WL_nil (thenN (WC_seq (WC_region (Lq (q_move rfl) (Lq (q_move rfl) (Lq (q_conv rfl (fun w => (cvB _ w).trans (by rw [wu8 (by omega)]))) ?_))))))))))))))
 refine Lq (q_len8 Un9 rfl rfl (by omega) (by omega)) (Lq (q_conv rfl (fun w => (cvI _ w).trans (by rw [wr64 (by omega)]))) (Lq (q_add rfl rfl (wr64 (by omega))) (Lq (q_assign rfl) (WL_nil (thenN (WC_fr [(2, _)] (.cons rfl (.nil _)) (WC_ret ?_)))))))
 refine ⟨_, [], [], fun Z w hs => .tmp rfl (.nil), ?_, fun Z w hs => hs.out (Sr) (fun _ h => h)⟩
 exact ⟨rfl, rfl, rfl⟩

def LenP (x : Nat) : Value → List Part → List Fact → Prop := fun v Lo fs => ∃ y : Int, v = .int .i64 y ∧ (1 ≤ x → y ≠ 0) ∧ Lo = [] ∧ fs = []
theorem len64_r (x : Nat) (hx : x ≤ 60000) : Sp Tryz.prog 115 [.int .u64 x] [] [] (LenP x) := by
 by_cases hb : 256 ≤ x
 ·refine (len64_b x hx hb).mono ?_
  rintro v Lo fs ⟨rfl, rfl, rfl⟩
  have h8a : 0 ≤ Lib.len8 ((x / 256 : Nat) : Int) := (len8_pos ⟨x / 256, by omega⟩).2.1
  exact ⟨_, rfl, fun _ => by omega, rfl, rfl⟩
 ·refine (len64_s x hx hb).mono ?_
  rintro v Lo fs ⟨rfl, rfl, rfl⟩
  refine ⟨_, rfl, fun h1 => ?_, rfl, rfl⟩
  have h8a : 1 ≤ Lib.len8 (x : Int) := (len8_pos ⟨x, by omega⟩).1 h1
  omega

set_option maxRecDepth 10000 in
theorem blen_r (x : Nat) (hx : x ≤ 60000) : Sp Tryz.prog 98 [.int .u64 x] [] [] (LenP x) := by
 refine Sp.of (n := 8) ⟨_, Tryz.func98, rfl, rfl, rfl, rfl⟩ (Nat.le_of_ble_eq_true rfl) fun Ps As => WC_seq (WC_region (Lq (q_assign rfl) (WL_nil (thenN (WC_seq (WC_false rfl rfl (WC_skip (thenN (WC_seq (WC_region (Lq (q_move rfl) (WL_main rfl (OW_call0 (len64_r x hx) (.cons rfl (.nil)) (by decide) mem0 fun u2_1 Lo fs hres => ?_)))))))))))))
 obtain ⟨y, rfl, hy, rfl, rfl⟩ := hres
 refine Lq (q_assign rfl) (WL_nil (thenN (WC_ret ?_)))
 refine ⟨_, [], [], fun Z w hs => .tmp rfl (.nil), ?_, fun Z w hs => hs.out (Sr) (fun _ h => h)⟩
 exact ⟨_, rfl, hy, rfl, rfl⟩


set_option maxRecDepth 10000 in
theorem order2_p (A : Option Addr) (c : Nat) (xs : List Rg) (hs : Srt xs) (a b : Nat) (hab : a ≤ b) (hb : b < xs.length) (sw : Option Addr) : Sp Tryz.prog 121 [.slice A xs.length c, .int .i64 a, .int .i64 b, .pointer sw, .func (.func 84) #[] #[]] [] [RdF rgD A c xs] (Is (.tuple #[.int .i64 a, .int .i64 b])) := by
 have ha : a < xs.length := by omega
 have hle := hs.s.le a b ha hb hab
 refine Sp.of (n := 32) ⟨_, Tryz.func121, rfl, rfl, rfl, rfl⟩ (Nat.le_of_ble_eq_true rfl) fun Ps As => WC_seq (WC_region (Lq (q_assign rfl) (Lq (q_assign rfl) (WL_nil (thenN (WC_seq (WC_seq ?_)))))))
 have q1 := hs.at_ hb
 have q2 := hs.at_ ha
 refine WC_elem (k := b) M0 (List.getElem?_eq_getElem hb) (rg_open _) fun bi qi yi ei => ?_
 cases ei
 refine WC_elem (k := a) M1 (List.getElem?_eq_getElem ha) (rg_open _) fun bj qj yj ej => ?_
 cases ej
 refine WC_draw _ _ [] (.c 0 0 (.c 1 0 (.c 2 0 (.c 3 0 (.c 4 0 (.c 5 0 (.c 6 0 (.c 7 0 (.c 8 0 (.c 9 2 (.c 10 0 .nil))))))))))) mixed (fun _ _ _ _ h => h) (Sr) (fun _ h => h) (by kernel_rfl) (by decide) fun ws Z0 => Qe rfl (q_move rfl) (Qe rfl (q_move rfl) (Qe rfl (q_move rfl) (Qe rfl (q_idxRd Un45 ti119 rfl rfl (by omega) (by omega)) (Qe rfl (q_loadFN (k := 0) (vs := [_, _]) Un119 rfl ti119 rfl M1 rfl rfl rfl) (Qe rfl (q_move rfl) (Qe rfl (q_move rfl) (Qe rfl (q_idxRd Un45 ti119 rfl rfl (by omega) (by omega)) (Qe rfl (q_loadFN (k := 0) (vs := [_, _]) Un119 rfl ti119 rfl M0 rfl rfl rfl) ?_))))))))
 refine WE_main rfl rfl (OW_callV (caps := []) rfl (less_p xs[b] xs[a] (by omega) (by omega)) (.cons rfl (.cons rfl .nil)) (by decide) (List.Perm.refl _) mem0 fun u1 Lo fs hres => ?_)
 obtain ⟨rfl, rfl, rfl⟩ := hres
 refine ⟨⟨(Sr), M0⟩, ?_⟩
 refine Qe rfl (q_lss rfl rfl) (WE_end (WF_nil (thenN (WC_fr [(22, _), (11, _), (10, _), (1, _), (2, _), (3, _)] (.cons rfl (.cons rfl (.cons rfl (.cons rfl (.cons rfl (.cons rfl (.nil _))))))) (WC_false rfl (by simp; omega) (WC_skip (thenN (WC_seq (WC_region (Lq (q_move rfl) (Lq (q_move rfl) (Lq (q_assign rfl) (Lq (q_assign rfl) ?_)))))))))))))
 refine WL_nil (thenN (WC_ret ?_))
 refine ⟨_, [], [], fun Z w hs => .tmp rfl (.tmp rfl (.nil)), ?_, fun Z w hs => hs.out (Sr) T3⟩
 exact ⟨rfl, rfl, rfl⟩


set_option maxRecDepth 10000 in
theorem median_p (A : Option Addr) (c : Nat) (xs : List Rg) (hs : Srt xs) (a b d : Nat) (hab : a ≤ b) (hbd : b ≤ d) (hd : d < xs.length) (sw : Option Addr) : Sp Tryz.prog 120 [.slice A xs.length c, .int .i64 a, .int .i64 b, .int .i64 d, .pointer sw, .func (.func 84) #[] #[]] [] [RdF rgD A c xs] (Is (.int .i64 b)) := by
 refine Sp.of (n := 41) ⟨_, Tryz.func120, rfl, rfl, rfl, rfl⟩ (Nat.le_of_ble_eq_true rfl) fun Ps As => WC_seq (WC_region (Lq (q_assign rfl) (WL_nil (thenN (WC_seq (WC_region (Lq (q_move rfl) (Lq (q_move rfl) (Lq (q_move rfl) (Lq (q_move rfl) (Lq (q_move rfl) (WL_main rfl (OW_call0 (order2_p A c xs hs a b hab (by omega) sw) (.cons rfl (.cons rfl (.cons rfl (.cons rfl (.cons rfl (.nil)))))) (by decide) (memc M0 mem0) fun u1_5 Lo fs hres => ?_)))))))))))))
 obtain ⟨rfl, rfl, rfl⟩ := hres
 refine Lq (q_move rfl) (Lq (q_extract (vs := [_, _]) rfl rfl) (Lq (q_extract (vs := [_, _]) rfl rfl) (Lq (q_assign rfl) (Lq (q_assign rfl) (WL_nil (thenN (WC_fr [(2, _), (1, _), (12, _), (0, _), (3, _), (4, _), (5, _)] (.cons rfl (.cons rfl (.cons rfl (.cons rfl (.cons rfl (.cons rfl (.cons rfl (.nil _)))))))) (WC_seq (WC_region (Lq (q_move rfl) (Lq (q_move rfl) ?_)))))))))))
 refine Lq (q_move rfl) (Lq (q_move rfl) (Lq (q_move rfl) (WL_main rfl (OW_call0 (order2_p A c xs hs b d hbd hd sw) (.cons rfl (.cons rfl (.cons rfl (.cons rfl (.cons rfl (.nil)))))) (by decide) (memc M0 mem0) fun u2_5 Lo fs hres => ?_))))
 obtain ⟨rfl, rfl, rfl⟩ := hres
 refine Lq (q_move rfl) (Lq (q_extract (vs := [_, _]) rfl rfl) (Lq (q_extract (vs := [_, _]) rfl rfl) (Lq (q_assign rfl) (Lq (q_assign rfl) (WL_nil (thenN (WC_fr [(2, _), (1, _), (12, _), (0, _), (4, _), (5, _)] (.cons rfl (.cons rfl (.cons rfl (.cons rfl (.cons rfl (.cons rfl (.nil _))))))) (WC_seq (WC_region (Lq (q_move rfl) (Lq (q_move rfl) ?_)))))))))))
 refine Lq (q_move rfl) (Lq (q_move rfl) (Lq (q_move rfl) (WL_main rfl (OW_call0 (order2_p A c xs hs a b hab (by omega) sw) (.cons rfl (.cons rfl (.cons rfl (.cons rfl (.cons rfl (.nil)))))) (by decide) (memc M0 mem0) fun u3_5 Lo fs hres => ?_))))
 obtain ⟨rfl, rfl, rfl⟩ := hres
 refine Lq (q_move rfl) (Lq (q_extract (vs := [_, _]) rfl rfl) (Lq (q_extract (vs := [_, _]) rfl rfl) (Lq (q_assign rfl) (Lq (q_assign rfl) (WL_nil (thenN (WC_fr [(2, _), (12, _)] (.cons rfl (.cons rfl (.nil _))) (WC_seq (WC_region (Lq (q_move rfl) (Lq (q_assign rfl) ?_)))))))))))
 refine WL_nil (thenN (WC_ret ?_))
 refine ⟨_, [], [], fun Z w hs => .tmp rfl (.nil), ?_, fun Z w hs => hs.out (Sr) (fun _ h => h)⟩
 exact ⟨rfl, rfl, rfl⟩


set_option maxRecDepth 10000 in
theorem medAdj_p (A : Option Addr) (c : Nat) (xs : List Rg) (hs : Srt xs) (a : Nat) (ha : 1 ≤ a) (hb : a + 1 < xs.length) (sw : Option Addr) : Sp Tryz.prog 119 [.slice A xs.length c, .int .i64 a, .pointer sw, .func (.func 84) #[] #[]] [] [RdF rgD A c xs] (Is (.int .i64 a)) := by
 have hbd := hs.bd
 refine Sp.of (n := 18) ⟨_, Tryz.func119, rfl, rfl, rfl, rfl⟩ (Nat.le_of_ble_eq_true rfl) fun Ps As => WC_seq (WC_region (Lq (q_assign rfl) (WL_nil (thenN (WC_seq (WC_region (Lq (q_move rfl) (Lq (q_move rfl) (Lq (q_sub rfl rfl (by rw [wr64 (by omega)]; omega) (c := ((a - 1 : Nat) : Int))) (Lq (q_move rfl) (Lq (q_move rfl) (Lq (q_add rfl rfl (wr64 (by omega)) (c := ((a + 1 : Nat) : Int))) ?_))))))))))))
 refine Lq (q_move rfl) (Lq (q_move rfl) (WL_main rfl (OW_call0 (median_p A c xs hs (a - 1) a (a + 1) (by omega) (by omega) hb sw) (.cons rfl (.cons rfl (.cons rfl (.cons rfl (.cons rfl (.cons rfl (.nil))))))) (by decide) (memc M0 mem0) fun u1_8 Lo fs hres => ?_)))
 obtain ⟨rfl, rfl, rfl⟩ := hres
 refine Lq (q_assign rfl) (WL_nil (thenN (WC_fr [(8, _)] (.cons rfl (.nil _)) (WC_ret ?_))))
 refine ⟨_, [], [], fun Z w hs => .tmp rfl (.nil), ?_, fun Z w hs => hs.out (Sr) (fun _ h => h)⟩
 exact ⟨rfl, rfl, rfl⟩


set_option maxRecDepth 10000 in
theorem pivot_p (A : Option Addr) (c : Nat) (xs : List Rg) (hs : Srt xs) (h12 : 12 < xs.length) : Sp Tryz.prog 109 [.slice A xs.length c, .int .i64 0, .int .i64 xs.length, .func (.func 84) #[] #[]] [] [RdF rgD A c xs] (fun v Lo fs => ∃ j : Nat, v = .tuple #[.int .i64 j, .int .i64 1] ∧ Lo = [] ∧ fs = []) := by
 have hbd := hs.bd
 have htd : (xs.length : Int).tdiv 4 = ((xs.length / 4 : Nat) : Int) := by rw [Int.tdiv_eq_ediv_of_nonneg (by omega)]; omega
 obtain ⟨i, hi⟩ : ∃ i, i = xs.length / 4 := ⟨_, rfl⟩
 rw [← hi] at htd
 obtain ⟨j, hj⟩ : ∃ j, j = 2 * i := ⟨_, rfl⟩
 obtain ⟨k, hk⟩ : ∃ k, k = 3 * i := ⟨_, rfl⟩
 refine Sp.of (n := 63) ⟨_, Tryz.func109, rfl, rfl, rfl, rfl⟩ (Nat.le_of_ble_eq_true rfl) fun Ps As => WC_seq (WC_region (Lq (q_assign rfl) (Lq (q_assign rfl) (WL_nil (thenN (WC_seq (WC_region (Lq (q_move rfl) (Lq (q_move rfl) (Lq (q_sub rfl rfl (by rw [wr64 (by omega)]; omega) (c := ((xs.length : Nat) : Int))) (Lq (q_assign rfl) (WL_nil (thenN (WC_seq (WC_region ?_)))))))))))))))
 refine WL_main rfl (OW_alloc (cs := [_]) ti3 rfl (by decide) fun b11 => WL_nil (thenN (WC_seq (WC_region (Lq (q_move rfl) (Lq (q_move rfl) (Lq (q_quo rfl rfl (by decide) (by rw [htd]; exact wr64 (by omega)) (c := (i : Int))) (Lq (q_mul rfl rfl (by rw [Int.mul_one]; exact wr64 (by omega)) (c := (i : Int))) (Lq (q_add rfl rfl (by rw [Int.zero_add]; exact wr64 (by omega)) (c := (i : Int))) (Lq (q_assign rfl) (WL_nil (thenN (WC_seq (WC_region (Lq (q_move rfl) ?_)))))))))))))))
 refine Lq (q_move rfl) (Lq (q_quo rfl rfl (by decide) (by rw [htd]; exact wr64 (by omega)) (c := (i : Int))) (Lq (q_mul rfl rfl (by rw [wr64 (by omega)]; omega) (c := (j : Int))) (Lq (q_add rfl rfl (by rw [Int.zero_add]; exact wr64 (by omega)) (c := (j : Int))) (Lq (q_assign rfl) (WL_nil (thenN (WC_seq (WC_region (Lq (q_move rfl) (Lq (q_move rfl) (Lq (q_quo rfl rfl (by decide) (by rw [htd]; exact wr64 (by omega)) (c := (i : Int))) (Lq (q_mul rfl rfl (by rw [wr64 (by omega)]; omega) (c := (k : Int))) ?_))))))))))))
 refine Lq (q_add rfl rfl (by rw [Int.zero_add]; exact wr64 (by omega)) (c := (k : Int))) (Lq (q_assign rfl) (WL_nil (thenN (WC_seq (WC_seq (WC_region (Lq (q_move rfl) (Lq (q_geq rfl rfl) (WL_nil (thenN (WC_true rfl (by simp; omega) (WC_seq (WC_seq (WC_region (Lq (q_move rfl) (Lq (q_geq rfl rfl) ?_))))))))))))))))
 refine WL_nil (thenN (WC_cond rfl (fun h36 => ?_) (fun h36 => ?_)))
 ·simp only [decide_eq_true_eq] at h36
  refine WC_seq (WC_region (Lq (q_move rfl) (Lq (q_move rfl) (Lq (q_move rfl) (WL_main rfl (OW_call0 (medAdj_p A c xs hs i (by omega) (by omega) _) (.cons rfl (.cons rfl (.cons rfl (.cons rfl (.nil))))) (by decide) (memc M0 mem0) fun u8_3 Lo fs hres => ?_))))))
  obtain ⟨rfl, rfl, rfl⟩ := hres
  refine Lq (q_assign rfl) (WL_nil (thenN (WC_seq (WC_region (Lq (q_move rfl) (Lq (q_move rfl) (Lq (q_move rfl) (WL_main rfl (OW_call0 (medAdj_p A c xs hs j (by omega) (by omega) _) (.cons rfl (.cons rfl (.cons rfl (.cons rfl (.nil))))) (by decide) (memc M0 mem0) fun u9_3 Lo fs hres => ?_)))))))))
  obtain ⟨rfl, rfl, rfl⟩ := hres
  refine Lq (q_assign rfl) (WL_nil (thenN (WC_fr [(13, _), (12, _), (14, _), (11, _), (9, _), (8, _), (0, _), (3, _)] (.cons rfl (.cons rfl (.cons rfl (.cons rfl (.cons rfl (.cons rfl (.cons rfl (.cons rfl (.nil _))))))))) (WC_region (Lq (q_move rfl) (Lq (q_move rfl) (Lq (q_move rfl) (WL_main rfl (OW_call0 (medAdj_p A c xs hs k (by omega) (by omega) _) (.cons rfl (.cons rfl (.cons rfl (.cons rfl (.nil))))) (by decide) (memc M0 mem0) fun u10_3 Lo fs hres => ?_)))))))))
  obtain ⟨rfl, rfl, rfl⟩ := hres
  refine Lq (q_assign rfl) (WL_nil (thenN (WC_region (Lq (q_move rfl) (Lq (q_move rfl) (Lq (q_move rfl) (Lq (q_move rfl) (Lq (q_move rfl) (WL_main rfl (OW_call0 (median_p A c xs hs i j k (by omega) (by omega) (by omega) _) (.cons rfl (.cons rfl (.cons rfl (.cons rfl (.cons rfl (.cons rfl (.nil))))))) (by decide) (memc M0 mem0) fun u11_5 Lo fs hres => ?_))))))))))
  obtain ⟨rfl, rfl, rfl⟩ := hres
  refine Lq (q_assign rfl) (WL_nil (thenN (WC_seq (WC_region (Lq (q_load1 Un3 rfl rfl own0 rfl) (WL_nil (thenN (WC_block (WC_seq (WC_region (Lq (q_eql rfl rfl) (Lq (q_assign rfl) (WL_nil (thenN (WC_true rfl rfl (WC_seq (WC_region (Lq (q_move rfl) (Lq (q_assign rfl) (Lq (q_assign rfl) ?_))))))))))))))))))))
  refine WL_nil (thenN (WC_ret (blockRet ?_)))
  refine ⟨_, [], [], fun Z w hs => .tmp rfl (.tmp rfl (.nil)), ?_, fun Z w hs => hs.out (Sd (Sr)) (fun _ h => h)⟩
  exact ⟨j, rfl, rfl, rfl⟩
 ·simp only [decide_eq_false_iff_not] at h36
  refine WC_skip (thenN (WC_region (Lq (q_move rfl) (Lq (q_move rfl) (Lq (q_move rfl) (Lq (q_move rfl) (Lq (q_move rfl) (WL_main rfl (OW_call0 (median_p A c xs hs i j k (by omega) (by omega) (by omega) _) (.cons rfl (.cons rfl (.cons rfl (.cons rfl (.cons rfl (.cons rfl (.nil))))))) (by decide) (memc M0 mem0) fun u11_5 Lo fs hres => ?_)))))))))
  obtain ⟨rfl, rfl, rfl⟩ := hres
  refine Lq (q_assign rfl) (WL_nil (thenN (WC_seq (WC_region (Lq (q_load1 Un3 rfl rfl own0 rfl) (WL_nil (thenN (WC_fr [(55, _), (13, _), (9, _), (8, _)] (.cons rfl (.cons rfl (.cons rfl (.cons rfl (.nil _))))) (WC_block (WC_seq (WC_region (Lq (q_eql rfl rfl) (Lq (q_assign rfl) (WL_nil (thenN (WC_true rfl rfl (WC_seq (WC_region (Lq (q_move rfl) ?_)))))))))))))))))))
  refine Lq (q_assign rfl) (Lq (q_assign rfl) (WL_nil (thenN (WC_ret (blockRet ?_)))))
  refine ⟨_, [], [], fun Z w hs => .tmp rfl (.tmp rfl (.nil)), ?_, fun Z w hs => hs.out (Sd (Sr)) (fun _ h => h)⟩
  exact ⟨j, rfl, rfl, rfl⟩


set_option maxRecDepth 10000 in
theorem partial_p (A : Option Addr) (c : Nat) (xs : List Rg) (hs : Srt xs) (h0 : 0 < xs.length) : Sp Tryz.prog 111 [.slice A xs.length c, .int .i64 0, .int .i64 xs.length, .func (.func 84) #[] #[]] [] [RdF rgD A c xs] (Is (.bool true)) := by
 have hbd := hs.bd
 refine Sp.of (n := 141) ⟨_, Tryz.func111, rfl, rfl, rfl, rfl⟩ (Nat.le_of_ble_eq_true rfl) fun Ps As => WC_seq (WC_region (Lq (q_assign rfl) (WL_nil (thenN (WC_seq (WC_region (Lq (q_move rfl) (Lq (q_add rfl rfl (wr64 (by omega)) (c := 1)) (Lq (q_assign rfl) (WL_nil (thenN (WC_seq (WC_seq (WC_region (Lq (q_assign rfl) (WL_nil (thenN (WC_block ?_))))))))))))))))))
 refine WC_loopE (α := Nat) (fun z => z)
  (fun z => [(0, .slice A xs.length c), (1, .int .i64 0), (2, .int .i64 xs.length), (3, .func (.func 84) #[] #[]), (9, .int .i64 1), (10, .int .i64 0)])
  (fun z => Ps)
  (fun z => (RdF rgD A c xs :: As))
  (fun z => z = z)
  0 ?_ (.cons rfl (.cons rfl (.cons rfl (.cons rfl (.cons rfl (.cons rfl (.nil _))))))) (Sr) (fun _ h => h) ?_
 ·rfl
 ·rintro z hz
  refine WC_seq (WC_seq (WC_region (Lq (q_move rfl) (Lq (q_lss rfl rfl) (WL_nil (thenN (WC_true rfl rfl (WC_skip (thenN (WC_seq (WC_block (WC_seq (WC_block ?_)))))))))))))
  refine WC_loopE (α := Nat) (fun i => xs.length - i)
   (fun i => [(0, .slice A xs.length c), (1, .int .i64 0), (2, .int .i64 xs.length), (3, .func (.func 84) #[] #[]), (9, .int .i64 i), (10, .int .i64 0)])
   (fun i => Ps)
   (fun i => (RdF rgD A c xs :: As))
   (fun i => 1 ≤ i ∧ i ≤ xs.length)
   1 ?_ (.cons rfl (.cons rfl (.cons rfl (.cons rfl (.cons rfl (.cons rfl (.nil _))))))) (Sr) (fun _ h => h) ?_
  ·exact ⟨Nat.le_refl _, by omega⟩
  ·rintro i hI
   refine WC_seq (WC_seq ?_)
   by_cases hin : i < xs.length
   ·have hi1 : i - 1 < xs.length := by omega
    have hle := hs.s.le (i - 1) i hi1 hin (by omega)
    have q1 := hs.at_ hin
    have q2 := hs.at_ hi1
    refine WC_elem (k := i) M0 (List.getElem?_eq_getElem hin) (rg_open _) fun bi qi yi ei => ?_
    cases ei
    refine WC_elem (k := (i - 1)) M1 (List.getElem?_eq_getElem hi1) (rg_open _) fun bj qj yj ej => ?_
    cases ej
    refine WC_draw _ _ [] (.c 0 0 (.c 1 0 (.c 2 0 (.c 3 0 (.c 4 0 (.c 5 0 (.c 6 0 (.c 7 0 (.c 8 0 (.c 9 0 (.c 10 0 (.c 11 0 (.c 12 0 (.c 13 0 (.c 14 2 (.c 15 0 (.c 16 0 (.c 17 0 .nil)))))))))))))))))) mixed (fun _ _ _ _ h => h) (Sr) (fun _ h => h) (by kernel_rfl) (by decide) fun ws Z0 => Qe rfl (q_move rfl) (Qe rfl (q_move rfl) (Qe rfl (q_lss rfl rfl) (Qe rfl (q_move rfl) (WE_gq rfl rfl rfl rfl (by simp; omega) (q_move rfl) (by decide) (WE_gq rfl rfl rfl rfl (by simp; omega) (q_move rfl) (by decide) (WE_gq rfl rfl rfl rfl (by simp; omega) (q_move rfl) (by decide) (WE_gq rfl rfl rfl rfl (by simp; omega) (q_idxRd Un45 ti119 rfl rfl (by omega) (by omega)) (by decide) (WE_gq rfl rfl rfl rfl (by simp; omega) (q_loadFN (k := 0) (vs := [_, _]) Un119 rfl ti119 rfl M1 rfl rfl rfl) (by decide) ?_))))))))
    refine WE_gq rfl rfl rfl rfl (by simp; omega) (q_move rfl) (by decide) (WE_gq rfl rfl rfl rfl (by simp; omega) (q_move rfl) (by decide) (WE_gq rfl rfl rfl rfl (by simp; omega) (q_sub rfl rfl (by rw [wr64 (by omega)]; omega) (c := ((i - 1 : Nat) : Int))) (by decide) (WE_gq rfl rfl rfl rfl (by simp; omega) (q_idxRd Un45 ti119 rfl rfl (by omega) (by omega)) (by decide) (WE_gq rfl rfl rfl rfl (by simp; omega) (q_loadFN (k := 0) (vs := [_, _]) Un119 rfl ti119 rfl M0 rfl rfl rfl) (by decide) (WE_gmain rfl rfl rfl rfl rfl (by simp; omega) (OW_callV (caps := []) rfl (less_p xs[i] xs[(i - 1)] (by omega) (by omega)) (.cons rfl (.cons rfl .nil)) (by decide) (List.Perm.refl _) mem0 fun u1 Lo fs hres => ?_))))))
    obtain ⟨rfl, rfl, rfl⟩ := hres
    refine ⟨⟨(Sr), M0⟩, ?_⟩
    refine WE_gq rfl rfl rfl rfl (by simp; omega) (q_lss rfl rfl) (by decide) (WE_gq rfl rfl rfl rfl (by simp; omega) (q_not rfl) (by decide) (Qe rfl (q_pickT rfl (by simp; omega) rfl) (WE_end (WF_nil (thenN (WC_true rfl (by simp; omega) (WC_skip (thenN (WC_block (WC_region (Lq (q_move rfl) (Lq (q_add rfl rfl (wr64 (by omega)) (c := ((i + 1 : Nat) : Int))) (Lq (q_assign rfl) ?_)))))))))))))
    refine WL_nil (blockN (thenK ?_))
    refine ⟨i + 1, ?_, (.cons rfl (.cons rfl (.cons rfl (.cons rfl (.cons rfl (.cons rfl (.nil _))))))), (Sr), T3⟩
    exact ⟨by omega, by omega, by omega⟩
   ·obtain rfl : i = xs.length := by omega
    refine WC_draw _ _ [] (.c 0 0 (.c 1 0 (.c 2 0 (.c 3 0 (.c 4 0 (.c 5 0 (.c 6 0 (.c 7 0 (.c 8 0 (.c 9 0 (.c 10 0 (.c 11 0 (.c 12 0 (.c 13 0 (.c 14 2 (.c 15 0 (.c 16 0 (.c 17 0 .nil)))))))))))))))))) mixed (fun _ _ _ _ h => h) (Sr) (fun _ h => h) (by kernel_rfl) (by decide) fun ws Z0 => Qe rfl (q_move rfl) (Qe rfl (q_move rfl) (Qe rfl (q_lss rfl rfl) (Qe rfl (q_move rfl) (WE_gno rfl rfl rfl rfl (by simp) (by decide) (WE_gno rfl rfl rfl rfl (by simp) (by decide) (WE_gno rfl rfl rfl rfl (by simp) (by decide) (WE_gno rfl rfl rfl rfl (by simp) (by decide) (WE_gno rfl rfl rfl rfl (by simp) (by decide) ?_))))))))
    refine WE_gno rfl rfl rfl rfl (by simp) (by decide) (WE_gno rfl rfl rfl rfl (by simp) (by decide) (WE_gno rfl rfl rfl rfl (by simp) (by decide) (WE_gno rfl rfl rfl rfl (by simp) (by decide) (WE_gno rfl rfl rfl rfl (by simp) (by decide) (WE_gnom rfl rfl rfl rfl (by simp) (by decide) (WE_gno rfl rfl rfl rfl (by simp) (by decide) (WE_gno rfl rfl rfl rfl (by simp) (by decide) (Qe rfl (q_pickF rfl (by simp) rfl) (WE_end (WF_nil ?_))))))))))
    refine thenN (WC_false rfl rfl (WC_exit (thenExit (thenExit (blockHit (thenN (WC_seq (WC_seq (WC_region (Lq (q_move rfl) (Lq (q_move rfl) (Lq (q_eql rfl rfl) (WL_nil (thenN (WC_true rfl (by simp) (WC_seq (WC_region (Lq (q_assign rfl) (WL_nil (thenN (WC_ret (thenRet (blockRet (thenRet (thenRet (blockRet ?_))))))))))))))))))))))))))
    refine thenRet ?_
    refine ⟨_, [], [], fun Z w hs => .tmp rfl (.nil), ?_, fun Z w hs => hs.out (Sr) T1⟩
    exact ⟨rfl, rfl, rfl⟩


set_option maxRecDepth 10000 in
theorem insertion_p (A : Option Addr) (c : Nat) (xs : List Rg) (hs : Srt xs) : Sp Tryz.prog 106 [.slice A xs.length c, .int .i64 0, .int .i64 xs.length, .func (.func 84) #[] #[]] [] [RdF rgD A c xs] (Is (.tuple #[])) := by
 have hbd := hs.bd
 refine Sp.of (n := 53) ⟨_, Tryz.func106, rfl, rfl, rfl, rfl⟩ (Nat.le_of_ble_eq_true rfl) fun Ps As => WC_seq (WC_region (Lq (q_move rfl) (Lq (q_add rfl rfl (wr64 (by omega)) (c := ((1 : Nat) : Int))) (Lq (q_assign rfl) (WL_nil (thenN (WC_block ?_)))))))
 refine WC_loopE (α := Nat) (fun i => xs.length + 1 - i)
  (fun i => [(0, .slice A xs.length c), (1, .int .i64 0), (2, .int .i64 xs.length), (3, .func (.func 84) #[] #[]), (8, .int .i64 i)])
  (fun i => Ps)
  (fun i => (RdF rgD A c xs :: As))
  (fun i => 1 ≤ i)
  1 ?_ (.cons rfl (.cons rfl (.cons rfl (.cons rfl (.cons rfl (.nil _)))))) (Sr) (fun _ h => h) ?_
 ·exact Nat.le_refl _
 ·rintro i hI
  refine WC_seq (WC_seq (WC_region (Lq (q_move rfl) (Lq (q_move rfl) (Lq (q_lss rfl rfl) (WL_nil (thenN (WC_cond rfl (fun h14 => ?_) (fun h14 => ?_)))))))))
  ·refine WC_skip (thenN (WC_seq (WC_block (WC_seq ?_))))
   try simp only [Bp, Bq] at *
   have hin : i < xs.length := by omega
   refine WC_region (Lq (q_move rfl) (Lq (q_assign rfl) (WL_nil (thenN (WC_block ?_)))))
   refine WC_loopE (α := Nat) (fun z => z)
    (fun z => [(0, .slice A xs.length c), (1, .int .i64 0), (2, .int .i64 xs.length), (3, .func (.func 84) #[] #[]), (8, .int .i64 i), (9, .int .i64 i)])
    (fun z => Ps)
    (fun z => (RdF rgD A c xs :: As))
    (fun z => z = z)
    0 ?_ (.cons rfl (.cons rfl (.cons rfl (.cons rfl (.cons rfl (.cons rfl (.nil _))))))) (Sr) (fun _ h => h) ?_
   ·rfl
   ·rintro z hz
    refine WC_seq (WC_seq ?_)
    have hi1 : i - 1 < xs.length := by omega
    have hle := hs.s.le (i - 1) i hi1 hin (by omega)
    have q1 := hs.at_ hin
    have q2 := hs.at_ hi1
    refine WC_elem (k := i) M0 (List.getElem?_eq_getElem hin) (rg_open _) fun bi qi yi ei => ?_
    cases ei
    refine WC_elem (k := (i - 1)) M1 (List.getElem?_eq_getElem hi1) (rg_open _) fun bj qj yj ej => ?_
    cases ej
    refine WC_draw _ _ [] (.c 0 0 (.c 1 0 (.c 2 0 (.c 3 0 (.c 4 0 (.c 5 0 (.c 6 0 (.c 7 0 (.c 8 0 (.c 9 0 (.c 10 0 (.c 11 0 (.c 12 0 (.c 13 0 (.c 14 2 (.c 15 0 (.c 16 0 .nil))))))))))))))))) mixed (fun _ _ _ _ h => h) (Sr) (fun _ h => h) (by kernel_rfl) (by decide) fun ws Z0 => Qe rfl (q_move rfl) (Qe rfl (q_move rfl) (Qe rfl (q_gtr rfl rfl) (Qe rfl (q_move rfl) (WE_gq rfl rfl rfl rfl (by simp; omega) (q_move rfl) (by decide) (WE_gq rfl rfl rfl rfl (by simp; omega) (q_move rfl) (by decide) (WE_gq rfl rfl rfl rfl (by simp; omega) (q_move rfl) (by decide) (WE_gq rfl rfl rfl rfl (by simp; omega) (q_idxRd Un45 ti119 rfl rfl (by omega) (by omega)) (by decide) (WE_gq rfl rfl rfl rfl (by simp; omega) (q_loadFN (k := 0) (vs := [_, _]) Un119 rfl ti119 rfl M1 rfl rfl rfl) (by decide) ?_))))))))
    refine WE_gq rfl rfl rfl rfl (by simp; omega) (q_move rfl) (by decide) (WE_gq rfl rfl rfl rfl (by simp; omega) (q_move rfl) (by decide) (WE_gq rfl rfl rfl rfl (by simp; omega) (q_sub rfl rfl (by rw [wr64 (by omega)]; omega) (c := ((i - 1 : Nat) : Int))) (by decide) (WE_gq rfl rfl rfl rfl (by simp; omega) (q_idxRd Un45 ti119 rfl rfl (by omega) (by omega)) (by decide) (WE_gq rfl rfl rfl rfl (by simp; omega) (q_loadFN (k := 0) (vs := [_, _]) Un119 rfl ti119 rfl M0 rfl rfl rfl) (by decide) (WE_gmain rfl rfl rfl rfl rfl (by simp; omega) (OW_callV (caps := []) rfl (less_p xs[i] xs[(i - 1)] (by omega) (by omega)) (.cons rfl (.cons rfl .nil)) (by decide) (List.Perm.refl _) mem0 fun u1 Lo fs hres => ?_))))))
    obtain ⟨rfl, rfl, rfl⟩ := hres
    refine ⟨⟨(Sr), M0⟩, ?_⟩
    refine WE_gq rfl rfl rfl rfl (by simp; omega) (q_lss rfl rfl) (by decide) (Qe rfl (q_pickT rfl (by simp; omega) rfl) (WE_end (WF_nil (thenN (WC_false rfl (by simp; omega) (WC_exit (thenExit (thenExit (blockHit (blockN (thenN (WC_region (Lq (q_move rfl) (Lq (q_add rfl rfl (wr64 (by omega)) (c := ((i + 1 : Nat) : Int))) (Lq (q_assign rfl) (WL_nil (thenK ?_)))))))))))))))))
    refine ⟨i + 1, ?_, (.cons rfl (.cons rfl (.cons rfl (.cons rfl (.cons rfl (.nil _)))))), (Sr), T3⟩
    exact ⟨by omega, by omega⟩
  ·refine WC_exit (thenExit (thenExit (blockHit ?_)))
   refine ⟨_, [], [], fun Z w hs => .nil, ?_, fun Z w hs => hs.out (Sr) (fun _ h => h)⟩
   exact ⟨rfl, rfl, rfl⟩


set_option maxRecDepth 10000 in
theorem pdq_p (A : Option Addr) (c : Nat) (xs : List Rg) (hs : Srt xs) (y : Int) (hy : 1 ≤ xs.length → y ≠ 0) : Sp Tryz.prog 97 [.slice A xs.length c, .int .i64 0, .int .i64 xs.length, .int .i64 y, .func (.func 84) #[] #[]] [] [RdF rgD A c xs] (Is (.tuple #[])) := by
 have hbd := hs.bd
 refine Sp.of (n := 148) ⟨_, Tryz.func97, rfl, rfl, rfl, rfl⟩ (Nat.le_of_ble_eq_true rfl) fun Ps As => WC_seq (WC_region (Lq (q_assign rfl) (WL_nil (thenN (WC_seq (WC_region (Lq (q_assign rfl) (WL_nil (thenN (WC_block ?_))))))))))
 refine WC_loopE (α := Nat) (fun z => z)
  (fun z => [(0, .slice A xs.length c), (1, .int .i64 0), (2, .int .i64 xs.length), (3, .int .i64 y), (4, .func (.func 84) #[] #[]), (10, .bool true), (11, .bool true)])
  (fun z => Ps)
  (fun z => (RdF rgD A c xs :: As))
  (fun z => z = z)
  0 ?_ (.cons rfl (.cons rfl (.cons rfl (.cons rfl (.cons rfl (.cons rfl (.cons rfl (.nil _)))))))) (Sr) (fun _ h => h) ?_
 ·rfl
 ·rintro z hz
  refine WC_block (WC_seq (WC_region (Lq (q_move rfl) (Lq (q_move rfl) (Lq (q_sub rfl rfl (by rw [wr64 (by omega)]; omega) (c := (xs.length : Int))) (Lq (q_assign rfl) (WL_nil (thenN (WC_seq (WC_seq (WC_region (Lq (q_move rfl) (Lq (q_leq rfl rfl) (WL_nil (thenN (WC_cond rfl (fun h25 => ?_) (fun h25 => ?_)))))))))))))))))
  ·refine WC_seq (WC_region (Lq (q_move rfl) (Lq (q_move rfl) (Lq (q_move rfl) (Lq (q_move rfl) (WL_main rfl (OW_call0 (insertion_p A c xs hs) (.cons rfl (.cons rfl (.cons rfl (.cons rfl (.nil))))) (by decide) (memc M0 mem0) fun u4_4 Lo fs hres => ?_)))))))
   obtain ⟨rfl, rfl, rfl⟩ := hres
   refine WL_nil (thenN (WC_ret (thenRet (blockRet (thenRet (blockRet ?_))))))
   refine ⟨_, [], [], fun Z w hs => .nil, ?_, fun Z w hs => hs.out (Sr) (fun _ h => h)⟩
   exact ⟨rfl, rfl, rfl⟩
  ·refine WC_skip (thenN (WC_seq (WC_seq (WC_region (Lq (q_move rfl) (Lq (q_eql rfl rfl) (WL_nil (thenN (WC_false rfl (by have := hy (by simp only [decide_eq_false_iff_not] at h25; omega); simpa using this) (WC_skip (thenN (WC_seq (WC_seq (WC_region (Lq (q_move rfl) (Lq (q_not rfl) (WL_nil (thenN (WC_false rfl rfl (WC_skip (thenN (WC_seq (WC_region (Lq (q_move rfl) ?_))))))))))))))))))))))))
   refine Lq (q_move rfl) (Lq (q_move rfl) (Lq (q_move rfl) (WL_main rfl (OW_call0 (pivot_p A c xs hs (by simp only [decide_eq_false_iff_not] at h25; omega)) (.cons rfl (.cons rfl (.cons rfl (.cons rfl (.nil))))) (by decide) (memc M0 mem0) fun u10_4 Lo fs hres => ?_))))
   obtain ⟨j, rfl, rfl, rfl⟩ := hres
   refine Lq (q_move rfl) (Lq (q_extract (vs := [_, _]) rfl rfl) (Lq (q_extract (vs := [_, _]) rfl rfl) (Lq (q_assign rfl) (Lq (q_assign rfl) (WL_nil (thenN (WC_seq (WC_seq (WC_region (Lq (q_move rfl) (Lq (q_eql rfl rfl) (WL_nil (thenN (WC_false rfl rfl (WC_skip (thenN (WC_seq (WC_seq (WC_region (Lq (q_move rfl) ?_))))))))))))))))))))
   refine Lq (q_move rfl) (Lg rfl rfl rfl rfl (q_move rfl) (Lq (q_pickT rfl rfl rfl) (Lq (q_move rfl) (Lg rfl rfl rfl rfl (q_move rfl) (Lg rfl rfl rfl rfl (q_eql rfl rfl) (Lq (q_pickT rfl rfl rfl) (WL_nil (thenN (WC_true rfl rfl (WC_seq (WC_region (Lq (q_move rfl) (Lq (q_move rfl) ?_)))))))))))))
   refine Lq (q_move rfl) (Lq (q_move rfl) (WL_main rfl (OW_call0 (partial_p A c xs hs (by simp only [decide_eq_false_iff_not] at h25; omega)) (.cons rfl (.cons rfl (.cons rfl (.cons rfl (.nil))))) (by decide) (memc M0 mem0) fun u16_4 Lo fs hres => ?_)))
   obtain ⟨rfl, rfl, rfl⟩ := hres
   refine WL_nil (thenN (WC_true rfl rfl (WC_ret (thenRet (blockRet (thenRet (blockRet ?_)))))))
   refine ⟨_, [], [], fun Z w hs => .nil, ?_, fun Z w hs => hs.out (Sr) (fun _ h => h)⟩
   exact ⟨rfl, rfl, rfl⟩


set_option maxRecDepth 10000 in
theorem sort_p (A : Option Addr) (c : Nat) (xs : List Rg) (hs : Srt xs) : Sp Tryz.prog 83 [.slice A xs.length c, .func (.func 84) #[] #[]] [] [RdF rgD A c xs] (Is (.tuple #[])) := by
 have hbd := hs.bd
 refine Sp.of (n := 14) ⟨_, Tryz.func83, rfl, rfl, rfl, rfl⟩ (Nat.le_of_ble_eq_true rfl) fun Ps As => WC_seq (WC_region (Lq (q_move rfl) (Lq (q_len Un45 rfl) (Lq (q_assign rfl) (WL_nil (thenN (WC_region (Lq (q_move rfl) (Lq (q_move rfl) (Lq (q_move rfl) (Lq (q_conv rfl (fun w => (cvU _ w).trans (by rw [wu64 (by omega)]))) ?_)))))))))))
 refine WL_main rfl (OW_call0 (blen_r xs.length (by omega)) (.cons rfl (.nil)) (by decide) mem0 fun u1_4 Lo fs hres => ?_)
 obtain ⟨y, rfl, hy, rfl, rfl⟩ := hres
 refine Lq (q_move rfl) (WL_main rfl (OW_call0 (pdq_p A c xs hs y hy) (.cons rfl (.cons rfl (.cons rfl (.cons rfl (.cons rfl (.nil)))))) (by decide) (memc M0 mem0) fun u1_6 Lo fs hres => ?_))
 obtain ⟨rfl, rfl, rfl⟩ := hres
 refine WL_nil ?_
 refine ⟨_, [], [], fun Z w hs => .nil, ?_, fun Z w hs => hs.out (Sr) (fun _ h => h)⟩
 exact ⟨rfl, rfl, rfl⟩

end Go.Proofs.YtcjbjkbghgjmdaaGreatDoor
/- Walks: span.Make, Meet. -/
namespace Go.Proofs.YtcjbjkbghgjmdaaGreatDoor
open Go Go.GW
theorem addF_len1 (acc : List Rg) (lo hi : Int) : (addF acc lo hi).length ≤ acc.length + 1 := addF_len acc lo hi
theorem Row.of_copy {k b : Nat} {css : List (List Value)} {T : TypeId} (h : css.flatten.length = k * 2) (hk : k ≤ 60000) : Row T 2 (.slice (some ⟨b, 0, none⟩) k k) k css.flatten [(b, cellsO css.flatten T)] :=
  ⟨h, .inr ⟨b, k, [], rfl, by rw [List.append_nil], by rw [List.append_nil]; exact h, Nat.le_refl _, by unfold maxLen; omega⟩⟩

set_option maxRecDepth 10000 in
theorem make_p (A : Option Addr) (c : Nat) (xs : List Rg) (hs : Srt xs) (hl : xs.length ≤ 32768) (hne : xs ≠ []) : Sp Tryz.prog 59 [.slice A xs.length c] [] [RdF rgD A c xs] (fun v Lo fs => ∃ A' c', v = .tuple #[.slice A' (packF [] xs).length c', .int .i64 0] ∧ Lo = [] ∧ fs = [RdF rgD A' c' (packF [] xs)]) := by
  refine Sp.of (n := 60) ⟨_, Tryz.func59, rfl, rfl, rfl, rfl⟩ (Nat.le_of_ble_eq_true rfl) fun Ps As => WC_seq (WC_region (Lq (q_assign rfl) (Lq (q_assign rfl) (WL_nil (thenN (WC_seq (WC_seq (WC_region (Lq (q_move rfl) (Lq (q_len Un45 rfl) (Lq (q_gtr rfl rfl) (WL_nil (thenN (WC_false rfl (by simp; omega) ?_))))))))))))))
  refine WC_skip (thenN (WC_seq (WC_seq (WC_region (Lq (q_move rfl) (Lq (q_len Un45 rfl) (Lq (q_move rfl) (WL_nil (thenN (WC_block ?_))))))))))
  refine WC_loopE (α := Nat) (fun k => xs.length - k)
    (fun k => [(0, .slice A xs.length c), (13, .slice A xs.length c), (14, .int .i64 xs.length), (15, .int .i64 k)])
    (fun k => Ps)
    (fun k => (RdF rgD A c xs :: As))
    (fun k => k ≤ xs.length)
    0 ?_ (.cons rfl (.cons rfl (.cons rfl (.cons rfl (.nil _))))) (Sr) (fun _ h => h) ?_
  · exact Nat.zero_le _
  · rintro k hI
    refine WC_seq (WC_region (Lq (q_lss rfl rfl) (WL_nil (thenN (WC_seq (WC_cond rfl (fun h16 => ?_) (fun h16 => ?_)))))))
    · refine WC_skip (thenN (WC_seq (WC_block (WC_seq ?_))))
      try simp only [Bp, Bq] at *
      have hk : k < xs.length := by omega
      have hat := hs.at_ hk
      refine WC_elem (k := k) M0 (List.getElem?_eq_getElem hk) (rg_open _) fun b5 q5 y5 e5 => ?_
      cases e5
      refine WC_region (Lq (q_idxRd Un45 ti119 rfl rfl (by omega) (by omega)) (Lq (q_loadFN (k := 0) (vs := [_, _]) Un119 rfl ti119 rfl M0 rfl rfl rfl) (WL_main rfl (OW_alloc (cs := [_, _]) ti119 rfl (by decide) fun b5 => WL_main rfl (OW_storeN (cs' := [_, _]) (vs := [_, _]) ti119 rfl rfl rfl rfl rfl (Nat.le_of_ble_eq_true rfl) (.z) (WL_nil (thenN (WC_seq (WC_region (Lq (q_field (o' := 0) Un119 rfl ti3 rfl rfl) (Lq (q_load1 Un3 rfl rfl own0 rfl) (Lq (q_lss rfl rfl) (Lq (q_move rfl) ?_)))))))))))))
      refine Lg rfl rfl rfl (by simp; omega) (q_field (o' := 1) Un119 rfl ti3 rfl rfl) (Lg rfl rfl rfl (by simp; omega) (q_load1 Un3 rfl rfl own0 rfl) (Lg rfl rfl rfl (by simp; omega) (q_gtr rfl rfl) (Lq (q_pickF rfl (by simp; omega) rfl) (Lq (q_move rfl) (Lg rfl rfl rfl (by simp; omega) (q_field (o' := 0) Un119 rfl ti3 rfl rfl) (Lg rfl rfl rfl (by simp; omega) (q_load1 Un3 rfl rfl own0 rfl) (Lg rfl rfl rfl (by simp; omega) (q_field (o' := 1) Un119 rfl ti3 rfl rfl) (Lg rfl rfl rfl (by simp; omega) (q_load1 Un3 rfl rfl own0 rfl) (Lg rfl rfl rfl (by simp; omega) (q_gtr rfl rfl) ?_)))))))))
      refine Lq (q_pickF rfl (by simp; omega) rfl) (WL_nil (thenN (WC_false rfl (by simp; omega) (WC_skip (blockN (thenN (WC_region (Lq (q_add rfl rfl (wr64 (by omega)) (c := ((k + 1 : Nat) : Int))) (Lq (q_move rfl) (WL_nil (thenK ?_)))))))))))
      refine ⟨k + 1, ?_, (.cons rfl (.cons rfl (.cons rfl (.cons rfl (.nil _))))), (Sd (Sr)), T1⟩
      exact ⟨by omega, by omega⟩
    · refine WC_exit (thenExit (thenExit (blockHit (thenN (WC_seq (WC_region (Lq (q_move rfl) (Lq (q_len Un45 rfl) (WL_main rfl (OW_makeN Un45 ti119 rfl rfl (by omega) (by unfold maxLen; omega) (by decide) fun bm cs0 hcs0 => Lq (q_assign rfl) (WL_nil (thenN (WC_seq (WC_region (Lq (q_move rfl) (Lq (q_move rfl) (WL_main rfl (OW_copyS (e := rgD) Un45 ti119 rfl rfl M0 hne hcs0 (by decide) (by decide) (DelAt.perm (.z)) fun css hfl => WL_nil (thenN (WC_seq ?_))))))))))))))))))))
      refine WC_freeze (e := rgD) (xs := xs) (css := css) (Row.of_copy hfl (by omega)) (.z) rfl M0 fun A9 c9 e9 => ?_
      obtain ⟨rfl, _, rfl⟩ := Value.slice.inj e9
      refine WC_region (Lq (q_move rfl) (WL_main rfl (OW_call0 (sort_p (some ⟨bm, 0, none⟩) xs.length xs hs) (.cons rfl (.cons rfl (.nil))) (by decide) (memc M0 mem0) fun u11_1 Lo fs hres => ?_)))
      obtain ⟨rfl, rfl, rfl⟩ := hres
      refine WL_nil (thenN (WC_seq (WC_region (Lq (q_assign rfl) (WL_nil (thenN (WC_seq (WC_seq (WC_region (Lq (q_move rfl) (Lq (q_len Un45 rfl) (Lq (q_move rfl) (WL_nil (thenN (WC_block (WC_nilPart ?_))))))))))))))))
      refine WC_loopE (α := Nat × List Rg × Value × Part) (fun (k, acc, v, p) => xs.length - k)
        (fun (k, acc, v, p) => [(7, v), (43, .slice (some ⟨bm, 0, none⟩) xs.length xs.length), (44, .int .i64 xs.length), (45, .int .i64 k)])
        (fun (k, acc, v, p) => (p :: Ps))
        (fun (k, acc, v, p) => (RdF rgD (some ⟨bm, 0, none⟩) xs.length xs :: RdF rgD A c xs :: As))
        (fun (k, acc, v, p) => k ≤ xs.length ∧ packF acc (xs.drop k) = packF [] xs ∧ Row 119 2 v acc.length (rgs acc) p ∧ acc.length ≤ k)
        (0, [], .slice none 0 0, []) ?_ (.cons rfl (.cons rfl (.cons rfl (.cons rfl (.nil _))))) (Sk (Sr)) (memc M0 T2) ?_
      · exact ⟨Nat.zero_le _, by rw [List.drop_zero], Row.nil _ _, Nat.le_refl _⟩
      · rintro ⟨k, acc, v, p⟩ hI
        refine WC_seq (WC_region (Lq (q_lss rfl rfl) (WL_nil (thenN (WC_seq (WC_cond rfl (fun h46 => ?_) (fun h46 => ?_)))))))
        · refine WC_skip (thenN (WC_seq (WC_block (WC_seq ?_))))
          try simp only [Bp, Bq] at *
          have hk : k < xs.length := by omega
          have hd : xs.drop k = xs[k] :: xs.drop (k + 1) := List.drop_eq_getElem_cons hk
          have heq := hI.2.1
          rw [hd] at heq
          have hal := hI.2.2.2
          have hal2 := addF_len1 acc xs[k].lo xs[k].hi
          refine WC_elem (k := k) M0 (List.getElem?_eq_getElem hk) (rg_open _) fun b5 q5 y5 e5 => ?_
          cases e5
          refine WC_region (Lq (q_idxRd Un45 ti119 rfl rfl (by omega) (by omega)) (Lq (q_loadFN (k := 0) (vs := [_, _]) Un119 rfl ti119 rfl M0 rfl rfl rfl) (WL_main rfl (OW_alloc (cs := [_, _]) ti119 rfl (by decide) fun b9 => WL_main rfl (OW_storeN (cs' := [_, _]) (vs := [_, _]) ti119 rfl rfl rfl rfl rfl (Nat.le_of_ble_eq_true rfl) (.z) (WL_nil (thenN (WC_region (Lq (q_move rfl) (Lq (q_field (o' := 0) Un119 rfl ti3 rfl rfl) (Lq (q_load1 Un3 rfl rfl own0 rfl) (Lq (q_field (o' := 1) Un119 rfl ti3 rfl rfl) ?_))))))))))))
          refine Lq (q_load1 Un3 rfl rfl own0 rfl) (WL_main rfl (OW_call1 (add_s v acc p xs[k].lo xs[k].hi hI.2.2.1 (by omega)) (.cons rfl (.cons rfl (.cons rfl (.nil)))) (by decide) (.s (.z)) mem0 fun va Lo fs hres => ?_))
          obtain ⟨pa, hra, rfl, rfl⟩ := hres
          refine Lq (q_assign rfl) (WL_nil (blockN (thenN (WC_region (Lq (q_add rfl rfl (wr64 (by omega)) (c := ((k + 1 : Nat) : Int))) (Lq (q_move rfl) (WL_nil (thenK ?_))))))))
          refine ⟨(k + 1, addF acc xs[k].lo xs[k].hi, va, pa), ?_, (.cons rfl (.cons rfl (.cons rfl (.cons rfl (.nil _))))), (Sk (Sd (Sr))), T1⟩
          exact ⟨by show xs.length - (k + 1) < xs.length - k; omega, by omega, heq, hra, by show (addF acc xs[k].lo xs[k].hi).length ≤ k + 1; omega⟩
        · refine WC_exit (thenExit (thenExit (blockHit (thenN (WC_seq ?_)))))
          try simp only [Bp, Bq] at *
          obtain rfl : k = xs.length := by have := hI.1; omega
          have heq := hI.2.1
          rw [List.drop_length] at heq
          have hacc : acc = packF [] xs := heq
          have hal := hI.2.2.2
          refine WC_fact (A := RepsF rgD acc (acc.map rgC)) (fun Z w _ => rgs_reps acc Z w) (WC_freeze (e := rgD) (css := acc.map rgC) hI.2.2.1 (.z) rfl M0 fun Af cf ef => ?_)
          subst ef
          refine WC_region (Lq (q_move rfl) (WL_main rfl (OW_call0 (bounded_2 Af cf acc (by omega)) (.cons rfl (.nil)) (by decide) mem0 fun u18_1 Lo fs hres => ?_)))
          obtain ⟨rfl, rfl, rfl⟩ := hres
          refine Lq (q_extract (vs := [_, _]) rfl rfl) (Lq (q_extract (vs := [_, _]) rfl rfl) (Lq (q_assign rfl) (Lq (q_assign rfl) (WL_nil (thenN (WC_ret ?_))))))
          refine ⟨_, [], [_], fun Z w hs => .tmp rfl (.tmp rfl (.nil)), ?_, fun Z w hs => hs.out (Sr) (memc M0 T3)⟩
          subst hacc
          exact ⟨Af, cf, rfl, rfl, rfl⟩


set_option maxRecDepth 10000 in
theorem meet_p (A B : Option Addr) (c d : Nat) (xs ys : List Rg) (h : Pls 60000 xs) (h2 : Pls 60000 ys) (h1 : xs.length ≤ 1) : Sp Tryz.prog 58 [.slice A xs.length c, .slice B ys.length d] [] [RdF rgD B d ys, RdF rgD A c xs] (fun v Lo fs => ∃ A' n c', v = .tuple #[.slice A' n c', .int .i64 0] ∧ (n = 0 ↔ meetF [] xs ys = []) ∧ Lo = [] ∧ fs = []) := by
  have hly := h2.len (by omega)
  refine Sp.of (n := 59) ⟨_, Tryz.func58, rfl, rfl, rfl, rfl⟩ (Nat.le_of_ble_eq_true rfl) fun Ps As => WC_seq (WC_region (Lq (q_assign rfl) (Lq (q_assign rfl) (WL_nil (thenN (WC_seq (WC_seq (WC_region (Lq (q_move rfl) (Lq (q_move rfl) (WL_main rfl (OW_call0 (both_p A B c d xs ys h h2) (.cons rfl (.cons rfl (.nil))) (by decide) (memc M1 (memc M0 mem0)) fun u1_2 Lo fs hres => ?_))))))))))))
  obtain ⟨rfl, rfl, rfl⟩ := hres
  refine Lq (q_assign rfl) (WL_nil (thenN (WC_seq (WC_region (Lq (q_move rfl) (Lq (q_neq rfl rfl) (WL_nil (thenN (WC_false rfl rfl (WC_skip (thenN (WC_seq (WC_region (Lq (q_assign rfl) (WL_nil (thenN (WC_seq (WC_block (WC_nilPart ?_)))))))))))))))))))
  refine WC_loopE (α := Option Addr × Nat × List Rg × Option Addr × Nat × List Rg × List Rg × Value × Part) (fun (A1, c1, as_', B1, d1, bs, acc, v, p) => as_'.length + bs.length)
    (fun (A1, c1, as_', B1, d1, bs, acc, v, p) => [(0, .slice A1 as_'.length c1), (1, .slice B1 bs.length d1), (7, v)])
    (fun (A1, c1, as_', B1, d1, bs, acc, v, p) => (p :: Ps))
    (fun (A1, c1, as_', B1, d1, bs, acc, v, p) => (RdF rgD A1 c1 as_' :: RdF rgD B1 d1 bs :: RdF rgD B d ys :: RdF rgD A c xs :: As))
    (fun (A1, c1, as_', B1, d1, bs, acc, v, p) => Row 119 2 v acc.length (rgs acc) p ∧ meetF acc as_' bs = meetF [] xs ys ∧ acc.length + as_'.length + bs.length ≤ xs.length + ys.length)
    (A, c, xs, B, d, ys, [], .slice none 0 0, []) ?_ (.cons rfl (.cons rfl (.cons rfl (.nil _)))) (Sk (Sr)) (memc M1 (memc M0 (fun _ h => h))) ?_
  · exact ⟨Row.nil _ _, rfl, by simp⟩
  · rintro ⟨A1, c1, as_', B1, d1, bs, acc, v, p⟩ hI0
    have hI : Row 119 2 v acc.length (rgs acc) p ∧ meetF acc as_' bs = meetF [] xs ys ∧ acc.length + as_'.length + bs.length ≤ xs.length + ys.length ∧ True := ⟨hI0.1, hI0.2.1, hI0.2.2, trivial⟩
    refine WC_seq (WC_seq (WC_region (Lq (q_move rfl) (Lq (q_len Un45 rfl) (Lq (q_gtr rfl rfl) (Lq (q_move rfl) (WL_guard (t := 17) rfl (fun g17 => ?_) (fun g17 => ?_))))))))
    · refine Lg rfl rfl rfl g17 (q_move rfl) (Lg rfl rfl rfl g17 (q_len Un45 rfl) (Lg rfl rfl rfl g17 (q_gtr rfl rfl) (Lq (q_pickT rfl g17 rfl) (WL_nil (thenN (WC_cond rfl (fun h21 => ?_) (fun h21 => ?_)))))))
      · refine WC_skip (thenN (WC_block (WC_seq ?_)))
        try simp only [Bp, Bq] at *
        obtain ⟨r, a, rfl⟩ := List.exists_cons_of_ne_nil (l := as_') (fun e => by subst e; simp at g17)
        obtain ⟨s, b, rfl⟩ := List.exists_cons_of_ne_nil (l := bs) (fun e => by subst e; simp at h21)
        have heq := hI.2.1
        rw [meetF_cons] at heq
        have hal := hI.2.2.1
        simp only [List.length_cons] at hal
        have hal2 := addF_len1 acc (max r.lo s.lo) (min r.hi s.hi)
        have hla : (r :: a).length = a.length + 1 := rfl
        have hlb : (s :: b).length = b.length + 1 := rfl
        refine WC_elem (k := 0) M0 rfl (rg_open _) fun bi qi yi ei => ?_
        cases ei
        refine WC_elem (k := 0) M2 rfl (rg_open _) fun bj qj yj ej => ?_
        cases ej
        refine WC_draw _ _ [] (.c 0 0 (.c 1 0 (.c 2 0 (.c 3 0 (.c 4 0 (.c 5 0 (.c 6 0 (.c 7 0 (.c 8 0 (.c 9 0 (.c 10 0 (.c 11 0 (.c 12 0 (.c 13 0 (.c 14 0 (.c 15 0 (.c 16 0 (.c 17 0 (.c 18 0 (.c 19 2 (.c 20 0 .nil))))))))))))))))))))) mixed (fun _ _ _ _ h => h) (Sd (Sr)) (fun _ h => h) (by kernel_rfl) (by decide) fun ws Z0 => Qe rfl (q_move rfl) (Qe rfl (q_move rfl) (Qe rfl (q_idxRd Un45 ti119 rfl rfl (by decide) (by simp)) (Qe rfl (q_field (o' := _ + 0) Un119 rfl ti3 rfl rfl) (Qe rfl (q_loadF1 (j := 0) Un3 rfl rfl M1 rfl rfl) (Qe rfl (q_move rfl) (Qe rfl (q_idxRd Un45 ti119 rfl rfl (by decide) (by simp)) (Qe rfl (q_field (o' := _ + 0) Un119 rfl ti3 rfl rfl) (Qe rfl (q_loadF1 (j := 0) Un3 rfl rfl M0 rfl rfl) ?_))))))))
        refine Qe rfl (q_max rfl rfl) (Qe rfl (q_move rfl) (Qe rfl (q_idxRd Un45 ti119 rfl rfl (by decide) (by simp)) (Qe rfl (q_field (o' := _ + 1) Un119 rfl ti3 rfl rfl) (Qe rfl (q_loadF1 (j := 1) Un3 rfl rfl M1 rfl rfl) (Qe rfl (q_move rfl) (Qe rfl (q_idxRd Un45 ti119 rfl rfl (by decide) (by simp)) (Qe rfl (q_field (o' := _ + 1) Un119 rfl ti3 rfl rfl) (Qe rfl (q_loadF1 (j := 1) Un3 rfl rfl M0 rfl rfl) (Qe rfl (q_min rfl rfl) ?_)))))))))
        refine WE_main rfl rfl (OW_call1 (add_s v acc p (max r.lo s.lo) (min r.hi s.hi) hI.1 (by omega)) (.cons rfl (.cons rfl (.cons rfl (.nil)))) (by decide) (.z) mem0 fun va Lo fs hres => ?_)
        obtain ⟨pa, hra, rfl, rfl⟩ := hres
        refine ⟨⟨(Sd (Sr)), M0⟩, ?_⟩
        refine Qe rfl (q_assign rfl) (WE_end (WF_nil (thenN (WC_seq (WC_draw _ _ [] (.c 0 0 (.c 1 0 (.c 2 0 (.c 3 0 (.c 4 0 (.c 5 0 (.c 6 0 (.c 7 0 (.c 8 0 .nil))))))))) mixed (fun _ _ _ _ h => h) (Sk (Sr)) (fun _ h => h) (by kernel_rfl) (by decide) fun ws Z0 => Qe rfl (q_move rfl) (Qe rfl (q_idxRd Un45 ti119 rfl rfl (by decide) (by simp)) (Qe rfl (q_field (o' := _ + 1) Un119 rfl ti3 rfl rfl) (Qe rfl (q_loadF1 (j := 1) Un3 rfl rfl M2 rfl rfl) (Qe rfl (q_move rfl) (Qe rfl (q_idxRd Un45 ti119 rfl rfl (by decide) (by simp)) ?_))))))))))
        refine Qe rfl (q_field (o' := _ + 1) Un119 rfl ti3 rfl rfl) (Qe rfl (q_loadF1 (j := 1) Un3 rfl rfl M1 rfl rfl) (Qe rfl (q_leq rfl rfl) (WE_end (WF_nil (thenN (WC_cond rfl (fun h50 => ?_) (fun h50 => ?_)))))))
        · refine WC_cutLo 1 M4 (by simp) (WC_region (Lq (q_move rfl) (Lq (q_cutLoE (j := 1) (m := _) (by decide) rfl Un45 ti119 rfl rfl (by decide) (by rw [hla]; omega)) (Lq (q_assign rfl) (WL_nil (blockN (thenK ?_)))))))
          refine ⟨(cutA (some ⟨bi, qi, none⟩) 1 c1 2, c1 - 1, a, some ⟨bj, qj, none⟩, d1, s :: b, addF acc (max r.lo s.lo) (min r.hi s.hi), va, pa), ?_, (.cons rfl (.cons rfl (.cons rfl (.nil _)))), (Sk (Sr)), (memc M0 T6)⟩
          simp only [decide_eq_true_eq] at h50
          rw [if_pos h50] at heq
          exact ⟨by show a.length + (s :: b).length < (r :: a).length + (s :: b).length; omega, hra, heq, by simp only [List.length_cons]; omega⟩
        · refine WC_cutLo 1 M5 (by simp) (WC_region (Lq (q_move rfl) (Lq (q_cutLoE (j := 1) (m := _) (by decide) rfl Un45 ti119 rfl rfl (by decide) (by rw [hlb]; omega)) (Lq (q_assign rfl) (WL_nil (blockN (thenK ?_)))))))
          refine ⟨(some ⟨bi, qi, none⟩, c1, r :: a, cutA (some ⟨bj, qj, none⟩) 1 d1 2, d1 - 1, b, addF acc (max r.lo s.lo) (min r.hi s.hi), va, pa), ?_, (.cons rfl (.cons rfl (.cons rfl (.nil _)))), (Sk (Sr)), (memc M5 (memc M0 T7))⟩
          simp only [decide_eq_false_iff_not] at h50
          rw [if_neg h50] at heq
          exact ⟨by show (r :: a).length + b.length < (r :: a).length + (s :: b).length; omega, hra, heq, by simp only [List.length_cons]; omega⟩
      · refine WC_exit (thenExit (thenExit (blockHit (thenN (WC_seq ?_)))))
        try simp only [Bp, Bq] at *
        obtain ⟨Av, cv, rfl⟩ := hI.1.slice
        have hal := hI.2.2.1
        have hdone : acc = meetF [] xs ys := by
          have heq := hI.2.1
          first
          | (have hz : as_' = [] := List.length_eq_zero_iff.1 (by omega)
             rw [hz, meetF_nilL] at heq; exact heq)
          | (have hz : bs = [] := List.length_eq_zero_iff.1 (by omega)
             rw [hz, meetF_nilR] at heq; exact heq)
        refine WC_region (Lq (q_move rfl) (WL_main rfl (OW_call0 (bounded_2 Av cv acc (by omega)) (.cons rfl (.nil)) (by decide) mem0 fun u10_1 Lo fs hres => ?_)))
        obtain ⟨rfl, rfl, rfl⟩ := hres
        refine Lq (q_extract (vs := [_, _]) rfl rfl) (Lq (q_extract (vs := [_, _]) rfl rfl) (Lq (q_assign rfl) (Lq (q_assign rfl) (WL_nil (thenN (WC_ret ?_))))))
        refine ⟨_, [], [], fun Z w hs => .tmp rfl (.tmp rfl (.nil)), ?_, fun Z w hs => hs.out (Sd (Sr)) T2⟩
        refine ⟨Av, acc.length, cv, rfl, ?_, rfl, rfl⟩
        rw [← hdone, List.length_eq_zero_iff]
    · refine Ln rfl rfl rfl g17 (Ln rfl rfl rfl g17 (Ln rfl rfl rfl g17 (Lq (q_pickF rfl g17 rfl) (WL_nil (thenN (WC_false rfl rfl (WC_exit (thenExit (thenExit (blockHit (thenN (WC_seq ?_))))))))))))
      try simp only [Bp, Bq] at *
      obtain ⟨Av, cv, rfl⟩ := hI.1.slice
      have hal := hI.2.2.1
      have hdone : acc = meetF [] xs ys := by
        have heq := hI.2.1
        first
        | (have hz : as_' = [] := List.length_eq_zero_iff.1 (by omega)
           rw [hz, meetF_nilL] at heq; exact heq)
        | (have hz : bs = [] := List.length_eq_zero_iff.1 (by omega)
           rw [hz, meetF_nilR] at heq; exact heq)
      refine WC_region (Lq (q_move rfl) (WL_main rfl (OW_call0 (bounded_2 Av cv acc (by omega)) (.cons rfl (.nil)) (by decide) mem0 fun u10_1 Lo fs hres => ?_)))
      obtain ⟨rfl, rfl, rfl⟩ := hres
      refine Lq (q_extract (vs := [_, _]) rfl rfl) (Lq (q_extract (vs := [_, _]) rfl rfl) (Lq (q_assign rfl) (Lq (q_assign rfl) (WL_nil (thenN (WC_ret ?_))))))
      refine ⟨_, [], [], fun Z w hs => .tmp rfl (.tmp rfl (.nil)), ?_, fun Z w hs => hs.out (Sd (Sr)) T2⟩
      refine ⟨Av, acc.length, cv, rfl, ?_, rfl, rfl⟩
      rw [← hdone, List.length_eq_zero_iff]

end Go.Proofs.YtcjbjkbghgjmdaaGreatDoor
/- Walks: Covers, Clone, Ops, without. -/
namespace Go.Proofs.YtcjbjkbghgjmdaaGreatDoor
open Go Go.GW
theorem rgs_of {Z : Nat → Prop} {w : World} : ∀ {xs : List Rg} {css : List (List Value)}, Reps (rgD.rep Z w) xs css → css.flatten = rgs xs
 | [], _, .nil => rfl
 | x :: xs, _, .cons h hr => by rw [List.flatten_cons, rgs_of hr]; unfold rgs; rw [List.map_cons, List.flatten_cons]; exact congrArg (· ++ (xs.map rgC).flatten) h
theorem WL_rgs {P : Program} {n : Nat} {R : Post} {l : Fr} {Ps : List Part} {As : List Fact} {ops : Array Oper} {rest : List Oper} {xs : List Rg} {css : List (List Value)} (hA : RepsF rgD xs css ∈ As) (h : css.flatten = rgs xs → WL P n ops R rest l Ps As) : WL P n ops R rest l Ps As := fun Z w a hs ha => h (rgs_of (hs.facts _ hA)) Z w a hs ha
theorem bd119_0_1Xe4 (x0_ : Int) (x1_ : Int) (w : World) : (Instr.build 119 #[(0, .int .i64 x0_), (1, .int .i64 x1_)]).run Tryz.prog w = .ok (.agg #[.int .i64 x0_, .int .i64 x1_]) w := by kernel_rfl

set_option maxRecDepth 10000 in
theorem covers_p (o : GOp) (A : Option Addr) (c : Nat) (hf : Fit o) (hk : o.kind = 1) (h0 : ownF o = 0) : Sp Tryz.prog 25 [opV o A c] [] [barF, RdF rgD A c o.rs] (fun v Lo fs => ∃ A' c', v = .slice A' 1 c' ∧ Lo = [] ∧ fs = [RdF rgD A' c' [⟨o.at_, o.at_ + widthF o⟩]]) := by
 have hwl := widthF_le o
 have hft := hf.text
 have hlo := hf.lo
 have hhi := hf.hi
 refine Sp.of (n := 28) ⟨_, Tryz.func25, rfl, rfl, rfl, rfl⟩ (Nat.le_of_ble_eq_true rfl) fun Ps As => WC_seq (WC_region (WL_main rfl (OW_box (cs := [_, _, _, _, _, _, _, _, _]) rfl rfl (by decide) fun b1 => Lq (q_assign rfl) (WL_nil (thenN (WC_seq (WC_seq (WC_region (Lq (q_loadN (vs := [_, _, _, _, _, _, _, _, _]) Un47 rfl ti47 rfl own0 rfl rfl) (WL_main rfl (OW_call0 (oown_s o A c hf) (.cons rfl (.nil)) (by decide) (memc M0 (memc M1 mem0)) fun u1_1 Lo fs hres => ?_)))))))))))
 obtain ⟨rfl, rfl, rfl⟩ := hres
 refine Lq (q_neq rfl rfl) (Lq (q_move rfl) (Lg rfl rfl rfl (by rw [h0]; rfl) (q_field (o' := 0) Un47 rfl ti44 rfl rfl) (Lg rfl rfl rfl (by rw [h0]; rfl) (q_field (o' := 2) Un44 rfl ti42 rfl rfl) (Lg rfl rfl rfl (by rw [h0]; rfl) (q_load1 Un42 rfl rfl own0 rfl) (Lg rfl rfl rfl (by rw [h0]; rfl) (q_eql rfl rfl) (Lq (q_pickF rfl (by rw [h0]; rfl) rfl) (WL_nil (thenN (WC_false rfl (by rw [hk]; rfl) (WC_skip (thenN (WC_seq (WC_seq (WC_region ?_))))))))))))))
 refine Lq (q_field (o' := 0) Un47 rfl ti44 rfl rfl) (Lq (q_field (o' := 2) Un44 rfl ti42 rfl rfl) (Lq (q_load1 Un42 rfl rfl own0 rfl) (Lq (q_eql rfl rfl) (WL_nil (thenN (WC_fr [(15, _), (2, _), (1, _)] (.cons rfl (.cons rfl (.cons rfl (.nil _)))) (WC_true rfl (by rw [hk]; rfl) (WC_seq (WC_draw _ _ [] (.c 0 0 (.c 1 0 (.c 2 0 (.c 3 0 (.c 4 0 (.c 5 2 (.c 6 0 (.c 7 0 (.c 8 2 (.c 9 0 .nil)))))))))) mixed (fun _ _ _ _ h => h) (Sk (Sr)) (fun _ h => h) (by kernel_rfl) (by decide) fun ws Z0 => Qe rfl (q_field (o' := 3) Un47 rfl ti3 rfl rfl) ?_)))))))))
 refine Qe rfl (q_load1 Un3 rfl rfl own0 rfl) (Qe rfl (q_field (o' := 3) Un47 rfl ti3 rfl rfl) (Qe rfl (q_load1 Un3 rfl rfl own0 rfl) (Qe rfl (q_loadN (vs := [_, _, _, _, _, _, _, _, _]) Un47 rfl ti47 rfl own0 rfl rfl) (WE_main rfl rfl (OW_call0 (width_s o A c (by omega)) (.cons rfl (.nil)) (by decide) (memc M1 mem0) fun u4_5 Lo fs hres => ?_)))))
 obtain ⟨rfl, rfl, rfl⟩ := hres
 refine ⟨⟨(Sk (Sr)), M0⟩, ?_⟩
 refine Qe rfl (q_add rfl rfl (wr64 (by omega)) (c := o.at_ + widthF o)) (Qe rfl (q_build (.cons rfl (.cons rfl (.nil))) (bd119_0_1Xe4 _ _)) (WE_main rfl rfl (OW_slice1 (cs := [_, _]) Un45 ti119 (by decide) (by decide) rfl rfl rfl rfl (by decide) fun b24 => ?_)))
 refine ⟨⟨(Sd (Sk (Sr))), M0⟩, ?_⟩
 refine Qe rfl (q_assign rfl) (WE_end (WF_nil (thenN (WC_ret (thenRet ?_)))))
 refine ⟨_, [], [_], fun Z w hs => .tmp rfl (.nil), ?_, fun Z w hs => (hs.freeze1 (e := rgD) (u := ⟨o.at_, o.at_ + widthF o⟩) (.z) rfl).imp fun Z2 h2 => (h2.subParts (Sd (Sr))).subFacts (memc M0 T2)⟩
 exact ⟨_, _, rfl, rfl, rfl⟩


set_option maxRecDepth 10000 in
theorem clone_o (o : GOp) (A : Option Addr) (c : Nat) (hl : o.rs.length ≤ 4398046511104) : Sp Tryz.prog 27 [opV o A c] [] [RdF rgD A c o.rs] (fun v Lo fs => ∃ A' c' p, v = opV o A' c' ∧ Row 119 2 (.slice A' o.rs.length c') o.rs.length (rgs o.rs) p ∧ Lo = [p] ∧ fs = []) := by
 refine Sp.of (n := 8) ⟨_, Tryz.func27, rfl, rfl, rfl, rfl⟩ (Nat.le_of_ble_eq_true rfl) fun Ps As => WC_seq (WC_region (WL_main rfl (OW_box (cs := [_, _, _, _, _, _, _, _, _]) rfl rfl (by decide) fun b1 => WL_main rfl (OW_alloc (cs := [_, _, _, _, _, _, _, _, _]) ti47 rfl (by decide) fun b2 => WL_nil (thenN (WC_seq (WC_region (Lq (q_field (o' := 5) Un47 rfl ti45 rfl rfl) (Lq (q_load1 Un45 rfl rfl (ownS (own0)) rfl) (WL_nilPart (WL_main rfl (OW_appendS (e := rgD) (ys := o.rs) Un45 ti119 rfl (by decide) rfl rfl (Row.nil _ _) M0 (by simp only [Nat.zero_add]; omega) (by unfold maxLen; omega) (by decide) (List.Perm.refl _) fun v5 p5 cs5 hr5 => WL_rgs M0 fun hcss => ?_))))))))))))
 rw [Nat.zero_add, List.nil_append, hcss] at hr5
 obtain ⟨A5, c5, rfl⟩ := hr5.slice
 refine Lq (q_field (o' := 5) Un47 rfl ti45 rfl rfl) (WL_main rfl (OW_store1 ti45 rfl rfl rfl (.s (.s (.s (.s (.s (.z)))))) (.s (.s (.z))) (WL_nil (thenN (WC_seq (WC_region (Lq (q_loadN (vs := [_, _, _, _, _, _, _, _, _]) Un47 rfl ti47 rfl (ownS (ownS (own0))) rfl rfl) (WL_main rfl (OW_storeN (cs' := [_, _, _, _, _, _, _, _, _]) (vs := [_, _, _, _, _, _, _, _, _]) ti47 rfl rfl rfl rfl rfl (Nat.le_of_ble_eq_true rfl) (.s (.z)) (WL_nil (thenN (WC_ret ?_))))))))))))
 refine ⟨_, [_], [], fun Z w hs => RV_ownN hs Un47 rfl ti47 rfl (ownS (own0)) rfl (.nil), ?_, fun Z w hs => hs.out (Sk (Sd (Sd (Sr)))) T1⟩
 exact ⟨A5, c5, p5, rfl, hr5, rfl, rfl⟩


set_option maxRecDepth 10000 in
theorem hops_o (h m cap : Nat) (A : Option Addr) (H : Hist) (L : List MR) (hr : HR H L) (hi : Nat) (hb : hi ≤ H.ops.length) (hx : H.ops.length ≤ 1000000) : Sp Tryz.prog 24 [.pointer (some ⟨h, 0, none⟩), .int .i64 0, .int .i64 hi] [hdP h A H.ops.length cap m H.total, mpP m L, mkP L] [RdF opD A cap H.ops] (fun v Lo fs => ∃ v1 p css, v = .tuple #[v1, .int .i64 0] ∧ Row 47 9 v1 hi css.flatten p ∧ Lo = [p, hdP h A H.ops.length cap m H.total, mpP m L, mkP L] ∧ fs = [RepsF opD (H.ops.take hi) css]) := by
 refine Sp.of (n := 46) ⟨_, Tryz.func24, rfl, rfl, rfl, rfl⟩ (Nat.le_of_ble_eq_true rfl) fun Ps As => WC_seq (WC_region (Lq (q_assign rfl) (Lq (q_assign rfl) (WL_nil (thenN (WC_seq (WC_seq (WC_region (Lq (q_move rfl) (Lq (q_lss rfl rfl) (Lq (q_move rfl) (Lg rfl rfl rfl rfl (q_move rfl) (Lg rfl rfl rfl rfl (q_move rfl) ?_)))))))))))))
 refine Lg rfl rfl rfl rfl (q_gtr rfl rfl) (Lq (q_pickF rfl rfl rfl) (Lq (q_move rfl) (Lg rfl rfl rfl (by simp) (q_move rfl) (Lg rfl rfl rfl (by simp) (q_move rfl) (Lg rfl rfl rfl (by simp) (q_nil rfl) (Lg rfl rfl rfl (by simp) (q_field (o' := 0) Un67 rfl ti51 rfl rfl) (Lg rfl rfl rfl (by simp) (q_load1 Un51 rfl rfl own0 rfl) (Lg rfl rfl rfl (by simp) (q_len Un51 rfl) (Lg rfl rfl rfl (by simp) (q_gtr rfl rfl) ?_)))))))))
 refine Lq (q_pickF rfl (by simp) rfl) (WL_nil (thenN (WC_fr [(26, _), (7, _), (6, _), (0, _), (1, _), (2, _)] (.cons rfl (.cons rfl (.cons rfl (.cons rfl (.cons rfl (.cons rfl (.nil _))))))) (WC_false rfl (by simp; omega) (WC_skip (thenN (WC_seq (WC_region (Lq (q_assign rfl) (WL_nil (thenN (WC_seq (WC_seq (WC_capLe M0 fun hcap hcap2 => ?_))))))))))))))
 obtain ⟨B, hB⟩ : ∃ B, B = cutA A 0 cap 9 := ⟨_, rfl⟩
 obtain ⟨xs, hxs⟩ : ∃ xs, xs = H.ops.take hi := ⟨_, rfl⟩
 have hxl : hi - 0 = xs.length := by rw [hxs, List.length_take]; omega
 have hfx : ∀ o ∈ xs, Fit o := fun o ho => by rw [hxs] at ho; have h1 := List.mem_of_mem_take ho; obtain ⟨e, he, rfl⟩ := List.mem_map.1 h1; exact hr.fit e he
 refine WC_fact (A := RdF opD B (cap - 0) xs) (fun Z w hs => by rw [hB, hxs]; exact RdS.cut (lo := 0) (hi := hi) (m := cap) (hs.facts _ M0) (by omega) (by omega) (by omega) (Nat.le_refl _)) (WC_fact (A := RepsF opD (xs.take 0) []) (fun Z w hs => Reps.nil) (WC_nilPart (WC_region (Lq (q_move rfl) (Lq (q_nil rfl) (Lq (q_field (o' := 0) Un67 rfl ti51 rfl rfl) (Lq (q_load1 Un51 rfl rfl (ownS (own0)) rfl) (Lq (q_move rfl) (Lq (q_move rfl) ?_)))))))))
 refine Lq (q_cutLoHi Un51 ti47 rfl rfl rfl (by decide) (by omega) (by omega)) (Lq (q_len Un51 rfl) (Lq (q_move rfl) (WL_nil (thenN (WC_fr [(35, _), (34, _), (33, _), (8, _), (7, _), (6, _)] (.cons rfl (.cons rfl (.cons rfl (.cons rfl (.cons rfl (.cons rfl (.nil _))))))) (WC_block ?_))))))
 refine WC_loopE (α := Nat × Value × Part × List (List Value)) (fun (k, v, p, css) => xs.length - k)
  (fun (k, v, p, css) => [(33, .slice B xs.length (cap - 0)), (34, .int .i64 xs.length), (35, .int .i64 k), (8, v)])
  (fun (k, v, p, css) => (p :: hdP h A H.ops.length cap m H.total :: mpP m L :: mkP L :: Ps))
  (fun (k, v, p, css) => (RepsF opD (xs.take k) css :: RdF opD B (cap - 0) xs :: RdF opD A cap H.ops :: As))
  (fun (k, v, p, css) => k ≤ xs.length ∧ Row 47 9 v k css.flatten p)
  (0, .slice none 0 0, [], []) ?_ (.cons (by rw [hB, ← hxl]; rfl) (.cons (by rw [← hxl]; rfl) (.cons rfl (.cons rfl (.nil _))))) (Sk (Sk (Sk (Sk (Sr))))) (fun _ h => h) ?_
 ·exact ⟨Nat.zero_le _, Row.nil _ _⟩
 ·rintro ⟨k, v, p, css⟩ hI
  have hle : k ≤ xs.length := hI.1
  have hxb : xs.length ≤ 1000000 := by rw [hxs, List.length_take]; omega
  refine WC_seq (WC_region (Lq (q_lss rfl rfl) (WL_nil (thenN (WC_seq (WC_cond rfl (fun h36 => ?_) (fun h36 => ?_)))))))
  ·refine WC_skip (thenN (WC_seq (WC_block (WC_seq ?_))))
   try simp only [Bp, Bq] at *
   have hk : k < xs.length := by omega
   refine WC_elem (k := k) M1 (List.getElem?_eq_getElem hk) (op_open _) fun b6 q6 y6 e6 => ?_
   cases e6
   refine WC_region (Lq (q_idxRd Un51 ti47 rfl rfl (by omega) (by omega)) (Lq (q_loadFN (k := 0) (vs := [_, _, _, _, _, _, _, _, _]) Un47 rfl ti47 rfl M0 rfl rfl rfl) (WL_main rfl (OW_alloc (cs := [_, _, _, _, _, _, _, _, _]) ti47 rfl (by decide) fun b10 => WL_main rfl (OW_storeN (cs' := [_, _, _, _, _, _, _, _, _]) (vs := [_, _, _, _, _, _, _, _, _]) ti47 rfl rfl rfl rfl rfl (Nat.le_of_ble_eq_true rfl) (.z) (WL_nil (thenN (WC_region (Lq (q_move rfl) (Lq (q_loadN (vs := [_, _, _, _, _, _, _, _, _]) Un47 rfl ti47 rfl own0 rfl rfl) (WL_main rfl (OW_call0 (clone_s xs[k] y6.1 y6.2 (hfx _ (List.getElem_mem hk)).rs) (.cons rfl (.nil)) (by decide) (memc M1 mem0) fun u7_2 Lo fs hres => ?_))))))))))))
   obtain ⟨A1, c1, rfl, rfl, rfl⟩ := hres
   refine WL_main rfl (OW_slice1 (cs := [_, _, _, _, _, _, _, _, _]) Un51 ti47 (by decide) (by decide) rfl rfl rfl rfl (by decide) fun b42 => WL_main rfl (OW_append1 (news := [_, _, _, _, _, _, _, _, _]) Un51 ti47 rfl (by decide) rfl rfl hI.2 own0 rfl rfl (by omega) (by unfold maxLen; omega) (by decide) (DelAt.perm (.s (.s (.z)))) fun v43 p43 hr43 => Lq (q_assign rfl) (WL_nil (blockN (thenN (WC_repsAdd (u := xs[k]) (cs := opC xs[k] A1 c1) M3 (fun Z w hs => ⟨A1, c1, rfl, hs.facts _ M0⟩) (List.take_succ_eq_append_getElem hk) (WC_region (Lq (q_add rfl rfl (wr64 (by omega)) (c := ((k + 1 : Nat) : Int))) (Lq (q_move rfl) (WL_nil (thenK ?_)))))))))))
   refine ⟨(k + 1, v43, p43, css ++ [opC xs[k] A1 c1]), ?_, (.cons rfl (.cons rfl (.cons rfl (.cons rfl (.nil _))))), (Sk (Sd (Sd (Sk (Sk (Sk (Sr))))))), (memc M0 T5)⟩
   refine ⟨by show xs.length - (k + 1) < xs.length - k; omega, by show k + 1 ≤ xs.length; omega, ?_⟩
   rw [List.flatten_append, show [opC xs[k] A1 c1].flatten = opC xs[k] A1 c1 from by simp]
   exact hr43
  ·refine WC_exit (thenExit (thenExit (blockHit (thenN (WC_seq (WC_region (Lq (q_move rfl) (Lq (q_assign rfl) (Lq (q_assign rfl) (WL_nil (thenN (WC_ret ?_))))))))))))
   refine ⟨_, [_, _, _, _], [_], fun Z w hs => .tmp rfl (.tmp rfl (.nil)), ?_, fun Z w hs => hs.out (Sk (Sk (Sk (Sk (Sr))))) (memc M0 T2)⟩
   try simp only [Bp, Bq] at *
   obtain rfl : k = xs.length := by have := hI.1; omega
   have hxh : xs.length = hi := by omega
   refine ⟨v, p, css, rfl, by rw [← hxh]; exact hI.2, rfl, ?_⟩
   rw [List.take_length, hxs]


set_option maxRecDepth 10000 in
theorem wo_ins (o : GOp) (A : Option Addr) (c : Nat) (G : Option Addr) (gc : Nat) (gone : List Rg) (hg : Pls 60000 gone) (hg1 : gone.length ≤ 1) (hk : o.kind = 1) (ha : 0 ≤ o.at_ ∧ o.at_ ≤ 60000) (hin : ¬ (0 < rankF o.at_ gone ∧ rankF o.at_ gone < countF gone)) : Sp Tryz.prog 26 [opV o A c, .slice G gone.length gc] [] [RdF rgD G gc gone] (Is (.tuple #[opV { o with at_ := o.at_ - rankF o.at_ gone } A c, .int .i64 0])) := by
 have hrb := rankF_bd o.at_ hg.norm hg.below (by omega)
 refine Sp.of (n := 105) ⟨_, Tryz.func26, rfl, rfl, rfl, rfl⟩ (Nat.le_of_ble_eq_true rfl) fun Ps As => WC_seq (WC_region (WL_main rfl (OW_box (cs := [_, _, _, _, _, _, _, _, _]) rfl rfl (by decide) fun b2 => WL_main rfl (OW_alloc (cs := [_, _, _, _, _, _, _, _, _]) ti47 rfl (by decide) fun b4 => Lq (q_assign rfl) (WL_nil (thenN (WC_seq (WC_seq (WC_region (Lq (q_field (o' := 0) Un47 rfl ti44 rfl rfl) (Lq (q_field (o' := 2) Un44 rfl ti42 rfl rfl) (Lq (q_load1 Un42 rfl rfl (ownS (own0)) rfl) (WL_nil (thenN (WC_block (WC_seq (WC_region ?_)))))))))))))))))
 refine Lq (q_eql rfl rfl) (Lq (q_assign rfl) (WL_nil (thenN (WC_true rfl (by rw [hk]; rfl) (WC_seq (WC_region (Lq (q_move rfl) (WL_main rfl (OW_call0 (count_p G gc gone hg) (.cons rfl (.nil)) (by decide) (memc M0 mem0) fun u3_1 Lo fs hres => ?_)))))))))
 obtain ⟨rfl, rfl, rfl⟩ := hres
 refine Lq (q_move rfl) (Lq (q_extract (vs := [_, _]) rfl rfl) (Lq (q_extract (vs := [_, _]) rfl rfl) (Lq (q_assign rfl) (Lq (q_assign rfl) (WL_nil (thenN (WC_seq (WC_region (Lq (q_move rfl) (Lq (q_field (o' := 3) Un47 rfl ti3 rfl rfl) (Lq (q_load1 Un3 rfl rfl (ownS (own0)) rfl) (WL_main rfl (OW_call0 (rank_p G gc gone o.at_ hg ha) (.cons rfl (.cons rfl (.nil))) (by decide) (memc M0 mem0) fun u4_3 Lo fs hres => ?_)))))))))))))
 obtain ⟨rfl, rfl, rfl⟩ := hres
 refine Lq (q_move rfl) (Lq (q_extract (vs := [_, _]) rfl rfl) (Lq (q_extract (vs := [_, _]) rfl rfl) (Lq (q_assign rfl) (Lq (q_assign rfl) (WL_nil (thenN (WC_seq (WC_seq (WC_region (Lq (q_move rfl) (Lq (q_gtr rfl rfl) (Lq (q_move rfl) (WL_guard (t := 37) rfl (fun g37 => ?_) (fun g37 => ?_))))))))))))))
 ·refine Lg rfl rfl rfl g37 (q_move rfl) (Lg rfl rfl rfl g37 (q_move rfl) (Lg rfl rfl rfl g37 (q_lss rfl rfl) (Lq (q_pickT rfl g37 rfl) (WL_nil (thenN (WC_cond rfl (fun h41 => ?_) (fun h41 => ?_)))))))
  ·simp only [decide_eq_true_eq] at g37 h41
   exact absurd ⟨g37, h41⟩ hin
  ·refine WC_skip (thenN (WC_region (Lq (q_field (o' := 3) Un47 rfl ti3 rfl rfl) (Lq (q_load1 Un3 rfl rfl (ownS (own0)) rfl) (Lq (q_move rfl) (Lq (q_sub rfl rfl (wr64 (by omega)) (c := o.at_ - rankF o.at_ gone)) (Lq (q_field (o' := 3) Un47 rfl ti3 rfl rfl) (WL_main rfl (OW_store1 ti3 rfl rfl rfl (.s (.s (.s (.z)))) (.s (.z)) (WL_nil (blockN (thenN (WC_seq (WC_region (Lq (q_loadN (vs := [_, _, _, _, _, _, _, _, _]) Un47 rfl ti47 rfl (ownS (own0)) rfl rfl) (WL_main rfl (OW_storeN (cs' := [_, _, _, _, _, _, _, _, _]) (vs := [_, _, _, _, _, _, _, _, _]) ti47 rfl rfl rfl rfl rfl (Nat.le_of_ble_eq_true rfl) (.z) ?_)))))))))))))))))
   refine Lq (q_assign rfl) (WL_nil (thenN (WC_ret ?_)))
   refine ⟨_, [], [], fun Z w hs => RV_ownN hs Un47 rfl ti47 rfl own0 rfl (.tmp rfl (.nil)), ?_, fun Z w hs => hs.out (Sd (Sd (Sr))) (fun _ h => h)⟩
   exact ⟨rfl, rfl, rfl⟩
 ·refine Ln rfl rfl rfl g37 (Ln rfl rfl rfl g37 (Ln rfl rfl rfl g37 (Lq (q_pickF rfl g37 rfl) (WL_nil (thenN (WC_false rfl rfl (WC_skip (thenN (WC_region (Lq (q_field (o' := 3) Un47 rfl ti3 rfl rfl) (Lq (q_load1 Un3 rfl rfl (ownS (own0)) rfl) (Lq (q_move rfl) (Lq (q_sub rfl rfl (wr64 (by omega)) (c := o.at_ - rankF o.at_ gone)) (Lq (q_field (o' := 3) Un47 rfl ti3 rfl rfl) ?_))))))))))))))
  refine WL_main rfl (OW_store1 ti3 rfl rfl rfl (.s (.s (.s (.z)))) (.s (.z)) (WL_nil (blockN (thenN (WC_seq (WC_region (Lq (q_loadN (vs := [_, _, _, _, _, _, _, _, _]) Un47 rfl ti47 rfl (ownS (own0)) rfl rfl) (WL_main rfl (OW_storeN (cs' := [_, _, _, _, _, _, _, _, _]) (vs := [_, _, _, _, _, _, _, _, _]) ti47 rfl rfl rfl rfl rfl (Nat.le_of_ble_eq_true rfl) (.z) (Lq (q_assign rfl) (WL_nil (thenN (WC_ret ?_)))))))))))))
  refine ⟨_, [], [], fun Z w hs => RV_ownN hs Un47 rfl ti47 rfl own0 rfl (.tmp rfl (.nil)), ?_, fun Z w hs => hs.out (Sd (Sd (Sr))) (fun _ h => h)⟩
  exact ⟨rfl, rfl, rfl⟩

theorem bd47Xe4  (w : World) : (Instr.build 47 #[]).run Tryz.prog w = .ok (.agg #[.int .i64 0, .int .i64 0, .int .i64 0, .int .i64 0, .string ⟨#[]⟩, .slice none 0 0, .int .i64 0, .int .i64 0, .bool false]) w := by kernel_rfl

set_option maxRecDepth 10000 in
theorem wo_insE (o : GOp) (A : Option Addr) (c : Nat) (G : Option Addr) (gc : Nat) (gone : List Rg) (hg : Pls 60000 gone) (hg1 : gone.length ≤ 1) (hk : o.kind = 1) (ha : 0 ≤ o.at_ ∧ o.at_ ≤ 60000) (hin : 0 < rankF o.at_ gone ∧ rankF o.at_ gone < countF gone) : Sp Tryz.prog 26 [opV o A c, .slice G gone.length gc] [] [RdF rgD G gc gone] (Is (.tuple #[opV zeroOp none 0, .int .i64 23])) := by
 refine Sp.of (n := 105) ⟨_, Tryz.func26, rfl, rfl, rfl, rfl⟩ (Nat.le_of_ble_eq_true rfl) fun Ps As => WC_seq (WC_region (WL_main rfl (OW_box (cs := [_, _, _, _, _, _, _, _, _]) rfl rfl (by decide) fun b2 => WL_main rfl (OW_alloc (cs := [_, _, _, _, _, _, _, _, _]) ti47 rfl (by decide) fun b4 => Lq (q_assign rfl) (WL_nil (thenN (WC_seq (WC_seq (WC_region (Lq (q_field (o' := 0) Un47 rfl ti44 rfl rfl) (Lq (q_field (o' := 2) Un44 rfl ti42 rfl rfl) (Lq (q_load1 Un42 rfl rfl (ownS (own0)) rfl) (WL_nil (thenN (WC_block (WC_seq (WC_region ?_)))))))))))))))))
 refine Lq (q_eql rfl rfl) (Lq (q_assign rfl) (WL_nil (thenN (WC_true rfl (by rw [hk]; rfl) (WC_seq (WC_region (Lq (q_move rfl) (WL_main rfl (OW_call0 (count_p G gc gone hg) (.cons rfl (.nil)) (by decide) (memc M0 mem0) fun u3_1 Lo fs hres => ?_)))))))))
 obtain ⟨rfl, rfl, rfl⟩ := hres
 refine Lq (q_move rfl) (Lq (q_extract (vs := [_, _]) rfl rfl) (Lq (q_extract (vs := [_, _]) rfl rfl) (Lq (q_assign rfl) (Lq (q_assign rfl) (WL_nil (thenN (WC_seq (WC_region (Lq (q_move rfl) (Lq (q_field (o' := 3) Un47 rfl ti3 rfl rfl) (Lq (q_load1 Un3 rfl rfl (ownS (own0)) rfl) (WL_main rfl (OW_call0 (rank_p G gc gone o.at_ hg ha) (.cons rfl (.cons rfl (.nil))) (by decide) (memc M0 mem0) fun u4_3 Lo fs hres => ?_)))))))))))))
 obtain ⟨rfl, rfl, rfl⟩ := hres
 refine Lq (q_move rfl) (Lq (q_extract (vs := [_, _]) rfl rfl) (Lq (q_extract (vs := [_, _]) rfl rfl) (Lq (q_assign rfl) (Lq (q_assign rfl) (WL_nil (thenN (WC_seq (WC_seq (WC_region (Lq (q_move rfl) (Lq (q_gtr rfl rfl) (Lq (q_move rfl) (Lg rfl rfl rfl (by simpa using hin.1) (q_move rfl) ?_)))))))))))))
 refine Lg rfl rfl rfl (by simpa using hin.1) (q_move rfl) (Lg rfl rfl rfl (by simpa using hin.1) (q_lss rfl rfl) (Lq (q_pickT rfl (by simpa using hin.1) rfl) (WL_nil (thenN (WC_true rfl (by simpa using hin.2) (WC_seq (WC_region (Lq (q_build (.nil) (bd47Xe4)) (WL_main rfl (OW_storeN (cs' := [_, _, _, _, _, _, _, _, _]) (vs := [_, _, _, _, _, _, _, _, _]) ti47 rfl rfl rfl rfl rfl (Nat.le_of_ble_eq_true rfl) (.z) (Lq (q_assign rfl) (WL_nil (thenN (WC_ret (thenRet (blockRet (thenRet ?_)))))))))))))))))
 refine ⟨_, [], [], fun Z w hs => RV_ownN hs Un47 rfl ti47 rfl own0 rfl (.tmp rfl (.nil)), ?_, fun Z w hs => hs.out (Sd (Sd (Sr))) (fun _ h => h)⟩
 exact ⟨rfl, rfl, rfl⟩


set_option maxRecDepth 10000 in
theorem wo_st (o : GOp) (A : Option Addr) (c : Nat) (G : Option Addr) (gc : Nat) (gone : List Rg) (hg : Pls 60000 gone) (hg1 : gone.length ≤ 1) (hk : o.kind = 4) : Sp Tryz.prog 26 [opV o A c, .slice G gone.length gc] [] [RdF rgD G gc gone] (Is (.tuple #[opV o A c, .int .i64 0])) := by
 refine Sp.of (n := 105) ⟨_, Tryz.func26, rfl, rfl, rfl, rfl⟩ (Nat.le_of_ble_eq_true rfl) fun Ps As => WC_seq (WC_region (WL_main rfl (OW_box (cs := [_, _, _, _, _, _, _, _, _]) rfl rfl (by decide) fun b2 => WL_main rfl (OW_alloc (cs := [_, _, _, _, _, _, _, _, _]) ti47 rfl (by decide) fun b4 => Lq (q_assign rfl) (WL_nil (thenN (WC_seq (WC_seq (WC_region (Lq (q_field (o' := 0) Un47 rfl ti44 rfl rfl) (Lq (q_field (o' := 2) Un44 rfl ti42 rfl rfl) (Lq (q_load1 Un42 rfl rfl (ownS (own0)) rfl) (WL_nil (thenN (WC_block (WC_seq (WC_region ?_)))))))))))))))))
 refine Lq (q_eql rfl rfl) (Lq (q_assign rfl) (WL_nil (thenN (WC_false rfl (by rw [hk]; rfl) (WC_seq (WC_region (Lq (q_eql rfl rfl) (Lq (q_assign rfl) (WL_nil (thenN (WC_false rfl (by rw [hk]; rfl) (WC_skip (blockN (thenN (WC_seq (WC_region ?_))))))))))))))))
 refine Lq (q_loadN (vs := [_, _, _, _, _, _, _, _, _]) Un47 rfl ti47 rfl (ownS (own0)) rfl rfl) (WL_main rfl (OW_storeN (cs' := [_, _, _, _, _, _, _, _, _]) (vs := [_, _, _, _, _, _, _, _, _]) ti47 rfl rfl rfl rfl rfl (Nat.le_of_ble_eq_true rfl) (.z) (Lq (q_assign rfl) (WL_nil (thenN (WC_ret ?_))))))
 refine ⟨_, [], [], fun Z w hs => RV_ownN hs Un47 rfl ti47 rfl own0 rfl (.tmp rfl (.nil)), ?_, fun Z w hs => hs.out (Sd (Sd (Sr))) (fun _ h => h)⟩
 exact ⟨rfl, rfl, rfl⟩


set_option maxRecDepth 10000 in
theorem wo_hideE (o : GOp) (G : Option Addr) (gc : Nat) (gone : List Rg) (hg : Pls 60000 gone) (hg1 : gone.length ≤ 1) (b cap : Nat) (jk : List Value) (hp : Pls 60000 o.rs) (hcap : (rgs o.rs ++ jk).length = cap * 2) (hle : o.rs.length ≤ cap) (hmx : cap ≤ maxLen) (hk : o.kind = 2) (hin : ¬ meetF [] gone o.rs = []) : Sp Tryz.prog 26 [opV o (some ⟨b, 0, none⟩) cap, .slice G gone.length gc] [[(b, cellsO (rgs o.rs ++ jk) 119)]] [RdF rgD G gc gone] (Is (.tuple #[opV zeroOp none 0, .int .i64 23])) := by
 refine Sp.of (n := 105) ⟨_, Tryz.func26, rfl, rfl, rfl, rfl⟩ (Nat.le_of_ble_eq_true rfl) fun Ps As => WC_seq (WC_region (WL_main rfl (OW_box (cs := [_, _, _, _, _, _, _, _, _]) rfl rfl (by decide) fun b2 => WL_main rfl (OW_alloc (cs := [_, _, _, _, _, _, _, _, _]) ti47 rfl (by decide) fun b4 => Lq (q_assign rfl) (WL_nil (thenN (WC_seq (WC_seq (WC_fact (A := RepsF rgD o.rs (o.rs.map rgC)) (fun Z w _ => rgs_reps _ Z w) (WC_region (Lq (q_field (o' := 0) Un47 rfl ti44 rfl rfl) (Lq (q_field (o' := 2) Un44 rfl ti42 rfl rfl) ?_))))))))))))
 refine Lq (q_load1 Un42 rfl rfl (ownS (own0)) rfl) (WL_nil (thenN (WC_block (WC_seq (WC_region (Lq (q_eql rfl rfl) (Lq (q_assign rfl) (WL_nil (thenN (WC_false rfl (by rw [hk]; rfl) (WC_seq (WC_region (Lq (q_eql rfl rfl) (Lq (q_assign rfl) (WL_nil (thenN ?_))))))))))))))))
 refine WC_true rfl (by rw [hk]; rfl) (WC_seq (WC_seq (WC_region (Lq (q_move rfl) (Lq (q_field (o' := 5) Un47 rfl ti45 rfl rfl) (Lq (q_load1 Un45 rfl rfl (ownS (own0)) rfl) (WL_main rfl (OW_call1 (Sp.thaw (css := o.rs.map rgC) (jk := jk) (T' := 119) (meet_p G (some ⟨b, 0, none⟩) gc cap gone o.rs hg hp hg1) (fun v Lo fs h => by obtain ⟨_, _, _, _, _, _, h⟩ := h; exact h) ⟨hle, hmx⟩) (.cons rfl (.cons rfl (.nil))) (by decide) (.s (.s (.z))) (memc M0 (memc M1 mem0)) fun u9_3 Lo fs hres => ?_))))))))
 obtain ⟨Lo9, ⟨A9, n9, c9, rfl, hn9, rfl, _⟩, rfl, rfl⟩ := hres
 refine Lq (q_move rfl) (Lq (q_extract (vs := [_, _]) rfl rfl) (Lq (q_extract (vs := [_, _]) rfl rfl) (Lq (q_assign rfl) (Lq (q_assign rfl) (WL_nil (thenN (WC_seq (WC_region (Lq (q_move rfl) (Lq (q_len Un45 rfl) (Lq (q_gtr rfl rfl) (WL_nil (thenN ?_)))))))))))))
 refine WC_true rfl (by have : n9 ≠ 0 := fun e => hin (hn9.1 e); simp; omega) (WC_seq (WC_region (Lq (q_build (.nil) (bd47Xe4)) (WL_main rfl (OW_storeN (cs' := [_, _, _, _, _, _, _, _, _]) (vs := [_, _, _, _, _, _, _, _, _]) ti47 rfl rfl rfl rfl rfl (Nat.le_of_ble_eq_true rfl) (.s (.z)) (Lq (q_assign rfl) (WL_nil (thenN (WC_ret (thenRet (blockRet (thenRet ?_))))))))))))
 refine ⟨_, [], [], fun Z w hs => RV_ownN hs Un47 rfl ti47 rfl (ownS (own0)) rfl (.tmp rfl (.nil)), ?_, fun Z w hs => hs.out (Sd (Sd (Sd (Sr)))) T1⟩
 exact ⟨rfl, rfl, rfl⟩

def dnL (gone rs : List Rg) (k : Nat) : List Rg := downR gone (rs.take k) ++ rs.drop k
theorem dnL_zero (gone rs : List Rg) : dnL gone rs 0 = rs := by unfold dnL downR; simp
theorem dnL_full (gone rs : List Rg) : dnL gone rs rs.length = downR gone rs := by unfold dnL; simp
theorem dnL_length (gone rs : List Rg) (k : Nat) : (dnL gone rs k).length = rs.length := by
 unfold dnL downR
 rw [List.length_append, List.length_map, List.length_take, List.length_drop]; omega
theorem dnL_at (gone : List Rg) {rs : List Rg} {k : Nat} (hk : k < rs.length) : (dnL gone rs k)[k]? = some rs[k] := by
 unfold dnL downR
 rw [List.getElem?_append_right (by rw [List.length_map, List.length_take]; omega), List.length_map, List.length_take, Nat.min_eq_left (by omega), Nat.sub_self, List.getElem?_drop, Nat.add_zero, List.getElem?_eq_getElem hk]
theorem dnL_next (gone : List Rg) {rs : List Rg} {k : Nat} (hk : k < rs.length) : (dnL gone rs k).set k ⟨rs[k].lo - rankF rs[k].lo gone, rs[k].hi - rankF rs[k].hi gone⟩ = dnL gone rs (k + 1) := by
 unfold dnL downR
 have hl : ((rs.take k).map fun r => (⟨r.lo - rankF r.lo gone, r.hi - rankF r.hi gone⟩ : Rg)).length = k := by rw [List.length_map, List.length_take]; omega
 rw [List.set_append_right _ _ (by omega), hl, Nat.sub_self, List.drop_eq_getElem_cons hk, List.set_cons_zero, List.take_succ_eq_append_getElem hk, List.map_append]
 simp
theorem make_q (A : Option Addr) (c n : Nat) (xs : List Rg) (hn : n = xs.length) (hs : Srt xs) (hl : xs.length ≤ 32768) (hne : xs ≠ []) : Sp Tryz.prog 59 [.slice A n c] [] [RdF rgD A c xs] (fun v Lo fs => ∃ A' c', v = .tuple #[.slice A' (packF [] xs).length c', .int .i64 0] ∧ Lo = [] ∧ fs = [RdF rgD A' c' (packF [] xs)]) := by
 subst hn; exact make_p A c xs hs hl hne
theorem row_at {b cap : Nat} {jk : List Value} {xs ys : List Rg} (h : (rgs xs ++ jk).length = cap * 2) (hl : ys.length = xs.length) (hle : xs.length ≤ cap) (hmx : cap ≤ maxLen) : Row 119 2 (.slice (some ⟨b, 0, none⟩) ys.length cap) ys.length (rgs ys) [(b, cellsO (rgs ys ++ jk) 119)] := by
 refine ⟨rgs_length _, .inr ⟨b, cap, jk, rfl, rfl, ?_, by omega, hmx⟩⟩
 rw [List.length_append, rgs_length] at h ⊢
 rw [hl]; exact h

set_option maxRecDepth 10000 in
theorem wo_hide (o : GOp) (G : Option Addr) (gc : Nat) (gone : List Rg) (hg : Pls 60000 gone) (hg1 : gone.length ≤ 1) (b cap : Nat) (jk : List Value) (hp : Pls 60000 o.rs) (hcap : (rgs o.rs ++ jk).length = cap * 2) (hle : o.rs.length ≤ cap) (hmx : cap ≤ maxLen) (hk : o.kind = 2) (hin : meetF [] gone o.rs = []) (hs : Srt (downR gone o.rs)) (hne : o.rs ≠ []) : Sp Tryz.prog 26 [opV o (some ⟨b, 0, none⟩) cap, .slice G gone.length gc] [[(b, cellsO (rgs o.rs ++ jk) 119)]] [RdF rgD G gc gone] (fun v Lo fs => ∃ A' c', v = .tuple #[opV { o with rs := packF [] (downR gone o.rs) } A' c', .int .i64 0] ∧ Lo = [] ∧ fs = [RdF rgD A' c' (packF [] (downR gone o.rs))]) := by
 have hln := hp.len (by omega)
 refine Sp.of (n := 105) ⟨_, Tryz.func26, rfl, rfl, rfl, rfl⟩ (Nat.le_of_ble_eq_true rfl) fun Ps As => WC_seq (WC_region (WL_main rfl (OW_box (cs := [_, _, _, _, _, _, _, _, _]) rfl rfl (by decide) fun b2 => WL_main rfl (OW_alloc (cs := [_, _, _, _, _, _, _, _, _]) ti47 rfl (by decide) fun b4 => Lq (q_assign rfl) (WL_nil (thenN (WC_seq (WC_seq (WC_fact (A := RepsF rgD o.rs (o.rs.map rgC)) (fun Z w _ => rgs_reps _ Z w) (WC_region (Lq (q_field (o' := 0) Un47 rfl ti44 rfl rfl) (Lq (q_field (o' := 2) Un44 rfl ti42 rfl rfl) ?_))))))))))))
 refine Lq (q_load1 Un42 rfl rfl (ownS (own0)) rfl) (WL_nil (thenN (WC_block (WC_seq (WC_region (Lq (q_eql rfl rfl) (Lq (q_assign rfl) (WL_nil (thenN (WC_false rfl (by rw [hk]; rfl) (WC_seq (WC_region (Lq (q_eql rfl rfl) (Lq (q_assign rfl) (WL_nil (thenN ?_))))))))))))))))
 refine WC_true rfl (by rw [hk]; rfl) (WC_seq (WC_seq (WC_region (Lq (q_move rfl) (Lq (q_field (o' := 5) Un47 rfl ti45 rfl rfl) (Lq (q_load1 Un45 rfl rfl (ownS (own0)) rfl) (WL_main rfl (OW_call1 (Sp.thaw (css := o.rs.map rgC) (jk := jk) (T' := 119) (meet_p G (some ⟨b, 0, none⟩) gc cap gone o.rs hg hp hg1) (fun v Lo fs h => by obtain ⟨_, _, _, _, _, _, h⟩ := h; exact h) ⟨hle, hmx⟩) (.cons rfl (.cons rfl (.nil))) (by decide) (.s (.s (.z))) (memc M0 (memc M1 mem0)) fun u9_3 Lo fs hres => ?_))))))))
 obtain ⟨Lo9, ⟨A9, n9, c9, rfl, hn9, rfl, _⟩, rfl, rfl⟩ := hres
 refine Lq (q_move rfl) (Lq (q_extract (vs := [_, _]) rfl rfl) (Lq (q_extract (vs := [_, _]) rfl rfl) (Lq (q_assign rfl) (Lq (q_assign rfl) (WL_nil (thenN (WC_fr [(10, _), (5, _), (4, _), (2, _), (1, _)] (.cons rfl (.cons rfl (.cons rfl (.cons rfl (.cons rfl (.nil _)))))) (WC_seq (WC_region (Lq (q_move rfl) (Lq (q_len Un45 rfl) ?_)))))))))))
 refine Lq (q_gtr rfl rfl) (WL_nil (thenN (WC_false rfl (by have := hn9.2 hin; simp; omega) (WC_skip (thenN (WC_seq (WC_seq ?_)))))))
 rw [← dnL_zero gone o.rs]
 refine WC_region (Lq (q_field (o' := 5) Un47 rfl ti45 rfl rfl) (Lq (q_load1 Un45 rfl rfl (ownS (ownS (own0))) rfl) (Lq (q_len Un45 rfl) (Lq (q_move rfl) (WL_nil (thenN (WC_block (WC_pick (.s (.s (.z))) (WC_pick (.s (.s (.z))) (WC_pick (.s (.s (.z))) ?_))))))))))
 refine WC_loopE (α := Nat) (fun k => o.rs.length - k)
  (fun k => [(1, .slice G gone.length gc), (2, .pointer (some ⟨b2, 0, none⟩)), (4, .pointer (some ⟨b4, 0, none⟩)), (5, .int .i64 0), (62, .slice (some ⟨b, 0, none⟩) o.rs.length cap), (63, .int .i64 o.rs.length), (64, .int .i64 k)])
  (fun k => ([(b, cellsO (rgs (dnL gone o.rs k) ++ jk) 119)] :: [(b4, cellsO (opC zeroOp none 0) 47)] :: [(b2, cellsO (opC o (some ⟨b, 0, none⟩) cap) 47)] :: Ps))
  (fun k => (RepsF rgD o.rs (o.rs.map rgC) :: RdF rgD G gc gone :: As))
  (fun k => k ≤ o.rs.length)
  0 ?_ (.cons rfl (.cons rfl (.cons rfl (.cons rfl (.cons rfl (.cons rfl (.cons rfl (.nil _)))))))) (Sk (Sk (Sk (Sr)))) (fun _ h => h) ?_
 ·exact Nat.zero_le _
 ·rintro k hI
  refine WC_seq (WC_region (Lq (q_lss rfl rfl) (WL_nil (thenN (WC_seq (WC_cond rfl (fun h65 => ?_) (fun h65 => ?_)))))))
  ·refine WC_skip (thenN (WC_seq (WC_block (WC_seq ?_))))
   try simp only [Bp, Bq] at *
   have hk2 : k < o.rs.length := by omega
   have hm1 := hp.norm.mem _ (List.getElem_mem hk2)
   have hm2 := hp.below _ (List.getElem_mem hk2)
   have hr1 := rankF_bd o.rs[k].lo hg.norm hg.below (by omega)
   have hr2 := rankF_bd o.rs[k].hi hg.norm hg.below (by omega)
   have hdl := dnL_length gone o.rs k
   have hcs : ∀ cs ∈ (dnL gone o.rs k).map rgC, cs.length = 2 := fun cs hcs => by obtain ⟨x, _, rfl⟩ := List.mem_map.1 hcs; rfl
   have hca : ((dnL gone o.rs k).map rgC)[k]? = some (rgC o.rs[k]) := by rw [List.getElem?_map, dnL_at gone hk2]; rfl
   refine WC_region (Lq (q_move rfl) (Lq (q_idxOwn Un45 ti119 rfl rfl (by omega) (by omega)) (Lq (q_loadR (i := k) (css := (dnL gone o.rs k).map rgC) (c := rgC o.rs[k]) Un119 rfl ti119 rfl (by simp) own0 hcs hca) (WL_main rfl (OW_alloc (cs := [_, _]) ti119 rfl (by decide) fun b13 => Lq (q_assign rfl) (WL_main rfl (OW_storeN (cs' := [_, _]) (vs := [_, _]) ti119 rfl rfl rfl rfl rfl (Nat.le_of_ble_eq_true rfl) (.z) (WL_nil (thenN (WC_seq (WC_region (Lq (q_move rfl) (Lq (q_field (o' := 0) Un119 rfl ti3 rfl rfl) ?_)))))))))))))
   refine Lq (q_load1 Un3 rfl rfl own0 rfl) (WL_main rfl (OW_call0 (rank_p G gc gone o.rs[k].lo hg (by omega)) (.cons rfl (.cons rfl (.nil))) (by decide) (memc M1 mem0) fun u15_3 Lo fs hres => ?_))
   obtain ⟨rfl, rfl, rfl⟩ := hres
   refine Lq (q_move rfl) (Lq (q_extract (vs := [_, _]) rfl rfl) (Lq (q_extract (vs := [_, _]) rfl rfl) (Lq (q_assign rfl) (Lq (q_assign rfl) (WL_nil (thenN (WC_fr [(14, _), (75, _), (74, _), (69, _), (73, _), (72, _), (71, _), (70, _), (12, _), (13, _), (68, _), (67, _), (66, _), (65, _), (1, _), (2, _), (4, _), (5, _), (62, _), (63, _), (64, _)] (.cons rfl (.cons rfl (.cons rfl (.cons rfl (.cons rfl (.cons rfl (.cons rfl (.cons rfl (.cons rfl (.cons rfl (.cons rfl (.cons rfl (.cons rfl (.cons rfl (.cons rfl (.cons rfl (.cons rfl (.cons rfl (.cons rfl (.cons rfl (.cons rfl (.nil _)))))))))))))))))))))) (WC_seq (WC_region (Lq (q_move rfl) (Lq (q_field (o' := 1) Un119 rfl ti3 rfl rfl) ?_)))))))))))
   refine Lq (q_load1 Un3 rfl rfl own0 rfl) (WL_main rfl (OW_call0 (rank_p G gc gone o.rs[k].hi hg (by omega)) (.cons rfl (.cons rfl (.nil))) (by decide) (memc M1 mem0) fun u16_3 Lo fs hres => ?_))
   obtain ⟨rfl, rfl, rfl⟩ := hres
   refine Lq (q_move rfl) (Lq (q_extract (vs := [_, _]) rfl rfl) (Lq (q_extract (vs := [_, _]) rfl rfl) (Lq (q_assign rfl) (Lq (q_assign rfl) (WL_nil (thenN (WC_fr [(16, _), (82, _), (81, _), (76, _), (80, _), (79, _), (78, _), (77, _), (14, _), (75, _), (74, _), (69, _), (73, _), (72, _), (71, _), (70, _), (12, _), (13, _), (68, _), (67, _), (66, _), (65, _), (1, _), (2, _), (4, _), (5, _), (62, _), (63, _), (64, _)] (.cons rfl (.cons rfl (.cons rfl (.cons rfl (.cons rfl (.cons rfl (.cons rfl (.cons rfl (.cons rfl (.cons rfl (.cons rfl (.cons rfl (.cons rfl (.cons rfl (.cons rfl (.cons rfl (.cons rfl (.cons rfl (.cons rfl (.cons rfl (.cons rfl (.cons rfl (.cons rfl (.cons rfl (.cons rfl (.cons rfl (.cons rfl (.cons rfl (.cons rfl (.nil _)))))))))))))))))))))))))))))) (WC_region (Lq (q_field (o' := 5) Un47 rfl ti45 rfl rfl) ?_)))))))))
   refine Lq (q_load1 Un45 rfl rfl (ownS (ownS (ownS (own0)))) rfl) (Lq (q_move rfl) (Lq (q_field (o' := 0) Un119 rfl ti3 rfl rfl) (Lq (q_load1 Un3 rfl rfl own0 rfl) (Lq (q_move rfl) (Lq (q_sub rfl rfl (wr64 (by omega)) (c := o.rs[k].lo - rankF o.rs[k].lo gone)) (Lq (q_field (o' := 1) Un119 rfl ti3 rfl rfl) (Lq (q_load1 Un3 rfl rfl own0 rfl) (Lq (q_move rfl) (Lq (q_sub rfl rfl (wr64 (by omega)) (c := o.rs[k].hi - rankF o.rs[k].hi gone)) ?_)))))))))
   refine Lq (q_build (.cons rfl (.cons rfl (.nil))) (bd119_0_1Xe4 _ _)) (Lq (q_idxOwn Un45 ti119 rfl rfl (by omega) (by omega)) (WL_main rfl (OW_storeR (i := k) (css := (dnL gone o.rs k).map rgC) (c := rgC ⟨o.rs[k].lo - rankF o.rs[k].lo gone, o.rs[k].hi - rankF o.rs[k].hi gone⟩) ti119 rfl (by simp) rfl rfl rfl hcs (by rw [List.length_map]; omega) (.s (.z)) (WL_nil (blockN (thenN ?_))))))
   rw [show (((dnL gone o.rs k).map rgC).set k (rgC ⟨o.rs[k].lo - rankF o.rs[k].lo gone, o.rs[k].hi - rankF o.rs[k].hi gone⟩)) = (dnL gone o.rs (k + 1)).map rgC from by rw [← dnL_next gone hk2, List.map_set]]
   refine WC_region (Lq (q_add rfl rfl (wr64 (by omega)) (c := ((k + 1 : Nat) : Int))) (Lq (q_move rfl) (WL_nil (thenK ?_))))
   refine ⟨k + 1, ?_, (.cons rfl (.cons rfl (.cons rfl (.cons rfl (.cons rfl (.cons rfl (.cons rfl (.nil _)))))))), (Sd (Sk (Sk (Sk (Sr))))), (fun _ h => h)⟩
   exact ⟨by omega, by omega⟩
  ·refine WC_exit (thenExit (thenExit (blockHit (thenN ?_))))
   try simp only [Bp, Bq] at *
   obtain rfl : k = o.rs.length := by have := hI; omega
   rw [dnL_full]
   have hdl : (downR gone o.rs).length = o.rs.length := by unfold downR; rw [List.length_map]
   refine WC_fact (A := RepsF rgD (downR gone o.rs) ((downR gone o.rs).map rgC)) (fun Z w _ => rgs_reps _ Z w) (WC_freeze (e := rgD) (xs := downR gone o.rs) (css := (downR gone o.rs).map rgC) (row_at hcap hdl hle hmx) (.z) rfl M0 fun A9 c9 e9 => ?_)
   obtain ⟨rfl, _, rfl⟩ := Value.slice.inj e9
   refine WC_region (Lq (q_field (o' := 5) Un47 rfl ti45 rfl rfl) (Lq (q_load1 Un45 rfl rfl (ownS (own0)) rfl) (WL_main rfl (OW_call0 (make_q (some ⟨b, 0, none⟩) cap o.rs.length (downR gone o.rs) hdl.symm hs (by omega) (fun e => hne (List.length_eq_zero_iff.1 (by rw [← hdl, e]; rfl)))) (.cons rfl (.nil)) (by decide) (memc M0 mem0) fun u19_2 Lo fs hres => ?_))))
   obtain ⟨A8, c8, rfl, rfl, rfl⟩ := hres
   refine Lq (q_move rfl) (Lq (q_extract (vs := [_, _]) rfl rfl) (Lq (q_extract (vs := [_, _]) rfl rfl) (Lq (q_field (o' := 5) Un47 rfl ti45 rfl rfl) (WL_main rfl (OW_store1 ti45 rfl rfl rfl (.s (.s (.s (.s (.s (.z)))))) (.s (.z)) (WL_nil (blockN (thenN (WC_seq (WC_region (Lq (q_loadN (vs := [_, _, _, _, _, _, _, _, _]) Un47 rfl ti47 rfl (ownS (own0)) rfl rfl) (WL_main rfl (OW_storeN (cs' := [_, _, _, _, _, _, _, _, _]) (vs := [_, _, _, _, _, _, _, _, _]) ti47 rfl rfl rfl rfl rfl (Nat.le_of_ble_eq_true rfl) (.z) (Lq (q_assign rfl) (WL_nil (thenN (WC_ret ?_)))))))))))))))))
   refine ⟨_, [], [_], fun Z w hs => RV_ownN hs Un47 rfl ti47 rfl own0 rfl (.tmp rfl (.nil)), ?_, fun Z w hs => hs.out (Sd (Sd (Sr))) (memc M0 T4)⟩
   exact ⟨A8, c8, rfl, rfl, rfl⟩

end Go.Proofs.YtcjbjkbghgjmdaaGreatDoor
