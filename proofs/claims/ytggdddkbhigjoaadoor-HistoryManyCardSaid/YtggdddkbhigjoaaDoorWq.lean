/- Walks: history.Last. -/
import Derived.Test.YtggdddkbhigjoaaDoorWp
set_option linter.unusedVariables false
set_option linter.unusedSimpArgs false
namespace Go.Proofs.YtggdddkbhigjoaaDoor
open Go Go.GW
structure LsI (K : List MK) (c : Int) (seen : Array Nat) (v : Int) : Prop where
  le : ∀ (j : Nat) (y : MK), K[j]? = some y → seen.contains j = true → y.c = c → y.n ≤ v
  at_ : v = 0 ∨ ∃ y ∈ K, y.c = c ∧ y.n = v
  pos : 0 ≤ v
theorem LsI.zero (K : List MK) (c : Int) : LsI K c #[] 0 := ⟨fun j y _ h => by simp at h, .inl rfl, Int.le_refl _⟩
theorem seen_push {seen : Array Nat} {i j : Nat} (h : (seen.push j).contains i = true) : seen.contains i = true ∨ i = j := by
  simpa using h
theorem LsI.hit {K : List MK} {c : Int} {seen : Array Nat} {v : Int} (h : LsI K c seen v) {j : Nat} {y : MK} (hj : K[j]? = some y) (hc : y.c = c) : LsI K c (seen.push j) (max v y.n) := by
  refine ⟨fun i z hi hs hz => ?_, ?_, by have := h.pos; omega⟩
  · rcases seen_push hs with hs | rfl
    · have := h.le i z hi hs hz; omega
    · rw [hj] at hi; cases hi; omega
  · by_cases hv : y.n ≤ v
    · rw [show max v y.n = v from by omega]; exact h.at_
    · exact .inr ⟨y, List.mem_of_getElem? hj, hc, by omega⟩
theorem LsI.miss {K : List MK} {c : Int} {seen : Array Nat} {v : Int} (h : LsI K c seen v) {j : Nat} {y : MK} (hj : K[j]? = some y) (hc : ¬ y.c = c) : LsI K c (seen.push j) v := by
  refine ⟨fun i z hi hs hz => ?_, h.at_, h.pos⟩
  rcases seen_push hs with hs | rfl
  · exact h.le i z hi hs hz
  · rw [hj] at hi; cases hi; exact absurd hz hc
/-- The greatest number of a client. -/
def LastIs (H : Hist) (c r : Int) : Prop := (∀ e ∈ H.ents, e.op.c = c → e.op.n ≤ r) ∧ (r = 0 ∨ ∃ e ∈ H.ents, e.op.c = c ∧ e.op.n = r) ∧ 0 ≤ r
theorem LsI.done {H : Hist} {L : List MR} (hr : HR H L) {c : Int} {seen : Array Nat} {v : Int} (h : LsI (keys L) c seen v) (hall : ∀ j, j < (keys L).length → seen.contains j = true) : LastIs H c v := by
  refine ⟨fun e he hc => ?_, ?_, h.pos⟩
  · obtain ⟨k, hk, rfl⟩ := List.mem_iff_getElem.1 he
    obtain ⟨j, x, hj, hm, _⟩ := hr.look hk
    have hkj := keys_get hj
    have hlt : j < (keys L).length := by
      rcases Nat.lt_or_ge j (keys L).length with h | h
      · exact h
      · rw [List.getElem?_eq_none h] at hkj; cases hkj
    have := h.le j _ hkj (hall j hlt)
    simp only [hm, markAt] at this
    exact this hc
  · rcases h.at_ with h1 | ⟨y, hy, hc, hn⟩
    · exact .inl h1
    · right
      obtain ⟨x, hx, rfl⟩ := List.mem_map.1 hy
      have h4 := (hr.perm.mem_iff).1 (List.mem_map.2 ⟨x, hx, rfl⟩)
      obtain ⟨k, e, h5, h6⟩ := marksFrom_mem h4
      simp only [h6, markAt] at hc hn
      exact ⟨e, List.mem_of_getElem? h5, hc, hn⟩
def LsP (H : Hist) (c : Int) (ps : List Part) : Value → List Part → List Fact → Prop := fun v Lo fs => ∃ r : Int, v = .int .i64 r ∧ LastIs H c r ∧ Lo = ps ∧ fs = []

set_option maxRecDepth 10000 in
theorem last_s (h m cap : Nat) (A : Option Addr) (H : Hist) (L : List MR) (hr : HR H L) (c : Int) : Sp Tryd.prog 15 [.pointer (some ⟨h, 0, none⟩), .int .i64 c] [hdP h A H.ops.length cap m H.total, mpP m L] [] (LsP H c [hdP h A H.ops.length cap m H.total, mpP m L]) := by
  refine Sp.of (n := 25) ⟨_, Tryd.func15, rfl, rfl, rfl, rfl⟩ (Nat.le_of_ble_eq_true rfl) fun Ps As => ?_
  refine WC_seq ?_
  refine WC_region ?_
  refine WL_q (q_assign rfl) (by decide) ?_
  refine WL_nil ?_
  refine thenN ?_
  refine WC_seq ?_
  refine WC_region ?_
  refine WL_q (q_assign rfl) (by decide) ?_
  refine WL_nil ?_
  refine thenN ?_
  refine WC_seq ?_
  refine WC_seq ?_
  refine WC_region ?_
  refine WL_q (q_move rfl) (by decide) ?_
  refine WL_q (q_nil rfl) (by decide) ?_
  refine WL_q (q_field (o' := 1) Tryd.underlying97 rfl ti95 rfl rfl) (by decide) ?_
  refine WL_q (q_load1 Tryd.underlying95 rfl rfl own0 rfl) (by decide) ?_
  refine WL_main rfl (OW_rangeM Tryd.underlying95 rfl (ownS (own0)) (by decide) fun b11 => ?_)
  refine WL_nil ?_
  refine thenN ?_
  refine WC_block ?_
  refine WC_loopE (α := Array Nat × Int) (fun (seen, v) => leftN (keys L) seen)
    (fun (seen, v) => [(1, .int .i64 c), (5, .int .i64 v), (11, .pointer (some ⟨b11, 0, none⟩))])
    (fun (seen, v) => ([(b11, .mapIter (some m) (keys L).length seen (keys L).length)] :: hdP h A H.ops.length cap m H.total :: mpP m L :: Ps))
    (fun (seen, v) => As)
    (fun (seen, v) => LsI (keys L) c seen v)
    (#[], 0) ?_ (.cons rfl (.cons rfl (.cons rfl (.nil _)))) (List.Sublist.cons_cons _ (List.Sublist.cons_cons _ (List.Sublist.cons_cons _ (List.Sublist.refl _)))) (fun _ h => h) ?_
  · exact LsI.zero _ _
  · rintro ⟨seen, v⟩ hI
    refine WC_seq ?_
    refine WC_region ?_
    refine WL_main rfl (OW_nextM (Ps'' := fun s => [(b11, .mapIter (some m) (keys L).length s (keys L).length)] :: hdP h A H.ops.length cap m H.total :: mpP m L :: Ps) rfl (ownS (ownS (own0))) own0 (fun s => .z) (by decide) (fun hall => ?_) (fun j y hj hlt => ?_))
    · refine WL_q (q_extract (vs := [_]) rfl rfl) (by decide) ?_
      refine WL_nil ?_
      refine thenN ?_
      refine WC_seq ?_
      refine WC_false rfl rfl ?_
      refine WC_exit ?_
      refine thenExit ?_
      refine thenExit ?_
      refine blockHit ?_
      refine thenN ?_
      refine WC_seq ?_
      refine WC_region ?_
      refine WL_q (q_move rfl) (by decide) ?_
      refine WL_q (q_assign rfl) (by decide) ?_
      refine WL_nil ?_
      refine thenN ?_
      refine WC_ret ?_
      refine ⟨_, [_, _], [], fun Z w hs => .tmp rfl (.nil), ?_, fun Z w hs => hs.out (List.Sublist.cons _ (List.Sublist.cons_cons _ (List.Sublist.cons_cons _ (List.Sublist.refl _)))) (fun _ h => h)⟩
      exact ⟨v, rfl, hI.done hr hall, rfl, rfl⟩
    · refine WL_q (q_extract (vs := [_, _, _]) rfl rfl) (by decide) ?_
      refine WL_nil ?_
      refine thenN ?_
      refine WC_seq ?_
      refine WC_true rfl rfl ?_
      refine WC_skip ?_
      refine thenN ?_
      refine WC_block ?_
      refine WC_seq ?_
      refine WC_region ?_
      refine WL_q (q_entryM rfl (ownS (ownS (own0))) own0 hj) (by decide) ?_
      refine WL_q (q_extract (vs := [_, _]) rfl rfl) (by decide) ?_
      refine WL_main rfl (OW_alloc (cs := [_, _]) ti25 rfl (by decide) fun b6 => ?_)
      refine WL_main rfl (OW_storeN (cs' := [_, _]) (vs := [_, _]) ti25 rfl rfl rfl rfl rfl (Nat.le_of_ble_eq_true rfl) (.z) ?_)
      refine WL_nil ?_
      refine thenN ?_
      refine WC_seq ?_
      refine WC_region ?_
      refine WL_q (q_idxA (o' := 0) Tryd.underlying25 ti3 rfl rfl (by decide) (by decide) rfl) (by decide) ?_
      refine WL_q (q_load1 Tryd.underlying3 rfl rfl own0 rfl) (by decide) ?_
      refine WL_q (q_move rfl) (by decide) ?_
      refine WL_q (q_eql rfl rfl) (by decide) ?_
      refine WL_nil ?_
      refine thenN ?_
      refine WC_cond rfl (fun h19 => ?_) (fun h19 => ?_)
      · refine WC_region ?_
        refine WL_q (q_move rfl) (by decide) ?_
        refine WL_q (q_idxA (o' := 1) Tryd.underlying25 ti3 rfl rfl (by decide) (by decide) rfl) (by decide) ?_
        refine WL_q (q_load1 Tryd.underlying3 rfl rfl own0 rfl) (by decide) ?_
        refine WL_q (q_max rfl rfl) (by decide) ?_
        refine WL_q (q_assign rfl) (by decide) ?_
        refine WL_nil ?_
        refine blockN ?_
        refine thenK ?_
        refine ⟨(seen.push j, max v y.n), ?_, (.cons rfl (.cons rfl (.cons rfl (.nil _)))), (List.Sublist.cons _ (List.Sublist.cons_cons _ (List.Sublist.cons_cons _ (List.Sublist.cons_cons _ (List.Sublist.refl _))))), (fun _ h => h)⟩
        try simp only [decide_eq_true_eq, decide_eq_false_iff_not, beq_iff_eq, bne_iff_ne, beq_eq_false_iff_ne, ne_eq, Bool.and_eq_true, Bool.not_eq_true', Bool.not_eq_false', Bool.not_eq_true, Bool.not_eq_false, bne_eq_false_iff_eq, Bool.and_eq_false_iff] at *
        exact ⟨hlt, hI.hit hj h19⟩
      · refine WC_skip ?_
        refine blockN ?_
        refine thenK ?_
        refine ⟨(seen.push j, v), ?_, (.cons rfl (.cons rfl (.cons rfl (.nil _)))), (List.Sublist.cons _ (List.Sublist.cons_cons _ (List.Sublist.cons_cons _ (List.Sublist.cons_cons _ (List.Sublist.refl _))))), (fun _ h => h)⟩
        try simp only [decide_eq_true_eq, decide_eq_false_iff_not, beq_iff_eq, bne_iff_ne, beq_eq_false_iff_ne, ne_eq, Bool.and_eq_true, Bool.not_eq_true', Bool.not_eq_false', Bool.not_eq_true, Bool.not_eq_false, bne_eq_false_iff_eq, Bool.and_eq_false_iff] at *
        exact ⟨hlt, hI.miss hj h19⟩

end Go.Proofs.YtggdddkbhigjoaaDoor
