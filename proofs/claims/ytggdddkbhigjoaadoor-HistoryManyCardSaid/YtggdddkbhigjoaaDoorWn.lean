/- Walks: history.moved. -/
import Derived.Test.YtggdddkbhigjoaaDoorWm
import Derived.Test.YtggdddkbhigjoaaDoorPu
set_option linter.unusedVariables false
set_option linter.unusedSimpArgs false
namespace Go.Proofs.YtggdddkbhigjoaaDoor
open Go Go.GW
/-- Cells of the answers. -/
def slC (x : List Rg × Option Addr × Nat) : Value := .slice x.2.1 x.1.length x.2.2
def slsF (ys : List (List Rg × Option Addr × Nat)) : Fact := AllF ys fun x => RdF rgD x.2.1 x.2.2 x.1
structure MvI (ents : List Ent) (at_ n : Int) (k : Nat) (ys : List (List Rg × Option Addr × Nat)) : Prop where
  le : k ≤ ents.length
  len : ys.length = k
  eq : movedAll ents at_ n = (match movedAll (ents.drop k) at_ n with | .error e => .error e | .ok ls => .ok (ys.map Prod.fst ++ ls))
theorem MvI.err {ents : List Ent} {at_ n : Int} {k : Nat} {ys : List (List Rg × Option Addr × Nat)} (h : MvI ents at_ n k ys) (hk : k < ents.length) (h1 : (thrF ents[k].now at_ n).2 ≠ 0) : movedAll ents at_ n = .error (thrF ents[k].now at_ n).2 := by
  rw [h.eq, List.drop_eq_getElem_cons hk, movedAll, if_pos h1]
theorem MvI.next {ents : List Ent} {at_ n : Int} {k : Nat} {ys : List (List Rg × Option Addr × Nat)} (h : MvI ents at_ n k ys) (hk : k < ents.length) (h1 : ¬ (thrF ents[k].now at_ n).2 ≠ 0) (A : Option Addr) (c : Nat) : MvI ents at_ n (k + 1) (ys ++ [((thrF ents[k].now at_ n).1, A, c)]) := by
  refine ⟨hk, by simp [h.len], ?_⟩
  rw [h.eq, List.drop_eq_getElem_cons hk, movedAll, if_neg h1]
  cases movedAll (ents.drop (k + 1)) at_ n with
  | error e => rfl
  | ok ls => simp
theorem MvI.done {ents : List Ent} {at_ n : Int} {k : Nat} {ys : List (List Rg × Option Addr × Nat)} (h : MvI ents at_ n k ys) (hk : ¬ k < ents.length) : movedAll ents at_ n = .ok (ys.map Prod.fst) := by
  rw [h.eq, List.drop_eq_nil_of_le (by have := h.le; omega)]
  simp [movedAll]
theorem sls_reps {ys : List (List Rg × Option Addr × Nat)} {Z : Nat → Prop} {w : World} (h : (slsF ys).holds Z w) : Reps (rsl.rep Z w) (ys.map Prod.fst) (ys.map fun x => [slC x]) := by
  induction ys with
  | nil => exact .nil
  | cons y ys ih => exact .cons ⟨y.2.1, y.2.2, rfl, h y List.mem_cons_self⟩ (ih fun x hx => h x (List.mem_cons_of_mem _ hx))
theorem sls_flat (ys : List (List Rg × Option Addr × Nat)) : (ys.map fun x => [slC x]).flatten = ys.map slC := by
  induction ys with
  | nil => rfl
  | cons y ys ih => simp [ih]
def MvP (r : Except Int (List (List Rg))) (ps : List Part) : Value → List Part → List Fact → Prop := fun v Lo fs => Lo = ps ∧
  match r with
  | .error e => v = .tuple #[.slice none 0 0, .int .i64 e] ∧ fs = []
  | .ok ls => ∃ A c, v = .tuple #[.slice A ls.length c, .int .i64 0] ∧ fs = [RdF rsl A c ls]

set_option maxRecDepth 10000 in
theorem hmoved_s (h m cap : Nat) (A : Option Addr) (H : Hist) (L : List MR) (hr : HR H L) (at_ n : Int) : Sp Tryd.prog 41 [.pointer (some ⟨h, 0, none⟩), .int .i64 at_, .int .i64 n] [hdP h A H.ops.length cap m H.total, mpP m L, mkP L] [RdF opD A cap H.ops, AllF L nowF] (MvP (movedAll H.ents at_ n) [hdP h A H.ops.length cap m H.total, mpP m L, mkP L]) := by
  have hol := ops_len H
  have hlen := hr.len
  refine Sp.of (n := 55) ⟨_, Tryd.func41, rfl, rfl, rfl, rfl⟩ (Nat.le_of_ble_eq_true rfl) fun Ps As => ?_
  refine WC_seq ?_
  refine WC_region ?_
  refine WL_q (q_assign rfl) (by decide) ?_
  refine WL_q (q_assign rfl) (by decide) ?_
  refine WL_nil ?_
  refine thenN ?_
  refine WC_seq ?_
  refine WC_region ?_
  refine WL_q (q_move rfl) (by decide) ?_
  refine WL_q (q_nil rfl) (by decide) ?_
  refine WL_q (q_field (o' := 0) Tryd.underlying97 rfl ti45 rfl rfl) (by decide) ?_
  refine WL_q (q_load1 Tryd.underlying45 rfl rfl own0 rfl) (by decide) ?_
  refine WL_q (q_len Tryd.underlying45 rfl) (by decide) ?_
  refine WL_main rfl (OW_make1 Tryd.underlying102 ti29 rfl rfl rfl (by omega) (by unfold maxLen; omega) (by decide) fun bo => ?_)
  refine WL_q (q_assign rfl) (by decide) ?_
  refine WL_nil ?_
  refine thenN ?_
  refine WC_seq ?_
  refine WC_seq ?_
  refine WC_region ?_
  refine WL_q (q_move rfl) (by decide) ?_
  refine WL_q (q_nil rfl) (by decide) ?_
  refine WL_q (q_field (o' := 0) Tryd.underlying97 rfl ti45 rfl rfl) (by decide) ?_
  refine WL_q (q_load1 Tryd.underlying45 rfl rfl (ownS (own0)) rfl) (by decide) ?_
  refine WL_q (q_len Tryd.underlying45 rfl) (by decide) ?_
  refine WL_q (q_move rfl) (by decide) ?_
  refine WL_nil ?_
  refine thenN ?_
  refine WC_fr [(24, _), (23, _), (22, _), (8, _), (7, _), (6, _), (0, _), (1, _), (2, _)] (.cons rfl (.cons rfl (.cons rfl (.cons rfl (.cons rfl (.cons rfl (.cons rfl (.cons rfl (.cons rfl (.nil _)))))))))) ?_
  refine WC_block ?_
  refine WC_fact (A := slsF []) (fun Z w hs x hx => by cases hx) ?_
  refine WC_loopE (α := Nat × List (List Rg × Option Addr × Nat)) (fun (k, ys) => H.ops.length - k)
    (fun (k, ys) => [(0, .pointer (some ⟨h, 0, none⟩)), (1, .int .i64 at_), (2, .int .i64 n), (8, .slice (some ⟨bo, 0, none⟩) H.ops.length H.ops.length), (22, .slice A H.ops.length cap), (23, .int .i64 H.ops.length), (24, .int .i64 k)])
    (fun (k, ys) => ([(bo, cellsO (ys.map slC ++ List.replicate (H.ops.length - k) (Value.slice none 0 0)) 29)] :: hdP h A H.ops.length cap m H.total :: mpP m L :: mkP L :: Ps))
    (fun (k, ys) => (slsF ys :: RdF opD A cap H.ops :: AllF L nowF :: As))
    (fun (k, ys) => MvI H.ents at_ n k ys)
    (0, []) ?_ (.cons rfl (.cons rfl (.cons rfl (.cons rfl (.cons rfl (.cons rfl (.cons rfl (.nil _)))))))) (List.Sublist.cons_cons _ (List.Sublist.cons_cons _ (List.Sublist.cons_cons _ (List.Sublist.cons_cons _ (List.Sublist.refl _))))) (fun _ h => h) ?_
  · exact ⟨Nat.zero_le _, rfl, by cases hq : movedAll H.ents at_ n <;> simp [hq]⟩
  · rintro ⟨k, ys⟩ hI
    refine WC_seq ?_
    refine WC_region ?_
    refine WL_q (q_lss rfl rfl) (by decide) ?_
    refine WL_nil ?_
    refine thenN ?_
    refine WC_seq ?_
    refine WC_cond rfl (fun h25 => ?_) (fun h25 => ?_)
    · refine WC_skip ?_
      refine thenN ?_
      refine WC_seq ?_
      refine WC_block ?_
      refine WC_seq ?_
      try simp only [decide_eq_true_eq, decide_eq_false_iff_not, beq_iff_eq, bne_iff_ne, beq_eq_false_iff_ne, ne_eq, Bool.and_eq_true, Bool.not_eq_true', Bool.not_eq_false', Bool.not_eq_true, Bool.not_eq_false, bne_eq_false_iff_eq, Bool.and_eq_false_iff] at *
      have hke : k < H.ents.length := by omega
      have hk : k < H.ops.length := by omega
      have hop := ops_at hke
      refine WC_elem (k := k) (.tail _ (.head _)) (List.getElem?_eq_getElem hk) (op_open _) fun b4 q4 y4 e4 => ?_
      cases e4
      refine WC_region ?_
      refine WL_q (q_move rfl) (by decide) ?_
      refine WL_q (q_idxRd Tryd.underlying45 ti31 rfl rfl (by omega) (by omega)) (by decide) ?_
      refine WL_q (q_loadFN (k := 0) (vs := [_, _, _, _, _, _, _, _, _]) Tryd.underlying31 rfl ti31 rfl (.head _) rfl rfl rfl) (by decide) ?_
      refine WL_main rfl (OW_alloc (cs := [_, _, _, _, _, _, _, _, _]) ti31 rfl (by decide) fun b10 => ?_)
      refine WL_q (q_assign rfl) (by decide) ?_
      refine WL_main rfl (OW_storeN (cs' := [_, _, _, _, _, _, _, _, _]) (vs := [_, _, _, _, _, _, _, _, _]) ti31 rfl rfl rfl rfl rfl (Nat.le_of_ble_eq_true rfl) (.z) ?_)
      refine WL_nil ?_
      refine thenN ?_
      refine WC_seq ?_
      obtain ⟨jm, xm, hjm, hxm, hgm⟩ := hr.look hke
      obtain ⟨xk, xb, xA, xc⟩ := xm
      obtain rfl : xk = markAt k H.ents[k] := hxm
      rw [← hop] at hgm
      refine WC_all _ (.tail _ (.tail _ (.tail _ (.tail _ (.head _))))) (List.mem_of_getElem? hjm) ?_
      refine WC_draw _ _ [] [(0, 0), (1, 0), (2, 0), (3, 0), (4, 0), (5, 0), (6, 0), (7, 0), (8, 0), (9, 0), (10, 0), (11, 0), (12, 0), (13, 2), (14, 0), (15, 0), (16, 0), (17, 0), (18, 0)] mixed (fun _ _ _ _ h => h) (List.Sublist.cons_cons _ (List.Sublist.cons_cons _ (List.Sublist.cons_cons _ (List.Sublist.cons_cons _ (List.Sublist.cons_cons _ (List.Sublist.refl _)))))) (fun _ h => h) (by kernel_rfl) (by decide) fun ws Z0 => ?_
      refine WE_q rfl (q_move rfl) (by decide) ?_
      refine WE_q rfl (q_nil rfl) (by decide) ?_
      refine WE_q rfl (q_field (o' := 1) Tryd.underlying97 rfl ti95 rfl rfl) (by decide) ?_
      refine WE_q rfl (q_load1 Tryd.underlying95 rfl rfl (ownS (ownS (own0))) rfl) (by decide) ?_
      refine WE_q rfl (q_field (o' := 0) Tryd.underlying31 rfl ti28 rfl rfl) (by decide) ?_
      refine WE_q rfl (q_field (o' := 0) Tryd.underlying28 rfl ti25 rfl rfl) (by decide) ?_
      refine WE_q rfl (q_loadN (vs := [_, _]) Tryd.underlying25 rfl ti25 rfl own0 rfl rfl) (by decide) ?_
      refine WE_q rfl (q_lookS keyT hgm Tryd.underlying95 ti99 rfl rfl (ownS (ownS (ownS (own0))))) (by decide) ?_
      refine WE_q rfl (q_nil rfl) (by decide) ?_
      refine WE_q rfl (q_field (o' := 1) Tryd.underlying101 rfl ti29 rfl rfl) (by decide) ?_
      refine WE_q rfl (q_load1 Tryd.underlying29 rfl rfl (ownS (ownS (ownS (ownS (ownI (mkP_mem hjm)))))) rfl) (by decide) ?_
      refine WE_q rfl (q_move rfl) (by decide) ?_
      refine WE_q rfl (q_move rfl) (by decide) ?_
      refine WE_main rfl rfl (OW_call0 (through_s xA xc H.ents[k].now at_ n (hr.now _ (List.getElem_mem hke))) (.cons rfl (.cons rfl (.cons rfl (.nil)))) (by decide) (memc (.tail _ (.head _)) mem0) fun u5_13 Lo fs hres => ?_)
      obtain ⟨A3, c3, rfl, rfl, rfl⟩ := hres
      refine ⟨⟨(List.Sublist.cons_cons _ (List.Sublist.cons_cons _ (List.Sublist.cons_cons _ (List.Sublist.cons_cons _ (List.Sublist.cons_cons _ (List.Sublist.refl _)))))), (.tail _ (.head _))⟩, ?_⟩
      refine WE_q rfl (q_move rfl) (by decide) ?_
      refine WE_q rfl (q_extract (vs := [_, _]) rfl rfl) (by decide) ?_
      refine WE_q rfl (q_extract (vs := [_, _]) rfl rfl) (by decide) ?_
      refine WE_q rfl (q_assign rfl) (by decide) ?_
      refine WE_q rfl (q_assign rfl) (by decide) ?_
      refine WE_end (WF_nil ?_)
      refine thenN ?_
      refine WC_seq ?_
      refine WC_seq ?_
      refine WC_region ?_
      refine WL_q (q_move rfl) (by decide) ?_
      refine WL_q (q_neq rfl rfl) (by decide) ?_
      refine WL_nil ?_
      refine thenN ?_
      refine WC_cond rfl (fun h47 => ?_) (fun h47 => ?_)
      · refine WC_seq ?_
        refine WC_region ?_
        refine WL_q (q_move rfl) (by decide) ?_
        refine WL_q (q_assign rfl) (by decide) ?_
        refine WL_q (q_assign rfl) (by decide) ?_
        refine WL_nil ?_
        refine thenN ?_
        refine WC_ret ?_
        refine thenRet ?_
        refine blockRet ?_
        refine thenRet ?_
        refine thenRet ?_
        refine blockRet ?_
        refine thenRet ?_
        refine ⟨_, [_, _, _], [], fun Z w hs => .tmp rfl (.tmp rfl (.nil)), ?_, fun Z w hs => hs.out (List.Sublist.cons _ (List.Sublist.cons _ (List.Sublist.cons_cons _ (List.Sublist.cons_cons _ (List.Sublist.cons_cons _ (List.Sublist.refl _)))))) (fun _ h => .tail _ (.tail _ (.tail _ (.tail _ (.tail _ (.tail _ h))))))⟩
        try simp only [decide_eq_true_eq, decide_eq_false_iff_not, beq_iff_eq, bne_iff_ne, beq_eq_false_iff_ne, ne_eq, Bool.and_eq_true, Bool.not_eq_true', Bool.not_eq_false', Bool.not_eq_true, Bool.not_eq_false, bne_eq_false_iff_eq, Bool.and_eq_false_iff] at *
        refine ⟨rfl, ?_⟩
        rw [hI.err hke (by omega)]
        exact ⟨rfl, rfl⟩
      · refine WC_skip ?_
        refine thenN ?_
        try simp only [decide_eq_true_eq, decide_eq_false_iff_not, beq_iff_eq, bne_iff_ne, beq_eq_false_iff_ne, ne_eq, Bool.and_eq_true, Bool.not_eq_true', Bool.not_eq_false', Bool.not_eq_true, Bool.not_eq_false, bne_eq_false_iff_eq, Bool.and_eq_false_iff] at *
        have hrep : List.replicate (H.ops.length - k) (Value.slice none 0 0) = .slice none 0 0 :: List.replicate (H.ops.length - (k + 1)) (Value.slice none 0 0) := by rw [show H.ops.length - k = (H.ops.length - (k + 1)) + 1 from by omega, List.replicate_succ]
        have hyl := hI.len
        refine WC_region ?_
        refine WL_q (q_move rfl) (by decide) ?_
        refine WL_q (q_move rfl) (by decide) ?_
        refine WL_q (q_move rfl) (by decide) ?_
        refine WL_q (q_idxOwn Tryd.underlying102 ti29 rfl rfl (by omega) (by omega)) (by decide) ?_
        refine WL_main rfl (OW_storeC ti29 rfl rfl rfl (by rw [List.length_append, List.length_map, List.length_replicate]; omega) (.s (.z)) ?_)
        refine WL_nil ?_
        refine blockN ?_
        refine thenN ?_
        have hcell : (ys.map slC ++ List.replicate (H.ops.length - k) (Value.slice none 0 0)).set ((k : Int).toNat * 1) (.slice A3 (thrF (H.ents[k].now) at_ n).1.length c3) = (ys ++ [((thrF H.ents[k].now at_ n).1, A3, c3)]).map slC ++ List.replicate (H.ops.length - (k + 1)) (Value.slice none 0 0) := by
          have hk0 : (k : Int).toNat * 1 = (ys.map slC).length := by rw [List.length_map]; omega
          rw [hk0, List.set_append_right _ _ (Nat.le_refl _), Nat.sub_self, hrep]; simp [slC]
        refine WC_fact (A := slsF (ys ++ [((thrF H.ents[k].now at_ n).1, A3, c3)])) (fun Z w hs x hx => ?_) ?_
        · rcases List.mem_append.1 hx with hx | hx
          · exact hs.facts _ (.tail _ (.tail _ (.tail _ (.tail _ (.tail _ (.head _)))))) x hx
          · obtain rfl := List.mem_singleton.1 hx; exact hs.facts _ (.head _)
        rw [hcell]
        refine WC_region ?_
        refine WL_q (q_add rfl rfl (wr64 (by omega))) (by decide) ?_
        refine WL_q (q_move rfl) (by decide) ?_
        refine WL_nil ?_
        refine thenK ?_
        refine ⟨(k + 1, ys ++ [((thrF H.ents[k].now at_ n).1, A3, c3)]), ?_, (.cons rfl (.cons rfl (.cons rfl (.cons rfl (.cons rfl (.cons rfl (.cons rfl (.nil _)))))))), (List.Sublist.cons _ (List.Sublist.cons_cons _ (List.Sublist.cons_cons _ (List.Sublist.cons_cons _ (List.Sublist.cons_cons _ (List.Sublist.refl _)))))), (memc (.head _) (fun _ h => .tail _ (.tail _ (.tail _ (.tail _ (.tail _ (.tail _ (.tail _ h))))))))⟩
        exact ⟨by show H.ops.length - (k + 1) < H.ops.length - k; omega, hI.next hke (by omega) A3 c3⟩
    · refine WC_exit ?_
      refine thenExit ?_
      refine thenExit ?_
      refine blockHit ?_
      refine thenN ?_
      refine WC_seq ?_
      try simp only [decide_eq_true_eq, decide_eq_false_iff_not, beq_iff_eq, bne_iff_ne, beq_eq_false_iff_ne, ne_eq, Bool.and_eq_true, Bool.not_eq_true', Bool.not_eq_false', Bool.not_eq_true, Bool.not_eq_false, bne_eq_false_iff_eq, Bool.and_eq_false_iff] at *
      have hyl := hI.len
      have hle := hI.le
      have hdone := hI.done (by omega)
      refine WC_fact (A := RepsF rsl (ys.map Prod.fst) (ys.map fun x => [slC x])) (fun Z w hs => sls_reps (hs.facts _ (.head _))) ?_
      have hrow : Row 29 rsl.sz (.slice (some ⟨bo, 0, none⟩) H.ops.length H.ops.length) H.ops.length (ys.map fun x => [slC x]).flatten [(bo, cellsO (ys.map slC ++ List.replicate (H.ops.length - k) (Value.slice none 0 0)) 29)] := by
        rw [sls_flat]
        exact ⟨by rw [List.length_map]; show _ = _ * 1; omega, .inr ⟨bo, _, _, rfl, rfl, by rw [List.length_append, List.length_map, List.length_replicate]; show _ = _ * 1; omega, Nat.le_refl _, by unfold maxLen; omega⟩⟩
      refine WC_freeze (e := rsl) (css := ys.map fun x => [slC x]) (xs := ys.map Prod.fst) hrow (.z) (by rw [List.length_map]; omega) (.head _) fun Ao co eo => ?_
      obtain ⟨rfl, _, rfl⟩ := Value.slice.inj eo
      refine WC_region ?_
      refine WL_q (q_move rfl) (by decide) ?_
      refine WL_q (q_assign rfl) (by decide) ?_
      refine WL_q (q_assign rfl) (by decide) ?_
      refine WL_nil ?_
      refine thenN ?_
      refine WC_ret ?_
      refine ⟨_, [_, _, _], [_], fun Z w hs => .tmp rfl (.tmp rfl (.nil)), ?_, fun Z w hs => hs.out (List.Sublist.cons_cons _ (List.Sublist.cons_cons _ (List.Sublist.cons_cons _ (List.Sublist.refl _)))) (memc (.head _) (fun _ h => .tail _ (.tail _ (.tail _ h))))⟩
      refine ⟨rfl, ?_⟩
      rw [hdone]
      exact ⟨_, _, by rw [List.length_map, hyl, show k = H.ops.length from by omega]; rfl, rfl⟩

end Go.Proofs.YtggdddkbhigjoaaDoor
