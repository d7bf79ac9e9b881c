/- Walks: xform, single operations. -/
import Derived.Test.YtggdddkbhigjoaaDoorWh
import Derived.Test.YtggdddkbhigjoaaDoorXf
set_option linter.unusedVariables false
set_option linter.unusedSimpArgs false
namespace Go.Proofs.YtggdddkbhigjoaaDoor
open Go Go.GW

set_option maxRecDepth 10000 in
theorem own_s (o : GOp) (A : Option Addr) (c : Nat) (hf : Fit o) : Sp Tryd.prog 69 [opV o A c] [] [barF, RdF rgD A c o.rs] (Is (.int .i64 (ownF o))) := by
  refine Sp.of (n := 23) ⟨_, Tryd.func69, rfl, rfl, rfl, rfl⟩ (Nat.le_of_ble_eq_true rfl) fun Ps As => ?_
  refine WC_seq ?_
  refine WC_region ?_
  refine WL_main rfl (OW_box (cs := [_, _, _, _, _, _, _, _, _]) rfl rfl (by decide) fun b1 => ?_)
  refine WL_q (q_assign rfl) (by decide) ?_
  refine WL_nil ?_
  refine thenN ?_
  refine WC_seq ?_
  refine WC_seq ?_
  refine WC_region ?_
  refine WL_q (q_field (o' := 0) Tryd.underlying31 rfl ti28 rfl rfl) (by decide) ?_
  refine WL_q (q_field (o' := 2) Tryd.underlying28 rfl ti26 rfl rfl) (by decide) ?_
  refine WL_q (q_load1 Tryd.underlying26 rfl rfl own0 rfl) (by decide) ?_
  refine WL_q (q_eql rfl rfl) (by decide) ?_
  refine WL_q (q_move rfl) (by decide) ?_
  refine WL_guard (t := 7) rfl (fun g7 => ?_) (fun g7 => ?_)
  · refine WL_gq rfl rfl rfl g7 (q_field (o' := 3) Tryd.underlying31 rfl ti3 rfl rfl) (by decide) ?_
    refine WL_gq rfl rfl rfl g7 (q_load1 Tryd.underlying3 rfl rfl own0 rfl) (by decide) ?_
    refine WL_gq rfl rfl rfl g7 (q_geq rfl rfl) (by decide) ?_
    refine WL_q (q_pickT rfl g7 rfl) (by decide) ?_
    refine WL_q (q_move rfl) (by decide) ?_
    refine WL_guard (t := 12) rfl (fun g12 => ?_) (fun g12 => ?_)
    · refine WL_gq rfl rfl rfl g12 (q_field (o' := 3) Tryd.underlying31 rfl ti3 rfl rfl) (by decide) ?_
      refine WL_gq rfl rfl rfl g12 (q_load1 Tryd.underlying3 rfl rfl own0 rfl) (by decide) ?_
      refine WL_gq rfl rfl rfl g12 (q_leq rfl rfl) (by decide) ?_
      refine WL_q (q_pickT rfl g12 rfl) (by decide) ?_
      refine WL_nil ?_
      refine thenN ?_
      refine WC_fr [(16, _), (2, _), (1, _)] (.cons rfl (.cons rfl (.cons rfl (.nil _)))) ?_
      refine WC_cond rfl (fun h16 => ?_) (fun h16 => ?_)
      · refine WC_seq ?_
        refine WC_region ?_
        refine WL_q (q_loadN (vs := [_, _, _, _, _, _, _, _, _]) Tryd.underlying31 rfl ti31 rfl own0 rfl rfl) (by decide) ?_
        refine WL_q (q_field (o' := 3) Tryd.underlying31 rfl ti3 rfl rfl) (by decide) ?_
        refine WL_q (q_load1 Tryd.underlying3 rfl rfl own0 rfl) (by decide) ?_
        refine WL_main rfl (OW_call0 (opCheck_s o A c o.at_ (by have := hf.text; omega) hf.rs) (.cons rfl (.cons rfl (.nil))) (by decide) (memc (.head _) (memc (.tail _ (.head _)) mem0)) fun u2_3 Lo fs hres => ?_)
        obtain ⟨rfl, rfl, rfl⟩ := hres
        refine WL_q (q_assign rfl) (by decide) ?_
        refine WL_nil ?_
        refine thenN ?_
        refine WC_ret ?_
        refine thenRet ?_
        refine ⟨_, [], [], fun Z w hs => .tmp rfl (.nil), ?_, fun Z w hs => hs.out (List.Sublist.cons _ (List.Sublist.refl _)) (fun _ h => h)⟩
        try simp only [decide_eq_true_eq, decide_eq_false_iff_not, beq_iff_eq, bne_iff_ne, beq_eq_false_iff_ne, ne_eq, Bool.and_eq_true, Bool.not_eq_true', Bool.not_eq_false', Bool.not_eq_true, Bool.not_eq_false, bne_eq_false_iff_eq, Bool.and_eq_false_iff] at *
        exact ⟨congrArg (Value.int .i64) (by unfold ownF; first | (simp_all; done) | (simp_all; intros; omega) | (simp_all; repeat' split; all_goals omega) | (repeat' split; all_goals first | rfl | omega)), rfl, rfl⟩
      · refine WC_skip ?_
        refine thenN ?_
        refine WC_seq ?_
        refine WC_region ?_
        refine WL_q (q_loadN (vs := [_, _, _, _, _, _, _, _, _]) Tryd.underlying31 rfl ti31 rfl own0 rfl rfl) (by decide) ?_
        refine WL_main rfl (OW_call0 (opCheck_s o A c 1048576 (by have := hf.text; omega) hf.rs) (.cons rfl (.cons rfl (.nil))) (by decide) (memc (.head _) (memc (.tail _ (.head _)) mem0)) fun u3_1 Lo fs hres => ?_)
        obtain ⟨rfl, rfl, rfl⟩ := hres
        refine WL_q (q_assign rfl) (by decide) ?_
        refine WL_nil ?_
        refine thenN ?_
        refine WC_ret ?_
        refine ⟨_, [], [], fun Z w hs => .tmp rfl (.nil), ?_, fun Z w hs => hs.out (List.Sublist.cons _ (List.Sublist.refl _)) (fun _ h => h)⟩
        try simp only [decide_eq_true_eq, decide_eq_false_iff_not, beq_iff_eq, bne_iff_ne, beq_eq_false_iff_ne, ne_eq, Bool.and_eq_true, Bool.not_eq_true', Bool.not_eq_false', Bool.not_eq_true, Bool.not_eq_false, bne_eq_false_iff_eq, Bool.and_eq_false_iff] at *
        exact ⟨congrArg (Value.int .i64) (by unfold ownF; first | (simp_all; done) | (simp_all; intros; omega) | (simp_all; repeat' split; all_goals omega) | (repeat' split; all_goals first | rfl | omega)), rfl, rfl⟩
    · refine WL_gno rfl rfl rfl g12 (by decide) ?_
      refine WL_gno rfl rfl rfl g12 (by decide) ?_
      refine WL_gno rfl rfl rfl g12 (by decide) ?_
      refine WL_q (q_pickF rfl g12 rfl) (by decide) ?_
      refine WL_nil ?_
      refine thenN ?_
      refine WC_fr [(16, _), (2, _), (1, _)] (.cons rfl (.cons rfl (.cons rfl (.nil _)))) ?_
      refine WC_false rfl rfl ?_
      refine WC_skip ?_
      refine thenN ?_
      refine WC_seq ?_
      refine WC_region ?_
      refine WL_q (q_loadN (vs := [_, _, _, _, _, _, _, _, _]) Tryd.underlying31 rfl ti31 rfl own0 rfl rfl) (by decide) ?_
      refine WL_main rfl (OW_call0 (opCheck_s o A c 1048576 (by have := hf.text; omega) hf.rs) (.cons rfl (.cons rfl (.nil))) (by decide) (memc (.head _) (memc (.tail _ (.head _)) mem0)) fun u3_1 Lo fs hres => ?_)
      obtain ⟨rfl, rfl, rfl⟩ := hres
      refine WL_q (q_assign rfl) (by decide) ?_
      refine WL_nil ?_
      refine thenN ?_
      refine WC_ret ?_
      refine ⟨_, [], [], fun Z w hs => .tmp rfl (.nil), ?_, fun Z w hs => hs.out (List.Sublist.cons _ (List.Sublist.refl _)) (fun _ h => h)⟩
      try simp only [decide_eq_true_eq, decide_eq_false_iff_not, beq_iff_eq, bne_iff_ne, beq_eq_false_iff_ne, ne_eq, Bool.and_eq_true, Bool.not_eq_true', Bool.not_eq_false', Bool.not_eq_true, Bool.not_eq_false, bne_eq_false_iff_eq, Bool.and_eq_false_iff] at *
      exact ⟨congrArg (Value.int .i64) (by unfold ownF; first | (simp_all; done) | (simp_all; intros; omega) | (simp_all; repeat' split; all_goals omega) | (repeat' split; all_goals first | rfl | omega)), rfl, rfl⟩
  · refine WL_gno rfl rfl rfl g7 (by decide) ?_
    refine WL_gno rfl rfl rfl g7 (by decide) ?_
    refine WL_gno rfl rfl rfl g7 (by decide) ?_
    refine WL_q (q_pickF rfl g7 rfl) (by decide) ?_
    refine WL_q (q_move rfl) (by decide) ?_
    refine WL_gno rfl rfl rfl rfl (by decide) ?_
    refine WL_gno rfl rfl rfl rfl (by decide) ?_
    refine WL_gno rfl rfl rfl rfl (by decide) ?_
    refine WL_q (q_pickF rfl rfl rfl) (by decide) ?_
    refine WL_nil ?_
    refine thenN ?_
    refine WC_fr [(16, _), (2, _), (1, _)] (.cons rfl (.cons rfl (.cons rfl (.nil _)))) ?_
    refine WC_false rfl rfl ?_
    refine WC_skip ?_
    refine thenN ?_
    refine WC_seq ?_
    refine WC_region ?_
    refine WL_q (q_loadN (vs := [_, _, _, _, _, _, _, _, _]) Tryd.underlying31 rfl ti31 rfl own0 rfl rfl) (by decide) ?_
    refine WL_main rfl (OW_call0 (opCheck_s o A c 1048576 (by have := hf.text; omega) hf.rs) (.cons rfl (.cons rfl (.nil))) (by decide) (memc (.head _) (memc (.tail _ (.head _)) mem0)) fun u3_1 Lo fs hres => ?_)
    obtain ⟨rfl, rfl, rfl⟩ := hres
    refine WL_q (q_assign rfl) (by decide) ?_
    refine WL_nil ?_
    refine thenN ?_
    refine WC_ret ?_
    refine ⟨_, [], [], fun Z w hs => .tmp rfl (.nil), ?_, fun Z w hs => hs.out (List.Sublist.cons _ (List.Sublist.refl _)) (fun _ h => h)⟩
    try simp only [decide_eq_true_eq, decide_eq_false_iff_not, beq_iff_eq, bne_iff_ne, beq_eq_false_iff_ne, ne_eq, Bool.and_eq_true, Bool.not_eq_true', Bool.not_eq_false', Bool.not_eq_true, Bool.not_eq_false, bne_eq_false_iff_eq, Bool.and_eq_false_iff] at *
    exact ⟨congrArg (Value.int .i64) (by unfold ownF; first | (simp_all; done) | (simp_all; intros; omega) | (simp_all; repeat' split; all_goals omega) | (repeat' split; all_goals first | rfl | omega)), rfl, rfl⟩

structure OwI (xs : List GOp) (k : Nat) : Prop where
  le : k ≤ xs.length
  eq : ownsF xs = ownsF (xs.drop k)
theorem OwI.next {xs : List GOp} {k : Nat} (h : OwI xs k) (hk : k < xs.length) (h0 : ownF xs[k] = 0) : OwI xs (k + 1) := by
  refine ⟨hk, ?_⟩
  rw [h.eq, List.drop_eq_getElem_cons hk, ownsF, if_neg (by simpa using h0)]
theorem OwI.bad {xs : List GOp} {k : Nat} (h : OwI xs k) (hk : k < xs.length) (h0 : ownF xs[k] ≠ 0) : ownsF xs = ownF xs[k] := by
  rw [h.eq, List.drop_eq_getElem_cons hk, ownsF, if_pos h0]
theorem OwI.done {xs : List GOp} {k : Nat} (h : OwI xs k) (hk : ¬ k < xs.length) : ownsF xs = 0 := by
  rw [h.eq, List.drop_eq_nil_of_le (by omega)]; rfl

set_option maxRecDepth 10000 in
theorem owns_s (A : Option Addr) (c : Nat) (xs : List GOp) (hf : ∀ o ∈ xs, Fit o) (hl : xs.length ≤ 4398046511104) : Sp Tryd.prog 46 [.slice A xs.length c] [] [barF, RdF opD A c xs] (Is (.int .i64 (ownsF xs))) := by
  refine Sp.of (n := 18) ⟨_, Tryd.func46, rfl, rfl, rfl, rfl⟩ (Nat.le_of_ble_eq_true rfl) fun Ps As => ?_
  refine WC_seq ?_
  refine WC_region ?_
  refine WL_q (q_assign rfl) (by decide) ?_
  refine WL_nil ?_
  refine thenN ?_
  refine WC_seq ?_
  refine WC_seq ?_
  refine WC_region ?_
  refine WL_q (q_move rfl) (by decide) ?_
  refine WL_q (q_len Tryd.underlying45 rfl) (by decide) ?_
  refine WL_q (q_move rfl) (by decide) ?_
  refine WL_nil ?_
  refine thenN ?_
  refine WC_block ?_
  refine WC_loopE (α := Nat) (fun k => xs.length - k)
    (fun k => [(6, .slice A xs.length c), (7, .int .i64 xs.length), (8, .int .i64 k)])
    (fun k => Ps)
    (fun k => (barF :: RdF opD A c xs :: As))
    (fun k => OwI xs k)
    0 ?_ (.cons rfl (.cons rfl (.cons rfl (.nil _)))) (List.Sublist.refl _) (fun _ h => h) ?_
  · exact ⟨Nat.zero_le _, rfl⟩
  · rintro k hI
    refine WC_seq ?_
    refine WC_region ?_
    refine WL_q (q_lss rfl rfl) (by decide) ?_
    refine WL_nil ?_
    refine thenN ?_
    refine WC_seq ?_
    refine WC_cond rfl (fun h9 => ?_) (fun h9 => ?_)
    · refine WC_skip ?_
      refine thenN ?_
      refine WC_seq ?_
      refine WC_block ?_
      refine WC_seq ?_
      have hk : k < xs.length := by simpa using h9
      refine WC_elem (k := k) (.tail _ (.head _)) (List.getElem?_eq_getElem hk) (op_open _) fun b3 q3 y3 e3 => ?_
      cases e3
      refine WC_region ?_
      refine WL_q (q_idxRd Tryd.underlying45 ti31 rfl rfl (by omega) (by omega)) (by decide) ?_
      refine WL_q (q_loadFN (k := 0) (vs := [_, _, _, _, _, _, _, _, _]) Tryd.underlying31 rfl ti31 rfl (.head _) rfl rfl rfl) (by decide) ?_
      refine WL_main rfl (OW_alloc (cs := [_, _, _, _, _, _, _, _, _]) ti31 rfl (by decide) fun b4 => ?_)
      refine WL_main rfl (OW_storeN (cs' := [_, _, _, _, _, _, _, _, _]) (vs := [_, _, _, _, _, _, _, _, _]) ti31 rfl rfl rfl rfl rfl (Nat.le_of_ble_eq_true rfl) (.z) ?_)
      refine WL_nil ?_
      refine thenN ?_
      refine WC_seq ?_
      refine WC_region ?_
      refine WL_q (q_loadN (vs := [_, _, _, _, _, _, _, _, _]) Tryd.underlying31 rfl ti31 rfl own0 rfl rfl) (by decide) ?_
      refine WL_main rfl (OW_call0 (own_s xs[k] y3.1 y3.2 (hf _ (List.getElem_mem hk))) (.cons rfl (.nil)) (by decide) (memc (.tail _ (.tail _ (.head _))) (memc (.tail _ (.head _)) mem0)) fun u4_1 Lo fs hres => ?_)
      obtain ⟨rfl, rfl, rfl⟩ := hres
      refine WL_q (q_assign rfl) (by decide) ?_
      refine WL_nil ?_
      refine thenN ?_
      refine WC_seq ?_
      refine WC_region ?_
      refine WL_q (q_move rfl) (by decide) ?_
      refine WL_q (q_neq rfl rfl) (by decide) ?_
      refine WL_nil ?_
      refine thenN ?_
      refine WC_cond rfl (fun h15 => ?_) (fun h15 => ?_)
      · refine WC_seq ?_
        refine WC_region ?_
        refine WL_q (q_move rfl) (by decide) ?_
        refine WL_q (q_assign rfl) (by decide) ?_
        refine WL_nil ?_
        refine thenN ?_
        refine WC_ret ?_
        refine blockRet ?_
        refine thenRet ?_
        refine thenRet ?_
        refine blockRet ?_
        refine thenRet ?_
        refine ⟨_, [], [], fun Z w hs => .tmp rfl (.nil), ?_, fun Z w hs => hs.out (List.Sublist.cons _ (List.Sublist.refl _)) (fun _ h => .tail _ (.tail _ h))⟩
        try simp only [decide_eq_true_eq, decide_eq_false_iff_not, beq_iff_eq, bne_iff_ne, beq_eq_false_iff_ne, ne_eq, Bool.and_eq_true, Bool.not_eq_true', Bool.not_eq_false', Bool.not_eq_true, Bool.not_eq_false, bne_eq_false_iff_eq, Bool.and_eq_false_iff] at *
        first
          | exact ⟨by rw [hI.done (by omega)]; rfl, rfl, rfl⟩
          | exact ⟨by rw [hI.bad hk (by omega)]; rfl, rfl, rfl⟩
      · refine WC_skip ?_
        refine blockN ?_
        refine thenN ?_
        refine WC_region ?_
        refine WL_q (q_add rfl rfl (wr64 (by omega))) (by decide) ?_
        refine WL_q (q_move rfl) (by decide) ?_
        refine WL_nil ?_
        refine thenK ?_
        refine ⟨k + 1, ?_, (.cons rfl (.cons rfl (.cons rfl (.nil _)))), (List.Sublist.cons _ (List.Sublist.refl _)), (fun _ h => .tail _ (.tail _ h))⟩
        try simp only [decide_eq_true_eq, decide_eq_false_iff_not, beq_iff_eq, bne_iff_ne, beq_eq_false_iff_ne, ne_eq, Bool.and_eq_true, Bool.not_eq_true', Bool.not_eq_false', Bool.not_eq_true, Bool.not_eq_false, bne_eq_false_iff_eq, Bool.and_eq_false_iff] at *
        exact ⟨by omega, hI.next hk (by omega)⟩
    · refine WC_exit ?_
      refine thenExit ?_
      refine thenExit ?_
      refine blockHit ?_
      refine thenN ?_
      refine WC_seq ?_
      refine WC_region ?_
      refine WL_q (q_assign rfl) (by decide) ?_
      refine WL_nil ?_
      refine thenN ?_
      refine WC_ret ?_
      refine ⟨_, [], [], fun Z w hs => .tmp rfl (.nil), ?_, fun Z w hs => hs.out (List.Sublist.refl _) (fun _ h => h)⟩
      try simp only [decide_eq_true_eq, decide_eq_false_iff_not, beq_iff_eq, bne_iff_ne, beq_eq_false_iff_ne, ne_eq, Bool.and_eq_true, Bool.not_eq_true', Bool.not_eq_false', Bool.not_eq_true, Bool.not_eq_false, bne_eq_false_iff_eq, Bool.and_eq_false_iff] at *
      first
        | exact ⟨by rw [hI.done (by omega)]; rfl, rfl, rfl⟩
        | exact ⟨by rw [hI.bad hk (by omega)]; rfl, rfl, rfl⟩

theorem bd31Xw9  (w : World) : (Instr.build 31 #[]).run Tryd.prog w = .ok (.agg #[.int .i64 0, .int .i64 0, .int .i64 0, .int .i64 0, .string ⟨#[]⟩, .slice none 0 0, .int .i64 0, .int .i64 0, .bool false]) w := by kernel_rfl

set_option maxRecDepth 10000 in
theorem moved_s (a : GOp) (A : Option Addr) (c : Nat) (at_ : Int) (hs : a.text.size ≤ 2305843009213693952) (ha : -4611686018427387904 ≤ at_ ∧ at_ ≤ 4611686018427387904) : Sp Tryd.prog 71 [opV a A c, .int .i64 at_] [] [barF] (OpP (movedF a at_)) := by
  refine Sp.of (n := 16) ⟨_, Tryd.func71, rfl, rfl, rfl, rfl⟩ (Nat.le_of_ble_eq_true rfl) fun Ps As => ?_
  refine WC_seq ?_
  refine WC_region ?_
  refine WL_main rfl (OW_box (cs := [_, _, _, _, _, _, _, _, _]) rfl rfl (by decide) fun b2 => ?_)
  refine WL_main rfl (OW_alloc (cs := [_, _, _, _, _, _, _, _, _]) ti31 rfl (by decide) fun b4 => ?_)
  refine WL_q (q_assign rfl) (by decide) ?_
  refine WL_nil ?_
  refine thenN ?_
  refine WC_seq ?_
  refine WC_seq ?_
  refine WC_fact (A := RdF rgD none 0 []) (fun Z w hs => RdS.nil _ _ _) ?_
  have hw := widthF_le a
  refine WC_region ?_
  refine WL_q (q_move rfl) (by decide) ?_
  refine WL_q (q_loadN (vs := [_, _, _, _, _, _, _, _, _]) Tryd.underlying31 rfl ti31 rfl (ownS (own0)) rfl rfl) (by decide) ?_
  refine WL_main rfl (OW_call0 (width_s a A c (by omega)) (.cons rfl (.nil)) (by decide) (memc (.tail _ (.head _)) mem0) fun u1_2 Lo fs hres => ?_)
  obtain ⟨rfl, rfl, rfl⟩ := hres
  refine WL_q (q_add rfl rfl (wr64 (by omega))) (by decide) ?_
  refine WL_q (q_gtr rfl rfl) (by decide) ?_
  refine WL_nil ?_
  refine thenN ?_
  refine WC_cond rfl (fun h10 => ?_) (fun h10 => ?_)
  · refine WC_seq ?_
    refine WC_region ?_
    refine WL_q (q_build (.nil) (bd31Xw9)) (by decide) ?_
    refine WL_main rfl (OW_storeN (cs' := [_, _, _, _, _, _, _, _, _]) (vs := [_, _, _, _, _, _, _, _, _]) ti31 rfl rfl rfl rfl rfl (Nat.le_of_ble_eq_true rfl) (.z) ?_)
    refine WL_q (q_assign rfl) (by decide) ?_
    refine WL_nil ?_
    refine thenN ?_
    refine WC_ret ?_
    refine thenRet ?_
    refine ⟨_, [], [RdF rgD none 0 []], fun Z w hs => RV_ownN hs Tryd.underlying31 rfl ti31 rfl own0 rfl (.tmp rfl (.nil)), ?_, fun Z w hs => hs.out (List.Sublist.cons _ (List.Sublist.cons _ (List.Sublist.refl _))) (fun _ h => h)⟩
    try simp only [decide_eq_true_eq, decide_eq_false_iff_not, beq_iff_eq, bne_iff_ne, beq_eq_false_iff_ne, ne_eq, Bool.and_eq_true, Bool.not_eq_true', Bool.not_eq_false', Bool.not_eq_true, Bool.not_eq_false, bne_eq_false_iff_eq, Bool.and_eq_false_iff] at *
    exact ⟨none, 0, by unfold movedF; first | (rw [if_pos (by omega)]; rfl) | (rw [if_neg (by omega)]; rfl), rfl, by unfold movedF; first | (rw [if_pos (by omega)]; rfl) | (rw [if_neg (by omega)])⟩
  · refine WC_skip ?_
    refine thenN ?_
    refine WC_seq ?_
    refine WC_region ?_
    refine WL_q (q_move rfl) (by decide) ?_
    refine WL_q (q_field (o' := 3) Tryd.underlying31 rfl ti3 rfl rfl) (by decide) ?_
    refine WL_main rfl (OW_store1 ti3 rfl rfl rfl (.s (.s (.s (.z)))) (.s (.z)) ?_)
    refine WL_nil ?_
    refine thenN ?_
    refine WC_seq ?_
    refine WC_region ?_
    refine WL_q (q_field (o' := 5) Tryd.underlying31 rfl ti29 rfl rfl) (by decide) ?_
    refine WL_main rfl (OW_store1 ti29 rfl rfl rfl (.s (.s (.s (.s (.s (.z)))))) (.s (.z)) ?_)
    refine WL_nil ?_
    refine thenN ?_
    refine WC_seq ?_
    refine WC_region ?_
    refine WL_q (q_loadN (vs := [_, _, _, _, _, _, _, _, _]) Tryd.underlying31 rfl ti31 rfl (ownS (own0)) rfl rfl) (by decide) ?_
    refine WL_main rfl (OW_storeN (cs' := [_, _, _, _, _, _, _, _, _]) (vs := [_, _, _, _, _, _, _, _, _]) ti31 rfl rfl rfl rfl rfl (Nat.le_of_ble_eq_true rfl) (.z) ?_)
    refine WL_q (q_assign rfl) (by decide) ?_
    refine WL_nil ?_
    refine thenN ?_
    refine WC_fr [(5, _), (4, _)] (.cons rfl (.cons rfl (.nil _))) ?_
    refine WC_ret ?_
    refine ⟨_, [], [RdF rgD none 0 []], fun Z w hs => RV_ownN hs Tryd.underlying31 rfl ti31 rfl own0 rfl (.tmp rfl (.nil)), ?_, fun Z w hs => hs.out (List.Sublist.cons _ (List.Sublist.cons _ (List.Sublist.refl _))) (fun _ h => h)⟩
    try simp only [decide_eq_true_eq, decide_eq_false_iff_not, beq_iff_eq, bne_iff_ne, beq_eq_false_iff_ne, ne_eq, Bool.and_eq_true, Bool.not_eq_true', Bool.not_eq_false', Bool.not_eq_true, Bool.not_eq_false, bne_eq_false_iff_eq, Bool.and_eq_false_iff] at *
    exact ⟨none, 0, by unfold movedF; first | (rw [if_pos (by omega)]; rfl) | (rw [if_neg (by omega)]; rfl), rfl, by unfold movedF; first | (rw [if_pos (by omega)]; rfl) | (rw [if_neg (by omega)])⟩


set_option maxRecDepth 10000 in
theorem ranged_s (a : GOp) (A A2 : Option Addr) (c c2 : Nat) (l : List Rg) (e : Int) : Sp Tryd.prog 72 [opV a A c, .slice A2 l.length c2, .int .i64 e] [] [RdF rgD A2 c2 l] (OpP (rangedF a l e)) := by
  refine Sp.of (n := 15) ⟨_, Tryd.func72, rfl, rfl, rfl, rfl⟩ (Nat.le_of_ble_eq_true rfl) fun Ps As => ?_
  refine WC_seq ?_
  refine WC_region ?_
  refine WL_main rfl (OW_box (cs := [_, _, _, _, _, _, _, _, _]) rfl rfl (by decide) fun b3 => ?_)
  refine WL_main rfl (OW_alloc (cs := [_, _, _, _, _, _, _, _, _]) ti31 rfl (by decide) fun b6 => ?_)
  refine WL_q (q_assign rfl) (by decide) ?_
  refine WL_nil ?_
  refine thenN ?_
  refine WC_seq ?_
  refine WC_seq ?_
  refine WC_fact (A := RdF rgD none 0 []) (fun Z w hs => RdS.nil _ _ _) ?_
  refine WC_region ?_
  refine WL_q (q_move rfl) (by decide) ?_
  refine WL_q (q_neq rfl rfl) (by decide) ?_
  refine WL_nil ?_
  refine thenN ?_
  refine WC_cond rfl (fun h9 => ?_) (fun h9 => ?_)
  · refine WC_seq ?_
    refine WC_region ?_
    refine WL_q (q_build (.nil) (bd31Xw9)) (by decide) ?_
    refine WL_q (q_move rfl) (by decide) ?_
    refine WL_main rfl (OW_storeN (cs' := [_, _, _, _, _, _, _, _, _]) (vs := [_, _, _, _, _, _, _, _, _]) ti31 rfl rfl rfl rfl rfl (Nat.le_of_ble_eq_true rfl) (.z) ?_)
    refine WL_q (q_assign rfl) (by decide) ?_
    refine WL_nil ?_
    refine thenN ?_
    refine WC_ret ?_
    refine thenRet ?_
    refine ⟨_, [], [RdF rgD none 0 []], fun Z w hs => RV_ownN hs Tryd.underlying31 rfl ti31 rfl own0 rfl (.tmp rfl (.nil)), ?_, fun Z w hs => hs.out (List.Sublist.cons _ (List.Sublist.cons _ (List.Sublist.refl _))) (fun _ h => h)⟩
    try simp only [decide_eq_true_eq, decide_eq_false_iff_not, beq_iff_eq, bne_iff_ne, beq_eq_false_iff_ne, ne_eq, Bool.and_eq_true, Bool.not_eq_true', Bool.not_eq_false', Bool.not_eq_true, Bool.not_eq_false, bne_eq_false_iff_eq, Bool.and_eq_false_iff] at *
    exact ⟨none, 0, by unfold rangedF; rw [if_pos (by omega)]; rfl, rfl, by unfold rangedF; rw [if_pos (by omega)]; rfl⟩
  · refine WC_skip ?_
    refine thenN ?_
    refine WC_seq ?_
    refine WC_region ?_
    refine WL_q (q_move rfl) (by decide) ?_
    refine WL_q (q_field (o' := 5) Tryd.underlying31 rfl ti29 rfl rfl) (by decide) ?_
    refine WL_main rfl (OW_store1 ti29 rfl rfl rfl (.s (.s (.s (.s (.s (.z)))))) (.s (.z)) ?_)
    refine WL_nil ?_
    refine thenN ?_
    refine WC_seq ?_
    refine WC_region ?_
    refine WL_q (q_loadN (vs := [_, _, _, _, _, _, _, _, _]) Tryd.underlying31 rfl ti31 rfl (ownS (own0)) rfl rfl) (by decide) ?_
    refine WL_main rfl (OW_storeN (cs' := [_, _, _, _, _, _, _, _, _]) (vs := [_, _, _, _, _, _, _, _, _]) ti31 rfl rfl rfl rfl rfl (Nat.le_of_ble_eq_true rfl) (.z) ?_)
    refine WL_q (q_assign rfl) (by decide) ?_
    refine WL_nil ?_
    refine thenN ?_
    refine WC_ret ?_
    refine ⟨_, [], [RdF rgD A2 c2 l], fun Z w hs => RV_ownN hs Tryd.underlying31 rfl ti31 rfl own0 rfl (.tmp rfl (.nil)), ?_, fun Z w hs => hs.out (List.Sublist.cons _ (List.Sublist.cons _ (List.Sublist.refl _))) (memc (.tail _ (.head _)) (fun _ h => .tail _ h))⟩
    try simp only [decide_eq_true_eq, decide_eq_false_iff_not, beq_iff_eq, bne_iff_ne, beq_eq_false_iff_ne, ne_eq, Bool.and_eq_true, Bool.not_eq_true', Bool.not_eq_false', Bool.not_eq_true, Bool.not_eq_false, bne_eq_false_iff_eq, Bool.and_eq_false_iff] at *
    exact ⟨A2, c2, by unfold rangedF; rw [if_neg (by omega)]; rfl, rfl, by unfold rangedF; rw [if_neg (by omega)]⟩


set_option maxRecDepth 10000 in
theorem include_s (a b : GOp) (Aa Ab : Option Addr) (ca cb : Nat) (earlier : Bool) (ha : Fit a) (hb : Fit b) : Sp Tryd.prog 48 [opV a Aa ca, opV b Ab cb, .bool earlier] [] [barF, RdF rgD Aa ca a.rs] (OpP (includeF a b earlier)) := by
  refine Sp.of (n := 71) ⟨_, Tryd.func48, rfl, rfl, rfl, rfl⟩ (Nat.le_of_ble_eq_true rfl) fun Ps As => ?_
  refine WC_seq ?_
  refine WC_region ?_
  refine WL_main rfl (OW_box (cs := [_, _, _, _, _, _, _, _, _]) rfl rfl (by decide) fun b3 => ?_)
  refine WL_main rfl (OW_box (cs := [_, _, _, _, _, _, _, _, _]) rfl rfl (by decide) fun b4 => ?_)
  refine WL_main rfl (OW_alloc (cs := [_, _, _, _, _, _, _, _, _]) ti31 rfl (by decide) fun b6 => ?_)
  refine WL_q (q_assign rfl) (by decide) ?_
  refine WL_nil ?_
  refine thenN ?_
  refine WC_seq ?_
  refine WC_seq ?_
  refine WC_fact (A := RdF rgD none 0 []) (fun Z w hs => RdS.nil _ _ _) ?_
  refine WC_region ?_
  refine WL_q (q_loadN (vs := [_, _, _, _, _, _, _, _, _]) Tryd.underlying31 rfl ti31 rfl (ownS (ownS (own0))) rfl rfl) (by decide) ?_
  refine WL_q (q_loadN (vs := [_, _, _, _, _, _, _, _, _]) Tryd.underlying31 rfl ti31 rfl (ownS (own0)) rfl rfl) (by decide) ?_
  refine WL_main rfl (OW_call0 (clash_s a b Aa Ab ca cb) (.cons rfl (.cons rfl (.nil))) (by decide) mem0 fun u1_2 Lo fs hres => ?_)
  obtain ⟨rfl, rfl, rfl⟩ := hres
  refine WL_nil ?_
  refine thenN ?_
  refine WC_cond rfl (fun h13 => ?_) (fun h13 => ?_)
  · refine WC_seq ?_
    refine WC_region ?_
    refine WL_q (q_build (.nil) (bd31Xw9)) (by decide) ?_
    refine WL_main rfl (OW_storeN (cs' := [_, _, _, _, _, _, _, _, _]) (vs := [_, _, _, _, _, _, _, _, _]) ti31 rfl rfl rfl rfl rfl (Nat.le_of_ble_eq_true rfl) (.z) ?_)
    refine WL_q (q_assign rfl) (by decide) ?_
    refine WL_nil ?_
    refine thenN ?_
    refine WC_ret ?_
    refine thenRet ?_
    refine ⟨_, [], [RdF rgD none 0 []], fun Z w hs => RV_ownN hs Tryd.underlying31 rfl ti31 rfl own0 rfl (.tmp rfl (.nil)), ?_, fun Z w hs => hs.out (List.Sublist.cons _ (List.Sublist.cons _ (List.Sublist.cons _ (List.Sublist.refl _)))) (fun _ h => h)⟩
    try simp only [decide_eq_true_eq, decide_eq_false_iff_not, beq_iff_eq, bne_iff_ne, beq_eq_false_iff_ne, ne_eq, Bool.and_eq_true, Bool.not_eq_true', Bool.not_eq_false', Bool.not_eq_true, Bool.not_eq_false, bne_eq_false_iff_eq, Bool.and_eq_false_iff] at *
    have hF : includeF a b earlier = (zeroOp, 50) := by
      unfold includeF clashF
      first | exact if_pos ‹_› | (simp_all; done) | (simp_all; omega) | (repeat' split; all_goals first | rfl | omega | (simp_all; done) | (simp_all; omega))
    exact ⟨none, 0, by rw [hF]; rfl, rfl, by first | (rw [hF]; done) | (rw [hF]; rfl)⟩
  · refine WC_skip ?_
    refine thenN ?_
    refine WC_seq ?_
    refine WC_seq ?_
    refine WC_region ?_
    refine WL_q (q_field (o' := 0) Tryd.underlying31 rfl ti28 rfl rfl) (by decide) ?_
    refine WL_q (q_field (o' := 2) Tryd.underlying28 rfl ti26 rfl rfl) (by decide) ?_
    refine WL_q (q_load1 Tryd.underlying26 rfl rfl (ownS (own0)) rfl) (by decide) ?_
    refine WL_q (q_neq rfl rfl) (by decide) ?_
    refine WL_nil ?_
    refine thenN ?_
    refine WC_fr [(18, _), (7, _), (6, _), (4, _), (3, _), (2, _)] (.cons rfl (.cons rfl (.cons rfl (.cons rfl (.cons rfl (.cons rfl (.nil _))))))) ?_
    refine WC_cond rfl (fun h18 => ?_) (fun h18 => ?_)
    · refine WC_seq ?_
      refine WC_region ?_
      refine WL_q (q_loadN (vs := [_, _, _, _, _, _, _, _, _]) Tryd.underlying31 rfl ti31 rfl (ownS (ownS (own0))) rfl rfl) (by decide) ?_
      refine WL_main rfl (OW_call0 (clone_s a Aa ca ha.rs) (.cons rfl (.nil)) (by decide) (memc (.tail _ (.tail _ (.head _))) mem0) fun u4_1 Lo fs hres => ?_)
      obtain ⟨A1, c1, rfl, rfl, rfl⟩ := hres
      refine WL_main rfl (OW_storeN (cs' := [_, _, _, _, _, _, _, _, _]) (vs := [_, _, _, _, _, _, _, _, _]) ti31 rfl rfl rfl rfl rfl (Nat.le_of_ble_eq_true rfl) (.z) ?_)
      refine WL_q (q_assign rfl) (by decide) ?_
      refine WL_nil ?_
      refine thenN ?_
      refine WC_ret ?_
      refine thenRet ?_
      refine ⟨_, [], [RdF rgD A1 c1 a.rs], fun Z w hs => RV_ownN hs Tryd.underlying31 rfl ti31 rfl own0 rfl (.tmp rfl (.nil)), ?_, fun Z w hs => hs.out (List.Sublist.cons _ (List.Sublist.cons _ (List.Sublist.cons _ (List.Sublist.refl _)))) (memc (.head _) (fun _ h => .tail _ (.tail _ h)))⟩
      try simp only [decide_eq_true_eq, decide_eq_false_iff_not, beq_iff_eq, bne_iff_ne, beq_eq_false_iff_ne, ne_eq, Bool.and_eq_true, Bool.not_eq_true', Bool.not_eq_false', Bool.not_eq_true, Bool.not_eq_false, bne_eq_false_iff_eq, Bool.and_eq_false_iff] at *
      have hF : includeF a b earlier = (a, 0) := by
        unfold includeF clashF
        first | exact if_pos ‹_› | (simp_all; done) | (simp_all; omega) | (repeat' split; all_goals first | rfl | omega | (simp_all; done) | (simp_all; omega))
      exact ⟨A1, c1, by rw [hF]; rfl, rfl, by first | (rw [hF]; done) | (rw [hF]; rfl)⟩
    · refine WC_skip ?_
      refine thenN ?_
      refine WC_seq ?_
      refine WC_region ?_
      refine WL_q (q_loadN (vs := [_, _, _, _, _, _, _, _, _]) Tryd.underlying31 rfl ti31 rfl (ownS (own0)) rfl rfl) (by decide) ?_
      refine WL_main rfl (OW_call0 (width_s b Ab cb (by have := hb.text; omega)) (.cons rfl (.nil)) (by decide) (memc (.tail _ (.head _)) mem0) fun u5_1 Lo fs hres => ?_)
      obtain ⟨rfl, rfl, rfl⟩ := hres
      refine WL_q (q_assign rfl) (by decide) ?_
      refine WL_nil ?_
      refine thenN ?_
      refine WC_seq ?_
      refine WC_seq ?_
      refine WC_region ?_
      refine WL_q (q_field (o' := 0) Tryd.underlying31 rfl ti28 rfl rfl) (by decide) ?_
      refine WL_q (q_field (o' := 2) Tryd.underlying28 rfl ti26 rfl rfl) (by decide) ?_
      refine WL_q (q_load1 Tryd.underlying26 rfl rfl (ownS (ownS (own0))) rfl) (by decide) ?_
      refine WL_nil ?_
      refine thenN ?_
      refine WC_block ?_
      refine WC_seq ?_
      refine WC_region ?_
      refine WL_q (q_eql rfl rfl) (by decide) ?_
      refine WL_q (q_assign rfl) (by decide) ?_
      refine WL_nil ?_
      refine thenN ?_
      refine WC_fr [(26, _), (25, _), (8, _), (7, _), (6, _), (4, _), (3, _), (2, _)] (.cons rfl (.cons rfl (.cons rfl (.cons rfl (.cons rfl (.cons rfl (.cons rfl (.cons rfl (.nil _))))))))) ?_
      refine WC_cond rfl (fun h26 => ?_) (fun h26 => ?_)
      · refine WC_seq ?_
        refine WC_region ?_
        refine WL_q (q_field (o' := 3) Tryd.underlying31 rfl ti3 rfl rfl) (by decide) ?_
        refine WL_q (q_load1 Tryd.underlying3 rfl rfl (ownS (own0)) rfl) (by decide) ?_
        refine WL_q (q_field (o' := 3) Tryd.underlying31 rfl ti3 rfl rfl) (by decide) ?_
        refine WL_q (q_load1 Tryd.underlying3 rfl rfl (ownS (ownS (own0))) rfl) (by decide) ?_
        refine WL_q (q_lss rfl rfl) (by decide) ?_
        refine WL_q (q_move rfl) (by decide) ?_
        refine WL_guard (t := 33) rfl (fun g33 => ?_) (fun g33 => ?_)
        · refine WL_gno rfl rfl rfl g33 (by decide) ?_
          refine WL_gno rfl rfl rfl g33 (by decide) ?_
          refine WL_gno rfl rfl rfl g33 (by decide) ?_
          refine WL_gno rfl rfl rfl g33 (by decide) ?_
          refine WL_gno rfl rfl rfl g33 (by decide) ?_
          refine WL_gno rfl rfl rfl g33 (by decide) ?_
          refine WL_gun rfl rfl rfl (by decide) ?_
          refine WL_gno rfl rfl rfl g33 (by decide) ?_
          refine WL_q (q_pickT rfl g33 rfl) (by decide) ?_
          refine WL_nil ?_
          refine thenN ?_
          refine WC_fr [(42, _), (8, _), (7, _), (6, _), (3, _)] (.cons rfl (.cons rfl (.cons rfl (.cons rfl (.cons rfl (.nil _)))))) ?_
          refine WC_true rfl rfl ?_
          refine WC_seq ?_
          refine WC_region ?_
          refine WL_q (q_loadN (vs := [_, _, _, _, _, _, _, _, _]) Tryd.underlying31 rfl ti31 rfl (ownS (ownS (own0))) rfl rfl) (by decide) ?_
          refine WL_q (q_field (o' := 3) Tryd.underlying31 rfl ti3 rfl rfl) (by decide) ?_
          refine WL_q (q_load1 Tryd.underlying3 rfl rfl (ownS (ownS (own0))) rfl) (by decide) ?_
          refine WL_q (q_move rfl) (by decide) ?_
          refine WL_q (q_add rfl rfl (wr64 (by have := ha.lo; have := ha.hi; have := hb.text; have := widthF_le b; omega))) (by decide) ?_
          refine WL_main rfl (OW_call0 (moved_s a Aa ca (a.at_ + widthF b) ha.text (by have := ha.lo; have := ha.hi; have := hb.text; have := widthF_le b; omega)) (.cons rfl (.cons rfl (.nil))) (by decide) (memc (.tail _ (.head _)) mem0) fun u9_5 Lo fs hres => ?_)
          obtain ⟨A2, c2, rfl, rfl, rfl⟩ := hres
          refine WL_q (q_extract (vs := [_, _]) rfl rfl) (by decide) ?_
          refine WL_q (q_extract (vs := [_, _]) rfl rfl) (by decide) ?_
          refine WL_main rfl (OW_storeN (cs' := [_, _, _, _, _, _, _, _, _]) (vs := [_, _, _, _, _, _, _, _, _]) ti31 rfl rfl rfl rfl rfl (Nat.le_of_ble_eq_true rfl) (.z) ?_)
          refine WL_q (q_assign rfl) (by decide) ?_
          refine WL_nil ?_
          refine thenN ?_
          refine WC_ret ?_
          refine blockRet ?_
          refine thenRet ?_
          refine ⟨_, [], [RdF rgD A2 c2 (movedF a (a.at_ + widthF b)).1.rs], fun Z w hs => RV_ownN hs Tryd.underlying31 rfl ti31 rfl own0 rfl (.tmp rfl (.nil)), ?_, fun Z w hs => hs.out (List.Sublist.cons _ (List.Sublist.cons _ (List.Sublist.cons _ (List.Sublist.refl _)))) (memc (.head _) (fun _ h => .tail _ (.tail _ h)))⟩
          try simp only [decide_eq_true_eq, decide_eq_false_iff_not, beq_iff_eq, bne_iff_ne, beq_eq_false_iff_ne, ne_eq, Bool.and_eq_true, Bool.not_eq_true', Bool.not_eq_false', Bool.not_eq_true, Bool.not_eq_false, bne_eq_false_iff_eq, Bool.and_eq_false_iff] at *
          have hF : includeF a b earlier = movedF a (a.at_ + widthF b) := by
            unfold includeF clashF
            first | exact if_pos ‹_› | (simp_all; done) | (simp_all; omega) | (repeat' split; all_goals first | rfl | omega | (simp_all; done) | (simp_all; omega))
          exact ⟨A2, c2, by rw [hF]; rfl, rfl, by first | (rw [hF]; done) | (rw [hF]; rfl)⟩
        · refine WL_gq rfl rfl rfl g33 (q_field (o' := 3) Tryd.underlying31 rfl ti3 rfl rfl) (by decide) ?_
          refine WL_gq rfl rfl rfl g33 (q_load1 Tryd.underlying3 rfl rfl (ownS (own0)) rfl) (by decide) ?_
          refine WL_gq rfl rfl rfl g33 (q_field (o' := 3) Tryd.underlying31 rfl ti3 rfl rfl) (by decide) ?_
          refine WL_gq rfl rfl rfl g33 (q_load1 Tryd.underlying3 rfl rfl (ownS (ownS (own0))) rfl) (by decide) ?_
          refine WL_gq rfl rfl rfl g33 (q_eql rfl rfl) (by decide) ?_
          refine WL_gq rfl rfl rfl g33 (q_move rfl) (by decide) ?_
          refine WL_guard (t := 39) rfl (fun g39 => ?_) (fun g39 => ?_)
          · refine WL_gq rfl rfl rfl g39 (q_move rfl) (by decide) ?_
            refine WL_gq rfl rfl rfl g33 (q_pickT rfl g39 rfl) (by decide) ?_
            refine WL_q (q_pickF rfl g33 rfl) (by decide) ?_
            refine WL_nil ?_
            refine thenN ?_
            refine WC_fr [(42, _), (8, _), (7, _), (6, _), (3, _)] (.cons rfl (.cons rfl (.cons rfl (.cons rfl (.cons rfl (.nil _)))))) ?_
            refine WC_cond rfl (fun h42 => ?_) (fun h42 => ?_)
            · refine WC_seq ?_
              refine WC_region ?_
              refine WL_q (q_loadN (vs := [_, _, _, _, _, _, _, _, _]) Tryd.underlying31 rfl ti31 rfl (ownS (ownS (own0))) rfl rfl) (by decide) ?_
              refine WL_q (q_field (o' := 3) Tryd.underlying31 rfl ti3 rfl rfl) (by decide) ?_
              refine WL_q (q_load1 Tryd.underlying3 rfl rfl (ownS (ownS (own0))) rfl) (by decide) ?_
              refine WL_q (q_move rfl) (by decide) ?_
              refine WL_q (q_add rfl rfl (wr64 (by have := ha.lo; have := ha.hi; have := hb.text; have := widthF_le b; omega))) (by decide) ?_
              refine WL_main rfl (OW_call0 (moved_s a Aa ca (a.at_ + widthF b) ha.text (by have := ha.lo; have := ha.hi; have := hb.text; have := widthF_le b; omega)) (.cons rfl (.cons rfl (.nil))) (by decide) (memc (.tail _ (.head _)) mem0) fun u9_5 Lo fs hres => ?_)
              obtain ⟨A2, c2, rfl, rfl, rfl⟩ := hres
              refine WL_q (q_extract (vs := [_, _]) rfl rfl) (by decide) ?_
              refine WL_q (q_extract (vs := [_, _]) rfl rfl) (by decide) ?_
              refine WL_main rfl (OW_storeN (cs' := [_, _, _, _, _, _, _, _, _]) (vs := [_, _, _, _, _, _, _, _, _]) ti31 rfl rfl rfl rfl rfl (Nat.le_of_ble_eq_true rfl) (.z) ?_)
              refine WL_q (q_assign rfl) (by decide) ?_
              refine WL_nil ?_
              refine thenN ?_
              refine WC_ret ?_
              refine blockRet ?_
              refine thenRet ?_
              refine ⟨_, [], [RdF rgD A2 c2 (movedF a (a.at_ + widthF b)).1.rs], fun Z w hs => RV_ownN hs Tryd.underlying31 rfl ti31 rfl own0 rfl (.tmp rfl (.nil)), ?_, fun Z w hs => hs.out (List.Sublist.cons _ (List.Sublist.cons _ (List.Sublist.cons _ (List.Sublist.refl _)))) (memc (.head _) (fun _ h => .tail _ (.tail _ h)))⟩
              try simp only [decide_eq_true_eq, decide_eq_false_iff_not, beq_iff_eq, bne_iff_ne, beq_eq_false_iff_ne, ne_eq, Bool.and_eq_true, Bool.not_eq_true', Bool.not_eq_false', Bool.not_eq_true, Bool.not_eq_false, bne_eq_false_iff_eq, Bool.and_eq_false_iff] at *
              have hF : includeF a b earlier = movedF a (a.at_ + widthF b) := by
                unfold includeF clashF
                first | exact if_pos ‹_› | (simp_all; done) | (simp_all; omega) | (repeat' split; all_goals first | rfl | omega | (simp_all; done) | (simp_all; omega))
              exact ⟨A2, c2, by rw [hF]; rfl, rfl, by first | (rw [hF]; done) | (rw [hF]; rfl)⟩
            · refine WC_skip ?_
              refine blockN ?_
              refine thenN ?_
              refine WC_seq ?_
              refine WC_region ?_
              refine WL_q (q_loadN (vs := [_, _, _, _, _, _, _, _, _]) Tryd.underlying31 rfl ti31 rfl (ownS (ownS (own0))) rfl rfl) (by decide) ?_
              refine WL_main rfl (OW_call0 (clone_s a Aa ca ha.rs) (.cons rfl (.nil)) (by decide) (memc (.tail _ (.tail _ (.head _))) mem0) fun u14_1 Lo fs hres => ?_)
              obtain ⟨A1, c1, rfl, rfl, rfl⟩ := hres
              refine WL_main rfl (OW_storeN (cs' := [_, _, _, _, _, _, _, _, _]) (vs := [_, _, _, _, _, _, _, _, _]) ti31 rfl rfl rfl rfl rfl (Nat.le_of_ble_eq_true rfl) (.z) ?_)
              refine WL_q (q_assign rfl) (by decide) ?_
              refine WL_nil ?_
              refine thenN ?_
              refine WC_ret ?_
              refine ⟨_, [], [RdF rgD A1 c1 a.rs], fun Z w hs => RV_ownN hs Tryd.underlying31 rfl ti31 rfl own0 rfl (.tmp rfl (.nil)), ?_, fun Z w hs => hs.out (List.Sublist.cons _ (List.Sublist.cons _ (List.Sublist.cons _ (List.Sublist.refl _)))) (memc (.head _) (fun _ h => .tail _ (.tail _ h)))⟩
              try simp only [decide_eq_true_eq, decide_eq_false_iff_not, beq_iff_eq, bne_iff_ne, beq_eq_false_iff_ne, ne_eq, Bool.and_eq_true, Bool.not_eq_true', Bool.not_eq_false', Bool.not_eq_true, Bool.not_eq_false, bne_eq_false_iff_eq, Bool.and_eq_false_iff] at *
              have hF : includeF a b earlier = (a, 0) := by
                unfold includeF clashF
                first | exact if_pos ‹_› | (simp_all; done) | (simp_all; omega) | (repeat' split; all_goals first | rfl | omega | (simp_all; done) | (simp_all; omega))
              exact ⟨A1, c1, by rw [hF]; rfl, rfl, by first | (rw [hF]; done) | (rw [hF]; rfl)⟩
          · refine WL_gno rfl rfl rfl g39 (by decide) ?_
            refine WL_gq rfl rfl rfl g33 (q_pickF rfl g39 rfl) (by decide) ?_
            refine WL_q (q_pickF rfl g33 rfl) (by decide) ?_
            refine WL_nil ?_
            refine thenN ?_
            refine WC_fr [(42, _), (8, _), (7, _), (6, _), (3, _)] (.cons rfl (.cons rfl (.cons rfl (.cons rfl (.cons rfl (.nil _)))))) ?_
            refine WC_false rfl rfl ?_
            refine WC_skip ?_
            refine blockN ?_
            refine thenN ?_
            refine WC_seq ?_
            refine WC_region ?_
            refine WL_q (q_loadN (vs := [_, _, _, _, _, _, _, _, _]) Tryd.underlying31 rfl ti31 rfl (ownS (ownS (own0))) rfl rfl) (by decide) ?_
            refine WL_main rfl (OW_call0 (clone_s a Aa ca ha.rs) (.cons rfl (.nil)) (by decide) (memc (.tail _ (.tail _ (.head _))) mem0) fun u14_1 Lo fs hres => ?_)
            obtain ⟨A1, c1, rfl, rfl, rfl⟩ := hres
            refine WL_main rfl (OW_storeN (cs' := [_, _, _, _, _, _, _, _, _]) (vs := [_, _, _, _, _, _, _, _, _]) ti31 rfl rfl rfl rfl rfl (Nat.le_of_ble_eq_true rfl) (.z) ?_)
            refine WL_q (q_assign rfl) (by decide) ?_
            refine WL_nil ?_
            refine thenN ?_
            refine WC_ret ?_
            refine ⟨_, [], [RdF rgD A1 c1 a.rs], fun Z w hs => RV_ownN hs Tryd.underlying31 rfl ti31 rfl own0 rfl (.tmp rfl (.nil)), ?_, fun Z w hs => hs.out (List.Sublist.cons _ (List.Sublist.cons _ (List.Sublist.cons _ (List.Sublist.refl _)))) (memc (.head _) (fun _ h => .tail _ (.tail _ h)))⟩
            try simp only [decide_eq_true_eq, decide_eq_false_iff_not, beq_iff_eq, bne_iff_ne, beq_eq_false_iff_ne, ne_eq, Bool.and_eq_true, Bool.not_eq_true', Bool.not_eq_false', Bool.not_eq_true, Bool.not_eq_false, bne_eq_false_iff_eq, Bool.and_eq_false_iff] at *
            have hF : includeF a b earlier = (a, 0) := by
              unfold includeF clashF
              first | exact if_pos ‹_› | (simp_all; done) | (simp_all; omega) | (repeat' split; all_goals first | rfl | omega | (simp_all; done) | (simp_all; omega))
            exact ⟨A1, c1, by rw [hF]; rfl, rfl, by first | (rw [hF]; done) | (rw [hF]; rfl)⟩
      · refine WC_seq ?_
        refine WC_seq ?_
        refine WC_region ?_
        refine WL_q (q_eql rfl rfl) (by decide) ?_
        refine WL_q (q_assign rfl) (by decide) ?_
        refine WL_nil ?_
        refine thenN ?_
        refine WC_cond rfl (fun h51 => ?_) (fun h51 => ?_)
        · refine WC_skip ?_
          refine thenN ?_
          refine WC_true rfl h51 ?_
          refine WC_seq ?_
          refine WC_region ?_
          refine WL_q (q_field (o' := 5) Tryd.underlying31 rfl ti29 rfl rfl) (by decide) ?_
          refine WL_q (q_load1 Tryd.underlying29 rfl rfl (ownS (ownS (own0))) rfl) (by decide) ?_
          refine WL_q (q_field (o' := 3) Tryd.underlying31 rfl ti3 rfl rfl) (by decide) ?_
          refine WL_q (q_load1 Tryd.underlying3 rfl rfl (ownS (own0)) rfl) (by decide) ?_
          refine WL_q (q_move rfl) (by decide) ?_
          refine WL_main rfl (OW_call0 (through_s Aa ca a.rs b.at_ (widthF b) ha.rs) (.cons rfl (.cons rfl (.cons rfl (.nil)))) (by decide) (memc (.tail _ (.tail _ (.head _))) mem0) fun u12_5 Lo fs hres => ?_)
          obtain ⟨A3, c3, rfl, rfl, rfl⟩ := hres
          refine WL_q (q_move rfl) (by decide) ?_
          refine WL_q (q_extract (vs := [_, _]) rfl rfl) (by decide) ?_
          refine WL_q (q_extract (vs := [_, _]) rfl rfl) (by decide) ?_
          refine WL_q (q_assign rfl) (by decide) ?_
          refine WL_q (q_assign rfl) (by decide) ?_
          refine WL_nil ?_
          refine thenN ?_
          refine WC_fr [(10, _), (9, _), (7, _), (6, _), (3, _)] (.cons rfl (.cons rfl (.cons rfl (.cons rfl (.cons rfl (.nil _)))))) ?_
          refine WC_seq ?_
          refine WC_region ?_
          refine WL_q (q_loadN (vs := [_, _, _, _, _, _, _, _, _]) Tryd.underlying31 rfl ti31 rfl (ownS (ownS (own0))) rfl rfl) (by decide) ?_
          refine WL_q (q_move rfl) (by decide) ?_
          refine WL_q (q_move rfl) (by decide) ?_
          refine WL_main rfl (OW_call0 (ranged_s a Aa A3 ca c3 (thrF a.rs b.at_ (widthF b)).1 (thrF a.rs b.at_ (widthF b)).2) (.cons rfl (.cons rfl (.cons rfl (.nil)))) (by decide) (memc (.head _) mem0) fun u13_3 Lo fs hres => ?_)
          obtain ⟨A4, c4, rfl, rfl, rfl⟩ := hres
          refine WL_q (q_extract (vs := [_, _]) rfl rfl) (by decide) ?_
          refine WL_q (q_extract (vs := [_, _]) rfl rfl) (by decide) ?_
          refine WL_main rfl (OW_storeN (cs' := [_, _, _, _, _, _, _, _, _]) (vs := [_, _, _, _, _, _, _, _, _]) ti31 rfl rfl rfl rfl rfl (Nat.le_of_ble_eq_true rfl) (.z) ?_)
          refine WL_q (q_assign rfl) (by decide) ?_
          refine WL_nil ?_
          refine thenN ?_
          refine WC_ret ?_
          refine blockRet ?_
          refine thenRet ?_
          refine ⟨_, [], [RdF rgD A4 c4 (rangedF a (thrF a.rs b.at_ (widthF b)).1 (thrF a.rs b.at_ (widthF b)).2).1.rs], fun Z w hs => RV_ownN hs Tryd.underlying31 rfl ti31 rfl own0 rfl (.tmp rfl (.nil)), ?_, fun Z w hs => hs.out (List.Sublist.cons _ (List.Sublist.cons _ (List.Sublist.cons _ (List.Sublist.refl _)))) (memc (.head _) (fun _ h => .tail _ (.tail _ (.tail _ h))))⟩
          try simp only [decide_eq_true_eq, decide_eq_false_iff_not, beq_iff_eq, bne_iff_ne, beq_eq_false_iff_ne, ne_eq, Bool.and_eq_true, Bool.not_eq_true', Bool.not_eq_false', Bool.not_eq_true, Bool.not_eq_false, bne_eq_false_iff_eq, Bool.and_eq_false_iff] at *
          have hF : includeF a b earlier = rangedF a (thrF a.rs b.at_ (widthF b)).1 (thrF a.rs b.at_ (widthF b)).2 := by
            unfold includeF clashF
            first | exact if_pos ‹_› | (simp_all; done) | (simp_all; omega) | (repeat' split; all_goals first | rfl | omega | (simp_all; done) | (simp_all; omega))
          exact ⟨A4, c4, by rw [hF]; rfl, rfl, by first | (rw [hF]; done) | (rw [hF]; rfl)⟩
        · refine WC_region ?_
          refine WL_q (q_eql rfl rfl) (by decide) ?_
          refine WL_q (q_assign rfl) (by decide) ?_
          refine WL_nil ?_
          refine thenN ?_
          refine WC_cond rfl (fun h51 => ?_) (fun h51 => ?_)
          · refine WC_seq ?_
            refine WC_region ?_
            refine WL_q (q_field (o' := 5) Tryd.underlying31 rfl ti29 rfl rfl) (by decide) ?_
            refine WL_q (q_load1 Tryd.underlying29 rfl rfl (ownS (ownS (own0))) rfl) (by decide) ?_
            refine WL_q (q_field (o' := 3) Tryd.underlying31 rfl ti3 rfl rfl) (by decide) ?_
            refine WL_q (q_load1 Tryd.underlying3 rfl rfl (ownS (own0)) rfl) (by decide) ?_
            refine WL_q (q_move rfl) (by decide) ?_
            refine WL_main rfl (OW_call0 (through_s Aa ca a.rs b.at_ (widthF b) ha.rs) (.cons rfl (.cons rfl (.cons rfl (.nil)))) (by decide) (memc (.tail _ (.tail _ (.head _))) mem0) fun u12_5 Lo fs hres => ?_)
            obtain ⟨A3, c3, rfl, rfl, rfl⟩ := hres
            refine WL_q (q_move rfl) (by decide) ?_
            refine WL_q (q_extract (vs := [_, _]) rfl rfl) (by decide) ?_
            refine WL_q (q_extract (vs := [_, _]) rfl rfl) (by decide) ?_
            refine WL_q (q_assign rfl) (by decide) ?_
            refine WL_q (q_assign rfl) (by decide) ?_
            refine WL_nil ?_
            refine thenN ?_
            refine WC_fr [(10, _), (9, _), (7, _), (6, _), (3, _)] (.cons rfl (.cons rfl (.cons rfl (.cons rfl (.cons rfl (.nil _)))))) ?_
            refine WC_seq ?_
            refine WC_region ?_
            refine WL_q (q_loadN (vs := [_, _, _, _, _, _, _, _, _]) Tryd.underlying31 rfl ti31 rfl (ownS (ownS (own0))) rfl rfl) (by decide) ?_
            refine WL_q (q_move rfl) (by decide) ?_
            refine WL_q (q_move rfl) (by decide) ?_
            refine WL_main rfl (OW_call0 (ranged_s a Aa A3 ca c3 (thrF a.rs b.at_ (widthF b)).1 (thrF a.rs b.at_ (widthF b)).2) (.cons rfl (.cons rfl (.cons rfl (.nil)))) (by decide) (memc (.head _) mem0) fun u13_3 Lo fs hres => ?_)
            obtain ⟨A4, c4, rfl, rfl, rfl⟩ := hres
            refine WL_q (q_extract (vs := [_, _]) rfl rfl) (by decide) ?_
            refine WL_q (q_extract (vs := [_, _]) rfl rfl) (by decide) ?_
            refine WL_main rfl (OW_storeN (cs' := [_, _, _, _, _, _, _, _, _]) (vs := [_, _, _, _, _, _, _, _, _]) ti31 rfl rfl rfl rfl rfl (Nat.le_of_ble_eq_true rfl) (.z) ?_)
            refine WL_q (q_assign rfl) (by decide) ?_
            refine WL_nil ?_
            refine thenN ?_
            refine WC_ret ?_
            refine blockRet ?_
            refine thenRet ?_
            refine ⟨_, [], [RdF rgD A4 c4 (rangedF a (thrF a.rs b.at_ (widthF b)).1 (thrF a.rs b.at_ (widthF b)).2).1.rs], fun Z w hs => RV_ownN hs Tryd.underlying31 rfl ti31 rfl own0 rfl (.tmp rfl (.nil)), ?_, fun Z w hs => hs.out (List.Sublist.cons _ (List.Sublist.cons _ (List.Sublist.cons _ (List.Sublist.refl _)))) (memc (.head _) (fun _ h => .tail _ (.tail _ (.tail _ h))))⟩
            try simp only [decide_eq_true_eq, decide_eq_false_iff_not, beq_iff_eq, bne_iff_ne, beq_eq_false_iff_ne, ne_eq, Bool.and_eq_true, Bool.not_eq_true', Bool.not_eq_false', Bool.not_eq_true, Bool.not_eq_false, bne_eq_false_iff_eq, Bool.and_eq_false_iff] at *
            have hF : includeF a b earlier = rangedF a (thrF a.rs b.at_ (widthF b)).1 (thrF a.rs b.at_ (widthF b)).2 := by
              unfold includeF clashF
              first | exact if_pos ‹_› | (simp_all; done) | (simp_all; omega) | (repeat' split; all_goals first | rfl | omega | (simp_all; done) | (simp_all; omega))
            exact ⟨A4, c4, by rw [hF]; rfl, rfl, by first | (rw [hF]; done) | (rw [hF]; rfl)⟩
          · refine WC_skip ?_
            refine blockN ?_
            refine thenN ?_
            refine WC_seq ?_
            refine WC_region ?_
            refine WL_q (q_loadN (vs := [_, _, _, _, _, _, _, _, _]) Tryd.underlying31 rfl ti31 rfl (ownS (ownS (own0))) rfl rfl) (by decide) ?_
            refine WL_main rfl (OW_call0 (clone_s a Aa ca ha.rs) (.cons rfl (.nil)) (by decide) (memc (.tail _ (.tail _ (.head _))) mem0) fun u14_1 Lo fs hres => ?_)
            obtain ⟨A1, c1, rfl, rfl, rfl⟩ := hres
            refine WL_main rfl (OW_storeN (cs' := [_, _, _, _, _, _, _, _, _]) (vs := [_, _, _, _, _, _, _, _, _]) ti31 rfl rfl rfl rfl rfl (Nat.le_of_ble_eq_true rfl) (.z) ?_)
            refine WL_q (q_assign rfl) (by decide) ?_
            refine WL_nil ?_
            refine thenN ?_
            refine WC_ret ?_
            refine ⟨_, [], [RdF rgD A1 c1 a.rs], fun Z w hs => RV_ownN hs Tryd.underlying31 rfl ti31 rfl own0 rfl (.tmp rfl (.nil)), ?_, fun Z w hs => hs.out (List.Sublist.cons _ (List.Sublist.cons _ (List.Sublist.cons _ (List.Sublist.refl _)))) (memc (.head _) (fun _ h => .tail _ (.tail _ h)))⟩
            try simp only [decide_eq_true_eq, decide_eq_false_iff_not, beq_iff_eq, bne_iff_ne, beq_eq_false_iff_ne, ne_eq, Bool.and_eq_true, Bool.not_eq_true', Bool.not_eq_false', Bool.not_eq_true, Bool.not_eq_false, bne_eq_false_iff_eq, Bool.and_eq_false_iff] at *
            have hF : includeF a b earlier = (a, 0) := by
              unfold includeF clashF
              first | exact if_pos ‹_› | (simp_all; done) | (simp_all; omega) | (repeat' split; all_goals first | rfl | omega | (simp_all; done) | (simp_all; omega))
            exact ⟨A1, c1, by rw [hF]; rfl, rfl, by first | (rw [hF]; done) | (rw [hF]; rfl)⟩

end Go.Proofs.YtggdddkbhigjoaaDoor
