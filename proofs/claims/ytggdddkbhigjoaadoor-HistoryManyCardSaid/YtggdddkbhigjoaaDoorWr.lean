/- Walks: history.Put. -/
import Derived.Test.YtggdddkbhigjoaaDoorWq
set_option linter.unusedVariables false
set_option linter.unusedSimpArgs false
namespace Go.Proofs.YtggdddkbhigjoaaDoor
open Go Go.GW
theorem turned_ops (H : Hist) (i : Nat) (o : GOp) : (turnedF H i o).1.map (·.op) = H.ops := by
  unfold turnedF
  split
  · rfl
  · split
    · rfl
    · split
      · rfl
      · rename_i k hwk _ e he
        split
        · rfl
        · have hk : k < H.ents.length := by
            rcases Nat.lt_or_ge k H.ents.length with h | h
            · exact h
            · rw [List.getElem?_eq_none h] at he; cases he
          have e1 : H.ents[k] = e := by rw [List.getElem?_eq_getElem hk] at he; exact Option.some.inj he
          exact hops_set hk (offE e (!o.on)) (by rw [e1]; rfl) 0
theorem whereId_ops {es : List Ent} {H : Hist} {c n : Int} (h : es.map (·.op) = H.ops) (hn : whereId H.ents c n = none) : whereId es c n = none := by
  unfold whereId
  rw [List.findIdx?_eq_none_iff]
  intro e he
  have h1 : e.op ∈ H.ops := by rw [← h]; exact List.mem_map.2 ⟨e, he, rfl⟩
  obtain ⟨x, hx, hxe⟩ := List.mem_map.1 h1
  have h2 := whereId_none hn x hx
  rw [hxe] at h2
  cases hq : (decide (c = e.op.c) && decide (n = e.op.n)) with
  | false => rfl
  | true => simp at hq; exact absurd ⟨hq.1.symm, hq.2.symm⟩ h2
theorem bd31Xw18  (w : World) : (Instr.build 31 #[]).run Tryd.prog w = .ok (.agg #[.int .i64 0, .int .i64 0, .int .i64 0, .int .i64 0, .string ⟨#[]⟩, .slice none 0 0, .int .i64 0, .int .i64 0, .bool false]) w := by kernel_rfl
theorem bd101_0Xw18 (x0_ : Int) (w : World) : (Instr.build 101 #[(0, .int .i64 x0_)]).run Tryd.prog w = .ok (.agg #[.int .i64 x0_, .slice none 0 0, .bool false]) w := by kernel_rfl
theorem bd28_1Xw18 (x1_ : Int) (w : World) : (Instr.build 28 #[(1, .int .i64 x1_)]).run Tryd.prog w = .ok (.agg #[.int .i64 0, .int .i64 0, .int .i64 x1_]) w := by kernel_rfl
theorem bd31_0Xw18 (x0_0a0 : Int) (x0_0a1 : Int) (x0_1 : Int) (w : World) : (Instr.build 31 #[(0, .agg #[.int .i64 x0_0a0, .int .i64 x0_0a1, .int .i64 x0_1])]).run Tryd.prog w = .ok (.agg #[.int .i64 x0_0a0, .int .i64 x0_0a1, .int .i64 x0_1, .int .i64 0, .string ⟨#[]⟩, .slice none 0 0, .int .i64 0, .int .i64 0, .bool false]) w := by kernel_rfl
theorem bd37_0_1Xw18 (x0_ : Int) (x1_ : Int) (w : World) : (Instr.build 37 #[(0, .int .i64 x0_), (1, .int .i64 x1_)]).run Tryd.prog w = .ok (.agg #[.int .i64 x0_, .int .i64 x1_]) w := by kernel_rfl
theorem fd31_3Xw18 (x00a0 : Int) (x00a1 : Int) (x01 : Int) (x1 : Int) (x2 : ByteArray) (x3A : Option Addr) (x3n x3c : Nat) (x4a0 : Int) (x4a1 : Int) (x5 : Bool) (w : World) : (Instr.field 31 (.agg #[.int .i64 x00a0, .int .i64 x00a1, .int .i64 x01, .int .i64 x1, .string x2, .slice x3A x3n x3c, .int .i64 x4a0, .int .i64 x4a1, .bool x5]) 3).run Tryd.prog w = .ok (.slice x3A x3n x3c) w := by kernel_rfl

set_option maxRecDepth 10000 in
theorem put_s (h m cap : Nat) (A : Option Addr) (H : Hist) (L : List MR) (hr : HR H L) (i : Int) (o : GOp) (Ao : Option Addr) (co : Nat) (ho : Fit o) (hlt : H.ents.length < 1000000) : Sp Tryd.prog 11 [.pointer (some ⟨h, 0, none⟩), .int .i64 i, opV o Ao co] [hdP h A H.ops.length cap m H.total, mpP m L, mkP L] [barF, RdF opD A cap H.ops, AllF L nowF, RdF rgD Ao co o.rs] (PuP H i o h m cap A L) := by
  have hol := ops_len H
  have hlen := hr.len
  refine Sp.of (n := 196) ⟨_, Tryd.func11, rfl, rfl, rfl, rfl⟩ (Nat.le_of_ble_eq_true rfl) fun Ps As => ?_
  refine WC_seq ?_
  refine WC_region ?_
  refine WL_main rfl (OW_box (cs := [_, _, _, _, _, _, _, _, _]) rfl rfl (by decide) fun b5 => ?_)
  refine WL_main rfl (OW_alloc (cs := [_, _, _, _, _, _, _, _, _]) ti31 rfl (by decide) fun b6 => ?_)
  refine WL_q (q_assign rfl) (by decide) ?_
  refine WL_nil ?_
  refine thenN ?_
  refine WC_seq ?_
  refine WC_seq ?_
  refine WC_fact (A := RdF rgD none 0 []) (fun Z w hs => RdS.nil _ _ _) ?_
  refine WC_region ?_
  refine WL_q (q_move rfl) (by decide) ?_
  refine WL_q (q_move rfl) (by decide) ?_
  refine WL_q (q_loadN (vs := [_, _, _, _, _, _, _, _, _]) Tryd.underlying31 rfl ti31 rfl (ownS (own0)) rfl rfl) (by decide) ?_
  refine WL_main rfl (OW_call3 (fits_s h m cap A H L hr i o Ao co ho) (.cons rfl (.cons rfl (.cons rfl (.nil)))) (by decide) (.s (.s (.z))) (.s (.s (.z))) (.s (.s (.z))) (memc (.tail _ (.head _)) (memc (.tail _ (.tail _ (.head _))) (memc (.tail _ (.tail _ (.tail _ (.tail _ (.head _))))) mem0))) fun u1_3 Lo fs hres => ?_)
  obtain ⟨rfl, rfl, rfl⟩ := hres
  refine WL_q (q_assign rfl) (by decide) ?_
  refine WL_nil ?_
  refine thenN ?_
  refine WC_seq ?_
  refine WC_region ?_
  refine WL_q (q_move rfl) (by decide) ?_
  refine WL_q (q_neq rfl rfl) (by decide) ?_
  refine WL_nil ?_
  refine thenN ?_
  refine WC_cond rfl (fun h24 => ?_) (fun h24 => ?_)
  · refine WC_seq ?_
    refine WC_region ?_
    refine WL_q (q_build (.nil) (bd31Xw18)) (by decide) ?_
    refine WL_q (q_move rfl) (by decide) ?_
    refine WL_main rfl (OW_storeN (cs' := [_, _, _, _, _, _, _, _, _]) (vs := [_, _, _, _, _, _, _, _, _]) ti31 rfl rfl rfl rfl rfl (Nat.le_of_ble_eq_true rfl) (.s (.s (.s (.z)))) ?_)
    refine WL_q (q_assign rfl) (by decide) ?_
    refine WL_nil ?_
    refine thenN ?_
    refine WC_ret ?_
    refine thenRet ?_
    refine ⟨_, [_, _, _], [_, _, _], fun Z w hs => RV_ownN hs Tryd.underlying31 rfl ti31 rfl (ownS (ownS (ownS (own0)))) rfl (.tmp rfl (.nil)), ?_, fun Z w hs => hs.out (List.Sublist.cons_cons _ (List.Sublist.cons_cons _ (List.Sublist.cons_cons _ (List.Sublist.cons _ (List.Sublist.cons _ (List.Sublist.refl _)))))) (memc (.head _) (memc (.tail _ (.tail _ (.head _))) (memc (.tail _ (.tail _ (.tail _ (.head _)))) (fun _ h => .tail _ h))))⟩
    try simp only [decide_eq_true_eq, decide_eq_false_iff_not, beq_iff_eq, bne_iff_ne, beq_eq_false_iff_ne, ne_eq, Bool.and_eq_true, Bool.not_eq_true', Bool.not_eq_false', Bool.not_eq_true, Bool.not_eq_false, bne_eq_false_iff_eq, Bool.and_eq_false_iff] at *
    have hF := put_1 h24
    exact ⟨L, A, cap, none, 0, by rw [hF]; exact hr, by rw [hF]; rfl, by rw [hF], by rw [hF]; rfl⟩
  · refine WC_skip ?_
    refine thenN ?_
    refine WC_seq ?_
    try simp only [decide_eq_true_eq, decide_eq_false_iff_not, beq_iff_eq, bne_iff_ne, beq_eq_false_iff_ne, ne_eq, Bool.and_eq_true, Bool.not_eq_true', Bool.not_eq_false', Bool.not_eq_true, Bool.not_eq_false, bne_eq_false_iff_eq, Bool.and_eq_false_iff] at *
    obtain ⟨h0, h1, hw0, htot, hne3, hk1, hk4, hck, htgt⟩ := fits_0 h24
    obtain ⟨i, rfl⟩ : ∃ k : Nat, i = (k : Int) := ⟨i.toNat, by omega⟩
    have hil : i ≤ H.ents.length := by omega
    have hwid := check_wid hck
    refine WC_region ?_
    refine WL_q (q_loadN (vs := [_, _, _, _, _, _, _, _, _]) Tryd.underlying31 rfl ti31 rfl (ownS (ownS (ownS (ownS (own0))))) rfl rfl) (by decide) ?_
    refine WL_main rfl (OW_call0 (clone_s o Ao co ho.rs) (.cons rfl (.nil)) (by decide) (memc (.tail _ (.tail _ (.tail _ (.tail _ (.head _))))) mem0) fun u4_1 Lo fs hres => ?_)
    obtain ⟨A1, c1, rfl, rfl, rfl⟩ := hres
    refine WL_main rfl (OW_storeN (cs' := [_, _, _, _, _, _, _, _, _]) (vs := [_, _, _, _, _, _, _, _, _]) ti31 rfl rfl rfl rfl rfl (Nat.le_of_ble_eq_true rfl) (.s (.s (.s (.s (.z))))) ?_)
    refine WL_nil ?_
    refine thenN ?_
    refine WC_seq ?_
    refine WC_capLe (.tail _ (.tail _ (.tail _ (.head _)))) fun hcap hcap2 => ?_
    obtain ⟨B, hB⟩ : ∃ B, B = cutA A i cap 9 := ⟨_, rfl⟩
    have hFd : ∀ x ∈ H.ops.drop i, Fit x := fun x hx => by obtain ⟨e, he, rfl⟩ := List.mem_map.1 (List.mem_of_mem_drop hx); exact hr.fit e he
    refine WC_fact (A := RdF opD B (cap - i) (H.ops.drop i)) (fun Z w hs => by rw [hB]; have h1 := RdS.cut (lo := i) (hi := H.ops.length) (m := cap) (hs.facts _ (.tail _ (.tail _ (.tail _ (.head _))))) (by omega) (by omega) (by omega) (Nat.le_refl _); rw [List.take_length] at h1; exact h1) ?_
    refine WC_draw _ _ [] [(0, 0), (2, 0), (3, 0), (4, 0), (5, 0), (6, 0), (7, 0), (1, 2), (8, 2), (9, 0), (10, 0), (11, 0), (12, 0), (13, 0), (14, 0), (15, 0)] mixed (fun _ _ _ _ h => h) (List.Sublist.cons_cons _ (List.Sublist.cons_cons _ (List.Sublist.cons_cons _ (List.Sublist.cons_cons _ (List.Sublist.cons_cons _ (List.Sublist.refl _)))))) (fun _ h => h) (by kernel_rfl) (by decide) fun ws Z0 => ?_
    refine WE_q rfl (q_loadN (vs := [_, _, _, _, _, _, _, _, _]) Tryd.underlying31 rfl ti31 rfl (ownS (ownS (ownS (ownS (own0))))) rfl rfl) (by decide) ?_
    refine WE_q rfl (q_move rfl) (by decide) ?_
    refine WE_q rfl (q_nil rfl) (by decide) ?_
    refine WE_q rfl (q_field (o' := 0) Tryd.underlying97 rfl ti45 rfl rfl) (by decide) ?_
    refine WE_q rfl (q_load1 Tryd.underlying45 rfl rfl own0 rfl) (by decide) ?_
    refine WE_q rfl (q_move rfl) (by decide) ?_
    refine WE_q rfl (q_cutLo Tryd.underlying45 ti31 rfl rfl (by omega) (by omega)) (by decide) ?_
    refine WE_main rfl rfl (OW_slice1 (cs := [_, _, _, _, _, _, _, _, _]) Tryd.underlying45 ti31 (by decide) (by decide) rfl rfl rfl rfl (by decide) fun b31 => ?_)
    refine ⟨⟨(List.Sublist.cons _ (List.Sublist.cons_cons _ (List.Sublist.cons_cons _ (List.Sublist.cons_cons _ (List.Sublist.cons_cons _ (List.Sublist.cons_cons _ (List.Sublist.refl _))))))), (.head _)⟩, ?_⟩
    refine WE_freeze1 (e := opD) (u := o) (.z) (fun Z w hs => ⟨A1, c1, rfl, hs.facts _ (.tail _ (.tail _ (.head _)))⟩) ?_
    refine WE_main rfl rfl (OW_call0 (cross_s (some ⟨b31, 0, none⟩) B 1 (cap - i) [o] (H.ops.drop i) (by simpa using ho) hFd (by simp) (by rw [List.length_drop]; omega)) (.cons rfl (.cons (by rw [hB, List.length_drop]; rfl) (.nil))) (by decide) (memc (.tail _ (.tail _ (.tail _ (.tail _ (.tail _ (.head _)))))) (memc (.head _) (memc (.tail _ (.tail _ (.head _))) mem0))) fun u5_8 Lo fs hres => ?_)
    obtain ⟨Ac, cc, Ad, cd, rfl, rfl, rfl⟩ := hres
    refine ⟨⟨(List.Sublist.cons_cons _ (List.Sublist.cons_cons _ (List.Sublist.cons_cons _ (List.Sublist.cons_cons _ (List.Sublist.cons_cons _ (List.Sublist.refl _)))))), (.tail _ (.tail _ (.tail _ (.head _))))⟩, ?_⟩
    refine WE_q rfl (q_move rfl) (by decide) ?_
    refine WE_q rfl (q_extract (vs := [_, _, _]) rfl rfl) (by decide) ?_
    refine WE_q rfl (q_extract (vs := [_, _, _]) rfl rfl) (by decide) ?_
    refine WE_q rfl (q_extract (vs := [_, _, _]) rfl rfl) (by decide) ?_
    refine WE_q rfl (q_assign rfl) (by decide) ?_
    refine WE_q rfl (q_assign rfl) (by decide) ?_
    refine WE_q rfl (q_assign rfl) (by decide) ?_
    refine WE_end (WF_nil ?_)
    refine thenN ?_
    refine WC_fr [(11, _), (10, _), (9, _), (7, _), (6, _), (5, _), (0, _), (1, _)] (.cons rfl (.cons rfl (.cons rfl (.cons rfl (.cons rfl (.cons rfl (.cons rfl (.cons rfl (.nil _))))))))) ?_
    refine WC_seq ?_
    refine WC_seq ?_
    refine WC_region ?_
    refine WL_q (q_move rfl) (by decide) ?_
    refine WL_q (q_neq rfl rfl) (by decide) ?_
    refine WL_nil ?_
    refine thenN ?_
    refine WC_cond rfl (fun h43 => ?_) (fun h43 => ?_)
    · refine WC_seq ?_
      refine WC_region ?_
      refine WL_q (q_build (.nil) (bd31Xw18)) (by decide) ?_
      refine WL_q (q_move rfl) (by decide) ?_
      refine WL_main rfl (OW_storeN (cs' := [_, _, _, _, _, _, _, _, _]) (vs := [_, _, _, _, _, _, _, _, _]) ti31 rfl rfl rfl rfl rfl (Nat.le_of_ble_eq_true rfl) (.s (.s (.s (.z)))) ?_)
      refine WL_q (q_assign rfl) (by decide) ?_
      refine WL_nil ?_
      refine thenN ?_
      refine WC_ret ?_
      refine thenRet ?_
      refine ⟨_, [_, _, _], [_, _, _], fun Z w hs => RV_ownN hs Tryd.underlying31 rfl ti31 rfl (ownS (ownS (ownS (own0)))) rfl (.tmp rfl (.nil)), ?_, fun Z w hs => hs.out (List.Sublist.cons_cons _ (List.Sublist.cons_cons _ (List.Sublist.cons_cons _ (List.Sublist.cons _ (List.Sublist.cons _ (List.Sublist.refl _)))))) (memc (.tail _ (.tail _ (.tail _ (.tail _ (.tail _ (.tail _ (.head _))))))) (memc (.tail _ (.tail _ (.tail _ (.tail _ (.tail _ (.tail _ (.tail _ (.tail _ (.head _))))))))) (memc (.tail _ (.tail _ (.tail _ (.tail _ (.tail _ (.tail _ (.tail _ (.tail _ (.tail _ (.head _)))))))))) (fun _ h => .tail _ (.tail _ (.tail _ (.tail _ (.tail _ (.tail _ (.tail _ h))))))))))⟩
      try simp only [decide_eq_true_eq, decide_eq_false_iff_not, beq_iff_eq, bne_iff_ne, beq_eq_false_iff_ne, ne_eq, Bool.and_eq_true, Bool.not_eq_true', Bool.not_eq_false', Bool.not_eq_true, Bool.not_eq_false, bne_eq_false_iff_eq, Bool.and_eq_false_iff] at *
      have hF := put_2 h24 h43
      exact ⟨L, A, cap, none, 0, by rw [hF]; exact hr, by rw [hF]; rfl, by rw [hF], by rw [hF]; rfl⟩
    · refine WC_skip ?_
      refine thenN ?_
      refine WC_seq ?_
      try simp only [decide_eq_true_eq, decide_eq_false_iff_not, beq_iff_eq, bne_iff_ne, beq_eq_false_iff_ne, ne_eq, Bool.and_eq_true, Bool.not_eq_true', Bool.not_eq_false', Bool.not_eq_true, Bool.not_eq_false, bne_eq_false_iff_eq, Bool.and_eq_false_iff] at *
      have hX : (crossF [o] (H.ops.drop i)).2.2 = 0 := by omega
      obtain ⟨td, htd, hsame⟩ := crossOne hX
      have hcf := crossF_fit (xs := [o]) (ys := H.ops.drop i) (by simpa using ho) hFd
      have htf : Fit td := hcf.1 td (by rw [htd]; exact List.mem_singleton.2 rfl)
      obtain ⟨later, hlater⟩ : ∃ x, x = (crossF [o] (H.ops.drop i)).2.1 := ⟨_, rfl⟩
      have hsl : Sames (H.ops.drop i) later := by rw [hlater]; exact (crossF_same hX).2
      have hfl : ∀ y ∈ later, Fit y := by rw [hlater]; exact hcf.2
      have hll : later.length = H.ops.length - i := by rw [hsl.length, List.length_drop]
      rw [htd, ← hlater]
      refine WC_region ?_
      refine WL_q (q_move rfl) (by decide) ?_
      refine WL_q (q_build (.cons rfl (.nil)) (bd101_0Xw18 _)) (by decide) ?_
      refine WL_main rfl (OW_box (cs := [_, _, _]) rfl rfl (by decide) fun b48 => ?_)
      refine WL_q (q_assign rfl) (by decide) ?_
      refine WL_nil ?_
      refine thenN ?_
      refine WC_seq ?_
      refine WC_region ?_
      refine WL_q (q_field (o' := 0) Tryd.underlying31 rfl ti28 rfl rfl) (by decide) ?_
      refine WL_q (q_field (o' := 2) Tryd.underlying28 rfl ti26 rfl rfl) (by decide) ?_
      refine WL_q (q_load1 Tryd.underlying26 rfl rfl (ownS (ownS (ownS (ownS (ownS (own0)))))) rfl) (by decide) ?_
      refine WL_q (q_build (.cons rfl (.nil)) (bd28_1Xw18 _)) (by decide) ?_
      refine WL_q (q_build (.cons rfl (.nil)) (bd31_0Xw18 _ _ _)) (by decide) ?_
      refine WL_main rfl (OW_alloc (cs := [_, _, _, _, _, _, _, _, _]) ti31 rfl (by decide) fun b13 => ?_)
      refine WL_main rfl (OW_storeN (cs' := [_, _, _, _, _, _, _, _, _]) (vs := [_, _, _, _, _, _, _, _, _]) ti31 rfl rfl rfl rfl rfl (Nat.le_of_ble_eq_true rfl) (.z) ?_)
      refine WL_nil ?_
      refine thenN ?_
      refine WC_fr [(13, _), (12, _), (10, _), (9, _), (7, _), (6, _), (5, _), (0, _), (1, _)] (.cons rfl (.cons rfl (.cons rfl (.cons rfl (.cons rfl (.cons rfl (.cons rfl (.cons rfl (.cons rfl (.nil _)))))))))) ?_
      refine WC_meet (α := List Ent × List MR × List Rg × Option Addr × Nat × GOp × Option Addr × Nat)
        (fun (es, L1, nw, An, cn, eff, Ae, ce) => [(0, .pointer (some ⟨h, 0, none⟩)), (1, .int .i64 i), (5, .pointer (some ⟨b5, 0, none⟩)), (6, .pointer (some ⟨b6, 0, none⟩)), (10, .slice Ad later.length cd), (12, .pointer (some ⟨b48, 0, none⟩)), (13, .pointer (some ⟨b13, 0, none⟩))])
        (fun (es, L1, nw, An, cn, eff, Ae, ce) => ([(b13, cellsO (opC eff Ae ce) 31)] :: [(b48, cellsO [.int .i64 i, .slice An nw.length cn, .bool false] 101)] :: [(b6, cellsO (opC zeroOp none 0) 31)] :: [(b5, cellsO (opC o A1 c1) 31)] :: hdP h A H.ops.length cap m H.total :: mpP m L :: mkP L1 :: Ps))
        (fun (es, L1, nw, An, cn, eff, Ae, ce) => (RdF rgD Ae ce eff.rs :: RdF rgD An cn nw :: AllF L1 nowF :: RdF opD Ad cd later :: RdF rgD A1 c1 o.rs :: RdF rgD none 0 [] :: barF :: RdF opD A cap H.ops :: AllF L nowF :: RdF rgD Ao co o.rs :: As))
        (fun (es, L1, nw, An, cn, eff, Ae, ce) => MidI H i o td L es L1 nw eff) ?_ ?_
      · refine WC_seq ?_
        refine WC_region ?_
        refine WL_q (q_field (o' := 0) Tryd.underlying31 rfl ti28 rfl rfl) (by decide) ?_
        refine WL_q (q_field (o' := 2) Tryd.underlying28 rfl ti26 rfl rfl) (by decide) ?_
        refine WL_q (q_load1 Tryd.underlying26 rfl rfl (ownS (ownS (ownS (ownS (ownS (ownS (own0))))))) rfl) (by decide) ?_
        refine WL_nil ?_
        refine thenN ?_
        refine WC_block ?_
        refine WC_seq ?_
        refine WC_region ?_
        refine WL_q (q_eql rfl rfl) (by decide) ?_
        refine WL_q (q_assign rfl) (by decide) ?_
        refine WL_nil ?_
        refine thenN ?_
        refine WC_cond rfl (fun h57 => ?_) (fun h57 => ?_)
        · refine WC_seq ?_
          refine WC_elem (k := 0) (.head _) rfl (op_open _) fun b12 q12 y12 e12 => ?_
          cases e12
          refine WC_draw _ _ [9] [(0, 0), (1, 0), (2, 0), (3, 0), (4, 0), (5, 0), (6, 0), (7, 2), (8, 0), (9, 3)] mixed (fun _ _ _ _ h => h) (List.Sublist.cons _ (List.Sublist.cons_cons _ (List.Sublist.cons_cons _ (List.Sublist.cons_cons _ (List.Sublist.cons_cons _ (List.Sublist.cons_cons _ (List.Sublist.cons_cons _ (List.Sublist.refl _)))))))) (fun _ h => h) (by kernel_rfl) (by decide) fun ws Z0 => ?_
          refine WE_q rfl (q_move rfl) (by decide) ?_
          refine WE_q rfl (q_idxRd Tryd.underlying45 ti31 rfl rfl (by decide) (by simp)) (by decide) ?_
          refine WE_q rfl (q_field (o' := _ + 3) Tryd.underlying31 rfl ti3 rfl rfl) (by decide) ?_
          refine WE_q rfl (q_loadF1 (j := 3) Tryd.underlying3 rfl rfl (.head _) rfl rfl) (by decide) ?_
          refine WE_q rfl (q_field (o' := 4) Tryd.underlying31 rfl ti9 rfl rfl) (by decide) ?_
          refine WE_q rfl (q_load1 Tryd.underlying9 rfl rfl (ownS (ownS (ownS (ownS (ownS (own0)))))) rfl) (by decide) ?_
          refine WE_q rfl (q_field (o' := 3) Tryd.underlying31 rfl ti3 rfl rfl) (by decide) ?_
          refine WE_main rfl rfl (OW_store1 ti3 rfl rfl rfl (.s (.s (.s (.z)))) (.z) ?_)
          refine ⟨⟨(List.Sublist.cons _ (List.Sublist.cons_cons _ (List.Sublist.cons_cons _ (List.Sublist.cons_cons _ (List.Sublist.cons_cons _ (List.Sublist.cons_cons _ (List.Sublist.cons_cons _ (List.Sublist.refl _)))))))), (.head _)⟩, ?_⟩
          refine WE_q rfl (q_field (o' := 4) Tryd.underlying31 rfl ti9 rfl rfl) (by decide) ?_
          refine WE_end (WF_last rfl rfl (OW_store1 ti9 rfl rfl rfl (.s (.s (.s (.s (.z))))) (.z) ?_))
          refine WF_nil ?_
          refine thenN ?_
          refine WC_fr [(13, _), (12, _), (10, _), (7, _), (6, _), (5, _), (0, _), (1, _)] (.cons rfl (.cons rfl (.cons rfl (.cons rfl (.cons rfl (.cons rfl (.cons rfl (.cons rfl (.nil _))))))))) ?_
          refine WC_seq ?_
          cases hmv : movedAll H.ents td.at_ (widthF o) with
          | error e =>
            refine WC_draw _ _ [] [(0, 0), (1, 0), (2, 0), (3, 0), (4, 2), (5, 2), (6, 0), (7, 0), (8, 0), (9, 0), (10, 0)] mixed (fun _ _ _ _ h => h) (List.Sublist.cons_cons _ (List.Sublist.cons_cons _ (List.Sublist.cons _ (List.Sublist.cons _ (List.Sublist.cons _ (List.Sublist.cons_cons _ (List.Sublist.cons_cons _ (List.Sublist.refl _)))))))) (fun _ h => h) (by kernel_rfl) (by decide) fun ws Z0 => ?_
            refine WE_q rfl (q_move rfl) (by decide) ?_
            refine WE_q rfl (q_field (o' := 3) Tryd.underlying31 rfl ti3 rfl rfl) (by decide) ?_
            refine WE_q rfl (q_load1 Tryd.underlying3 rfl rfl own0 rfl) (by decide) ?_
            refine WE_q rfl (q_loadN (vs := [_, _, _, _, _, _, _, _, _]) Tryd.underlying31 rfl ti31 rfl (ownS (ownS (ownS (own0)))) rfl rfl) (by decide) ?_
            refine WE_main rfl rfl (OW_call0 (width_s o A1 c1 (by have := ho.text; omega)) (.cons rfl (.nil)) (by decide) (memc (.tail _ (.tail _ (.tail _ (.tail _ (.tail _ (.tail _ (.tail _ (.tail _ (.tail _ (.tail _ (.tail _ (.head _)))))))))))) mem0) fun u13_4 Lo fs hres => ?_)
            obtain ⟨rfl, rfl, rfl⟩ := hres
            refine ⟨⟨(List.Sublist.cons_cons _ (List.Sublist.cons_cons _ (List.Sublist.cons _ (List.Sublist.cons _ (List.Sublist.cons _ (List.Sublist.cons_cons _ (List.Sublist.cons_cons _ (List.Sublist.refl _)))))))), (.head _)⟩, ?_⟩
            refine WE_main rfl rfl (OW_call3 (hmoved_s h m cap A H L hr td.at_ (widthF o)) (.cons rfl (.cons rfl (.cons rfl (.nil)))) (by decide) (.s (.s (.z))) (.s (.s (.z))) (.s (.s (.z))) (memc (.tail _ (.tail _ (.tail _ (.tail _ (.tail _ (.tail _ (.tail _ (.tail _ (.tail _ (.tail _ (.tail _ (.tail _ (.head _))))))))))))) (memc (.tail _ (.tail _ (.tail _ (.tail _ (.tail _ (.tail _ (.tail _ (.tail _ (.tail _ (.tail _ (.tail _ (.tail _ (.tail _ (.head _)))))))))))))) mem0)) fun u13_5 Lo fs hres => ?_)
            obtain ⟨rfl, hmr⟩ := hres
            rw [hmv] at hmr
            obtain ⟨rfl, rfl⟩ := hmr
            refine ⟨⟨(List.Sublist.cons _ (List.Sublist.cons _ (List.Sublist.cons _ (List.Sublist.cons_cons _ (List.Sublist.cons_cons _ (List.Sublist.cons_cons _ (List.Sublist.cons_cons _ (List.Sublist.refl _)))))))), (.head _)⟩, ?_⟩
            refine WE_q rfl (q_move rfl) (by decide) ?_
            refine WE_q rfl (q_extract (vs := [_, _]) rfl rfl) (by decide) ?_
            refine WE_q rfl (q_extract (vs := [_, _]) rfl rfl) (by decide) ?_
            refine WE_q rfl (q_assign rfl) (by decide) ?_
            refine WE_q rfl (q_assign rfl) (by decide) ?_
            refine WE_end (WF_nil ?_)
            refine thenN ?_
            refine WC_fr [(15, _), (14, _), (13, _), (12, _), (10, _), (7, _), (6, _), (5, _), (0, _), (1, _)] (.cons rfl (.cons rfl (.cons rfl (.cons rfl (.cons rfl (.cons rfl (.cons rfl (.cons rfl (.cons rfl (.cons rfl (.nil _))))))))))) ?_
            refine WC_seq ?_
            refine WC_seq ?_
            refine WC_region ?_
            refine WL_q (q_move rfl) (by decide) ?_
            refine WL_q (q_neq rfl rfl) (by decide) ?_
            refine WL_nil ?_
            refine thenN ?_
            refine WC_true rfl (by simpa using movedAll_ne hmv) ?_
            refine WC_seq ?_
            refine WC_region ?_
            refine WL_q (q_build (.nil) (bd31Xw18)) (by decide) ?_
            refine WL_q (q_move rfl) (by decide) ?_
            refine WL_main rfl (OW_storeN (cs' := [_, _, _, _, _, _, _, _, _]) (vs := [_, _, _, _, _, _, _, _, _]) ti31 rfl rfl rfl rfl rfl (Nat.le_of_ble_eq_true rfl) (.s (.s (.s (.s (.s (.z)))))) ?_)
            refine WL_q (q_assign rfl) (by decide) ?_
            refine WL_nil ?_
            refine thenN ?_
            refine WC_ret ?_
            refine thenRet ?_
            refine blockRet ?_
            refine thenRet ?_
            refine ⟨_, [_, _, _], [_, _, _], fun Z w hs => RV_ownN hs Tryd.underlying31 rfl ti31 rfl (ownS (ownS (ownS (ownS (ownS (own0)))))) rfl (.tmp rfl (.nil)), ?_, fun Z w hs => hs.out (List.Sublist.cons_cons _ (List.Sublist.cons_cons _ (List.Sublist.cons_cons _ (List.Sublist.cons _ (List.Sublist.cons _ (List.Sublist.cons _ (List.Sublist.cons _ (List.Sublist.refl _)))))))) (memc (.tail _ (.tail _ (.tail _ (.tail _ (.tail _ (.tail _ (.tail _ (.tail _ (.tail _ (.tail _ (.head _))))))))))) (memc (.tail _ (.tail _ (.tail _ (.tail _ (.tail _ (.tail _ (.tail _ (.tail _ (.tail _ (.tail _ (.tail _ (.tail _ (.head _))))))))))))) (memc (.tail _ (.tail _ (.tail _ (.tail _ (.tail _ (.tail _ (.tail _ (.tail _ (.tail _ (.tail _ (.tail _ (.tail _ (.tail _ (.head _)))))))))))))) (fun _ h => .tail _ (.tail _ (.tail _ (.tail _ (.tail _ (.tail _ (.tail _ (.tail _ (.tail _ (.tail _ (.tail _ h))))))))))))))⟩
            try simp only [decide_eq_true_eq, decide_eq_false_iff_not, beq_iff_eq, bne_iff_ne, beq_eq_false_iff_ne, ne_eq, Bool.and_eq_true, Bool.not_eq_true', Bool.not_eq_false', Bool.not_eq_true, Bool.not_eq_false, bne_eq_false_iff_eq, Bool.and_eq_false_iff] at *
            have hF := put_3 h24 hX htd (by unfold midF; rw [if_pos h57, hmv])
            exact ⟨L, A, cap, none, 0, by rw [hF]; exact hr, by rw [hF]; rfl, by rw [hF], by rw [hF]; rfl⟩
          | ok ls =>
            have hlsl := movedAll_length hmv
            refine WC_draw _ _ [] [(0, 0), (1, 0), (2, 0), (3, 0), (4, 2), (5, 2), (6, 0), (7, 0), (8, 0), (9, 0), (10, 0)] mixed (fun _ _ _ _ h => h) (List.Sublist.cons_cons _ (List.Sublist.cons_cons _ (List.Sublist.cons _ (List.Sublist.cons _ (List.Sublist.cons _ (List.Sublist.cons_cons _ (List.Sublist.cons_cons _ (List.Sublist.refl _)))))))) (fun _ h => h) (by kernel_rfl) (by decide) fun ws Z0 => ?_
            refine WE_q rfl (q_move rfl) (by decide) ?_
            refine WE_q rfl (q_field (o' := 3) Tryd.underlying31 rfl ti3 rfl rfl) (by decide) ?_
            refine WE_q rfl (q_load1 Tryd.underlying3 rfl rfl own0 rfl) (by decide) ?_
            refine WE_q rfl (q_loadN (vs := [_, _, _, _, _, _, _, _, _]) Tryd.underlying31 rfl ti31 rfl (ownS (ownS (ownS (own0)))) rfl rfl) (by decide) ?_
            refine WE_main rfl rfl (OW_call0 (width_s o A1 c1 (by have := ho.text; omega)) (.cons rfl (.nil)) (by decide) (memc (.tail _ (.tail _ (.tail _ (.tail _ (.tail _ (.tail _ (.tail _ (.tail _ (.tail _ (.tail _ (.tail _ (.head _)))))))))))) mem0) fun u13_4 Lo fs hres => ?_)
            obtain ⟨rfl, rfl, rfl⟩ := hres
            refine ⟨⟨(List.Sublist.cons_cons _ (List.Sublist.cons_cons _ (List.Sublist.cons _ (List.Sublist.cons _ (List.Sublist.cons _ (List.Sublist.cons_cons _ (List.Sublist.cons_cons _ (List.Sublist.refl _)))))))), (.head _)⟩, ?_⟩
            refine WE_main rfl rfl (OW_call3 (hmoved_s h m cap A H L hr td.at_ (widthF o)) (.cons rfl (.cons rfl (.cons rfl (.nil)))) (by decide) (.s (.s (.z))) (.s (.s (.z))) (.s (.s (.z))) (memc (.tail _ (.tail _ (.tail _ (.tail _ (.tail _ (.tail _ (.tail _ (.tail _ (.tail _ (.tail _ (.tail _ (.tail _ (.head _))))))))))))) (memc (.tail _ (.tail _ (.tail _ (.tail _ (.tail _ (.tail _ (.tail _ (.tail _ (.tail _ (.tail _ (.tail _ (.tail _ (.tail _ (.head _)))))))))))))) mem0)) fun u13_5 Lo fs hres => ?_)
            obtain ⟨rfl, hmr⟩ := hres
            rw [hmv] at hmr
            obtain ⟨A3, c3, rfl, rfl⟩ := hmr
            refine ⟨⟨(List.Sublist.cons _ (List.Sublist.cons _ (List.Sublist.cons _ (List.Sublist.cons_cons _ (List.Sublist.cons_cons _ (List.Sublist.cons_cons _ (List.Sublist.cons_cons _ (List.Sublist.refl _)))))))), (.tail _ (.head _))⟩, ?_⟩
            refine WE_q rfl (q_move rfl) (by decide) ?_
            refine WE_q rfl (q_extract (vs := [_, _]) rfl rfl) (by decide) ?_
            refine WE_q rfl (q_extract (vs := [_, _]) rfl rfl) (by decide) ?_
            refine WE_q rfl (q_assign rfl) (by decide) ?_
            refine WE_q rfl (q_assign rfl) (by decide) ?_
            refine WE_end (WF_nil ?_)
            refine thenN ?_
            refine WC_fr [(15, _), (14, _), (13, _), (12, _), (10, _), (7, _), (6, _), (5, _), (0, _), (1, _)] (.cons rfl (.cons rfl (.cons rfl (.cons rfl (.cons rfl (.cons rfl (.cons rfl (.cons rfl (.cons rfl (.cons rfl (.nil _))))))))))) ?_
            refine WC_seq ?_
            refine WC_seq ?_
            refine WC_region ?_
            refine WL_q (q_move rfl) (by decide) ?_
            refine WL_q (q_neq rfl rfl) (by decide) ?_
            refine WL_nil ?_
            refine thenN ?_
            refine WC_false rfl rfl ?_
            refine WC_skip ?_
            refine thenN ?_
            refine WC_seq ?_
            refine WC_seq ?_
            refine WC_region ?_
            refine WL_q (q_move rfl) (by decide) ?_
            refine WL_q (q_len Tryd.underlying102 rfl) (by decide) ?_
            refine WL_q (q_move rfl) (by decide) ?_
            refine WL_nil ?_
            refine thenN ?_
            refine WC_block ?_
            refine WC_loopE (α := Nat × List MR) (fun (k, Lk) => ls.length - k)
              (fun (k, Lk) => [(0, .pointer (some ⟨h, 0, none⟩)), (1, .int .i64 i), (5, .pointer (some ⟨b5, 0, none⟩)), (6, .pointer (some ⟨b6, 0, none⟩)), (10, .slice Ad later.length cd), (12, .pointer (some ⟨b48, 0, none⟩)), (13, .pointer (some ⟨b13, 0, none⟩)), (80, .slice A3 ls.length c3), (81, .int .i64 ls.length), (82, .int .i64 k)])
              (fun (k, Lk) => (hdP h A H.ops.length cap m H.total :: mpP m L :: mkP Lk :: [(b13, cellsO (opC { effF o with at_ := td.at_, text := o.text } none 0) 31)] :: [(b48, cellsO [.int .i64 i, .slice none 0 0, .bool false] 101)] :: [(b6, cellsO (opC zeroOp none 0) 31)] :: [(b5, cellsO (opC o A1 c1) 31)] :: Ps))
              (fun (k, Lk) => (AllF Lk nowF :: RdF rsl A3 c3 ls :: RdF opD Ad cd later :: RdF rgD A1 c1 o.rs :: RdF rgD none 0 [] :: barF :: RdF opD A cap H.ops :: AllF L nowF :: RdF rgD Ao co o.rs :: As))
              (fun (k, Lk) => HR ⟨setNow H.ents ls k, H.total⟩ Lk ∧ keys Lk = keys L ∧ k ≤ ls.length)
              (0, L) ?_ (.cons rfl (.cons rfl (.cons rfl (.cons rfl (.cons rfl (.cons rfl (.cons rfl (.cons rfl (.cons rfl (.cons rfl (.nil _))))))))))) (List.Sublist.cons_cons _ (List.Sublist.cons_cons _ (List.Sublist.cons_cons _ (List.Sublist.cons_cons _ (List.Sublist.cons_cons _ (List.Sublist.cons_cons _ (List.Sublist.cons_cons _ (List.Sublist.refl _)))))))) (memc (.tail _ (.tail _ (.tail _ (.tail _ (.tail _ (.tail _ (.tail _ (.tail _ (.tail _ (.tail _ (.tail _ (.tail _ (.tail _ (.tail _ (.head _))))))))))))))) (memc (.head _) (memc (.tail _ (.tail _ (.tail _ (.tail _ (.tail _ (.tail _ (.head _))))))) (fun _ h => .tail _ (.tail _ (.tail _ (.tail _ (.tail _ (.tail _ (.tail _ (.tail _ (.tail _ (.tail _ h))))))))))))) ?_
            · exact ⟨by rw [setNow_zero]; exact hr, rfl, Nat.zero_le _⟩
            · rintro ⟨k, Lk⟩ hI
              have hkls : k ≤ ls.length := hI.2.2
              refine WC_seq ?_
              refine WC_region ?_
              refine WL_q (q_lss rfl rfl) (by decide) ?_
              refine WL_nil ?_
              refine thenN ?_
              refine WC_seq ?_
              refine WC_cond rfl (fun h83 => ?_) (fun h83 => ?_)
              · refine WC_skip ?_
                refine thenN ?_
                refine WC_seq ?_
                refine WC_block ?_
                refine WC_seq ?_
                try simp only [decide_eq_true_eq, decide_eq_false_iff_not, beq_iff_eq, bne_iff_ne, beq_eq_false_iff_ne, ne_eq, Bool.and_eq_true, Bool.not_eq_true', Bool.not_eq_false', Bool.not_eq_true, Bool.not_eq_false, bne_eq_false_iff_eq, Bool.and_eq_false_iff] at *
                have hk : k < ls.length := by omega
                have hke : k < H.ents.length := by omega
                refine WC_elem (k := k) (.tail _ (.head _)) (List.getElem?_eq_getElem hk) (rsl_open _) fun b18 q18 y18 e18 => ?_
                cases e18
                refine WC_region ?_
                refine WL_q (q_move rfl) (by decide) ?_
                refine WL_q (q_idxRd Tryd.underlying102 ti29 rfl rfl (by omega) (by omega)) (by decide) ?_
                refine WL_q (q_loadF1 (j := 0) Tryd.underlying29 rfl rfl (.head _) rfl rfl) (by decide) ?_
                refine WL_q (q_assign rfl) (by decide) ?_
                refine WL_q (q_assign rfl) (by decide) ?_
                refine WL_nil ?_
                refine thenN ?_
                have hko : k < H.ops.length := by omega
                have hop := ops_at hke
                refine WC_elem (k := k) (.tail _ (.tail _ (.tail _ (.tail _ (.tail _ (.tail _ (.tail _ (.tail _ (.head _))))))))) (List.getElem?_eq_getElem hko) (op_open _) fun bo qo yo eo => ?_
                cases eo
                have hks : k < (setNow H.ents ls k).length := by rw [setNow_length]; exact hke
                have hsk : (setNow H.ents ls k)[k] = H.ents[k] := by have h1 := setNow_get H.ents ls k hke; rw [List.getElem?_eq_getElem hks] at h1; exact Option.some.inj h1
                obtain ⟨jm, xm, hjm, hxm, hgm⟩ := hI.1.look hks
                obtain ⟨xk, xb, xA, xc⟩ := xm
                simp only [hsk] at hxm hgm
                obtain rfl : xk = markAt k H.ents[k] := hxm
                rw [← hop, hI.2.1] at hgm
                refine WC_draw _ _ [17] [(0, 0), (1, 0), (2, 0), (3, 0), (4, 0), (5, 0), (6, 0), (7, 0), (8, 0), (9, 0), (10, 0), (11, 0), (12, 0), (13, 0), (14, 0), (15, 0), (16, 0), (17, 3)] mixed (fun _ _ _ _ h => h) (List.Sublist.cons_cons _ (List.Sublist.cons_cons _ (List.Sublist.cons _ (List.Sublist.cons_cons _ (List.Sublist.cons_cons _ (List.Sublist.cons_cons _ (List.Sublist.cons_cons _ (List.Sublist.refl _)))))))) (fun _ h => h) (by kernel_rfl) (by decide) fun ws Z0 => ?_
                refine WE_q rfl (q_move rfl) (by decide) ?_
                refine WE_q rfl (q_nil rfl) (by decide) ?_
                refine WE_q rfl (q_field (o' := 1) Tryd.underlying97 rfl ti95 rfl rfl) (by decide) ?_
                refine WE_q rfl (q_load1 Tryd.underlying95 rfl rfl own0 rfl) (by decide) ?_
                refine WE_q rfl (q_move rfl) (by decide) ?_
                refine WE_q rfl (q_nil rfl) (by decide) ?_
                refine WE_q rfl (q_field (o' := 0) Tryd.underlying97 rfl ti45 rfl rfl) (by decide) ?_
                refine WE_q rfl (q_load1 Tryd.underlying45 rfl rfl own0 rfl) (by decide) ?_
                refine WE_q rfl (q_move rfl) (by decide) ?_
                refine WE_q rfl (q_idxRd Tryd.underlying45 ti31 rfl rfl (by omega) (by omega)) (by decide) ?_
                refine WE_q rfl (q_field (o' := _ + 0) Tryd.underlying31 rfl ti28 rfl rfl) (by decide) ?_
                refine WE_q rfl (q_field (o' := _ + 0) Tryd.underlying28 rfl ti25 rfl rfl) (by decide) ?_
                refine WE_q rfl (q_loadFN (k := 0) (vs := [_, _]) Tryd.underlying25 rfl ti25 rfl (.head _) rfl rfl rfl) (by decide) ?_
                refine WE_q rfl (q_lookS keyT hgm Tryd.underlying95 ti99 rfl rfl (ownS (own0))) (by decide) ?_
                refine WE_q rfl (q_move rfl) (by decide) ?_
                refine WE_q rfl (q_nil rfl) (by decide) ?_
                refine WE_q rfl (q_field (o' := 1) Tryd.underlying101 rfl ti29 rfl rfl) (by decide) ?_
                refine WE_end (WF_last rfl rfl (OW_storeP (i := jm) ti29 rfl rfl rfl (mkP_get hjm) (.s (.z)) (.s (.s (.z))) ?_))
                refine WF_nil ?_
                refine blockN ?_
                refine thenN ?_
                have hmk : (mkP Lk).set jm (xb, cellsO [.int .i64 (markAt k H.ents[k]).num, .slice y18.1 ls[k].length y18.2, .bool (markAt k H.ents[k]).off] 101) = mkP (Lk.set jm ⟨markAt k ⟨H.ents[k].op, ls[k], H.ents[k].off⟩, xb, y18.1, y18.2⟩) := by rw [mkP_set]; rfl
                rw [hmk]
                refine WC_fact (A := AllF (Lk.set jm ⟨markAt k ⟨H.ents[k].op, ls[k], H.ents[k].off⟩, xb, y18.1, y18.2⟩) nowF) (fun Z w hs => now_set (hs.facts _ (.tail _ (.tail _ (.tail _ (.tail _ (.tail _ (.head _))))))) (hs.facts _ (.tail _ (.tail _ (.tail _ (.tail _ (.head _))))))) ?_
                refine WC_region ?_
                refine WL_q (q_add rfl rfl (wr64 (by omega))) (by decide) ?_
                refine WL_q (q_move rfl) (by decide) ?_
                refine WL_nil ?_
                refine thenK ?_
                refine ⟨(k + 1, Lk.set jm ⟨markAt k ⟨H.ents[k].op, ls[k], H.ents[k].off⟩, xb, y18.1, y18.2⟩), ?_, (.cons rfl (.cons rfl (.cons rfl (.cons rfl (.cons rfl (.cons rfl (.cons rfl (.cons rfl (.cons rfl (.cons rfl (.nil _))))))))))), (List.Sublist.cons_cons _ (List.Sublist.cons_cons _ (List.Sublist.cons_cons _ (List.Sublist.cons_cons _ (List.Sublist.cons_cons _ (List.Sublist.cons_cons _ (List.Sublist.cons_cons _ (List.Sublist.refl _)))))))), (memc (.head _) (fun _ h => .tail _ (.tail _ (.tail _ (.tail _ (.tail _ (.tail _ (.tail _ h))))))))⟩
                refine ⟨by show ls.length - (k + 1) < ls.length - k; omega, ?_, (keys_set (y := ⟨markAt k ⟨H.ents[k].op, ls[k], H.ents[k].off⟩, xb, y18.1, y18.2⟩) hjm rfl rfl rfl).trans hI.2.1, by show k + 1 ≤ ls.length; omega⟩
                rw [setNow_succ _ _ _ hke hk]
                exact hI.1.upd hks hjm (by simp only [hsk]) ⟨H.ents[k].op, ls[k], H.ents[k].off⟩ (by simp only [hsk]) (by have := movedAll_le hmv _ (List.getElem_mem hk); show ls[k].length ≤ _; omega) _ _
              · refine WC_exit ?_
                refine thenExit ?_
                refine thenExit ?_
                refine blockHit ?_
                refine thenN ?_
                try simp only [decide_eq_true_eq, decide_eq_false_iff_not, beq_iff_eq, bne_iff_ne, beq_eq_false_iff_ne, ne_eq, Bool.and_eq_true, Bool.not_eq_true', Bool.not_eq_false', Bool.not_eq_true, Bool.not_eq_false, bne_eq_false_iff_eq, Bool.and_eq_false_iff] at *
                refine WC_pick (.s (.s (.z))) ?_
                refine WC_pick (.s (.s (.z))) ?_
                refine WC_pick (.s (.s (.z))) ?_
                refine WC_pick (.s (.s (.s (.s (.s (.s (.z))))))) ?_
                refine WC_pick (.s (.s (.s (.s (.s (.s (.z))))))) ?_
                refine WC_pick (.s (.s (.s (.s (.s (.s (.z))))))) ?_
                refine WC_pick (.s (.s (.s (.s (.s (.s (.z))))))) ?_
                refine WC_draw _ _ [12] [(0, 0), (1, 0), (2, 0), (3, 0), (4, 0), (5, 0), (6, 2), (7, 0), (8, 0), (9, 2), (10, 0), (11, 0), (12, 3)] mixed (fun _ _ _ _ h => h) (List.Sublist.cons_cons _ (List.Sublist.cons_cons _ (List.Sublist.cons_cons _ (List.Sublist.cons_cons _ (List.Sublist.cons_cons _ (List.Sublist.cons_cons _ (List.Sublist.cons_cons _ (List.Sublist.refl _)))))))) (fun _ h => h) (by kernel_rfl) (by decide) fun ws Z0 => ?_
                refine WE_q rfl (q_move rfl) (by decide) ?_
                refine WE_q rfl (q_field (o' := 3) Tryd.underlying31 rfl ti3 rfl rfl) (by decide) ?_
                refine WE_q rfl (q_load1 Tryd.underlying3 rfl rfl own0 rfl) (by decide) ?_
                refine WE_q rfl (q_field (o' := 3) Tryd.underlying31 rfl ti3 rfl rfl) (by decide) ?_
                refine WE_q rfl (q_load1 Tryd.underlying3 rfl rfl own0 rfl) (by decide) ?_
                refine WE_q rfl (q_loadN (vs := [_, _, _, _, _, _, _, _, _]) Tryd.underlying31 rfl ti31 rfl (ownS (ownS (ownS (own0)))) rfl rfl) (by decide) ?_
                refine WE_main rfl rfl (OW_call0 (width_s o A1 c1 (by have := ho.text; omega)) (.cons rfl (.nil)) (by decide) (memc (.tail _ (.tail _ (.tail _ (.tail _ (.tail _ (.tail _ (.head _))))))) mem0) fun u21_6 Lo fs hres => ?_)
                obtain ⟨rfl, rfl, rfl⟩ := hres
                refine ⟨⟨(List.Sublist.cons_cons _ (List.Sublist.cons_cons _ (List.Sublist.cons_cons _ (List.Sublist.cons_cons _ (List.Sublist.cons_cons _ (List.Sublist.cons_cons _ (List.Sublist.cons_cons _ (List.Sublist.refl _)))))))), (.head _)⟩, ?_⟩
                refine WE_q rfl (q_add rfl rfl (show IntKind.i64.wrap (td.at_ + widthF o) = td.at_ + widthF o from wr64 (by have := htf.lo; have := htf.hi; have := widthF_le o; omega))) (by decide) ?_
                refine WE_q rfl (q_build (.cons rfl (.cons rfl (.nil))) (bd37_0_1Xw18 _ _)) (by decide) ?_
                refine WE_main rfl rfl (OW_slice1 (cs := [_, _]) Tryd.underlying29 ti37 (by decide) (by decide) rfl rfl rfl rfl (by decide) fun b114 => ?_)
                refine ⟨⟨(List.Sublist.cons _ (List.Sublist.cons_cons _ (List.Sublist.cons_cons _ (List.Sublist.cons_cons _ (List.Sublist.cons_cons _ (List.Sublist.cons_cons _ (List.Sublist.cons_cons _ (List.Sublist.cons_cons _ (List.Sublist.refl _))))))))), (.head _)⟩, ?_⟩
                refine WE_q rfl (q_nil rfl) (by decide) ?_
                refine WE_q rfl (q_field (o' := 1) Tryd.underlying101 rfl ti29 rfl rfl) (by decide) ?_
                refine WE_freeze1 (e := rgD) (u := ⟨td.at_, td.at_ + widthF o⟩) (.z) (fun Z w hs => rfl) ?_
                refine WE_end (WF_last rfl rfl (OW_store1 ti29 rfl rfl rfl (.s (.z)) (.s (.z)) ?_))
                refine WF_nil ?_
                refine blockN ?_
                refine thenK ?_
                refine ⟨(setNow H.ents ls H.ents.length, Lk, [⟨td.at_, td.at_ + widthF o⟩], some ⟨b114, 0, none⟩, 1, { effF o with at_ := td.at_, text := o.text }, none, 0), ?_, (.cons rfl (.cons rfl (.cons rfl (.cons rfl (.cons rfl (.cons rfl (.cons rfl (.nil _)))))))), (List.Sublist.cons_cons _ (List.Sublist.cons_cons _ (List.Sublist.cons_cons _ (List.Sublist.cons_cons _ (List.Sublist.cons_cons _ (List.Sublist.cons_cons _ (List.Sublist.cons_cons _ (List.Sublist.refl _)))))))), (memc (.tail _ (.tail _ (.tail _ (.tail _ (.tail _ (.tail _ (.head _))))))) (memc (.head _) (memc (.tail _ (.tail _ (.head _))) (fun _ h => .tail _ (.tail _ (.tail _ (.tail _ h)))))))⟩
                have hkk : k = ls.length := by have := hI.2.2; omega
                subst hkk
                refine ⟨by rw [← hlsl]; exact hI.1, hI.2.1, ?_, setNow_ops _ _ _, by show (1 : Nat) ≤ _; omega⟩
                unfold midF
                rw [if_pos h57, hmv]
        · refine WC_seq ?_
          refine WC_region ?_
          refine WL_q (q_eql rfl rfl) (by decide) ?_
          refine WL_q (q_assign rfl) (by decide) ?_
          refine WL_nil ?_
          refine thenN ?_
          refine WC_cond rfl (fun h117 => ?_) (fun h117 => ?_)
          · refine WC_seq ?_
            refine WC_elem (k := 0) (.head _) rfl (op_open _) fun b23 q23 y23 e23 => ?_
            cases e23
            refine WC_region ?_
            refine WL_q (q_move rfl) (by decide) ?_
            refine WL_q (q_idxRd Tryd.underlying45 ti31 rfl rfl (by decide) (by simp)) (by decide) ?_
            refine WL_q (q_field (o' := _ + 5) Tryd.underlying31 rfl ti29 rfl rfl) (by decide) ?_
            refine WL_q (q_loadF1 (j := 5) Tryd.underlying29 rfl rfl (.head _) rfl rfl) (by decide) ?_
            refine WL_q (q_field (o' := 5) Tryd.underlying31 rfl ti29 rfl rfl) (by decide) ?_
            refine WL_main rfl (OW_store1 ti29 rfl rfl rfl (.s (.s (.s (.s (.s (.z)))))) (.z) ?_)
            refine WL_nil ?_
            refine thenN ?_
            refine WC_fr [(13, _), (12, _), (10, _), (7, _), (6, _), (5, _), (0, _), (1, _)] (.cons rfl (.cons rfl (.cons rfl (.cons rfl (.cons rfl (.cons rfl (.cons rfl (.cons rfl (.nil _))))))))) ?_
            refine WC_pick (.s (.s (.s (.s (.z))))) ?_
            refine WC_pick (.s (.s (.s (.s (.z))))) ?_
            refine WC_pick (.s (.s (.s (.s (.z))))) ?_
            refine WC_pick (.s (.s (.s (.s (.s (.s (.z))))))) ?_
            refine WC_pick (.s (.s (.s (.s (.s (.s (.z))))))) ?_
            refine WC_pick (.s (.s (.s (.s (.s (.s (.z))))))) ?_
            refine WC_pick (.s (.s (.s (.s (.s (.s (.z))))))) ?_
            refine WC_region ?_
            refine WL_q (q_move rfl) (by decide) ?_
            refine WL_q (q_loadN (vs := [_, _, _, _, _, _, _, _, _]) Tryd.underlying31 rfl ti31 rfl own0 rfl rfl) (by decide) ?_
            refine WL_main rfl (OW_call0 (clone_s { effF o with rs := td.rs } y23.1 y23.2 htf.rs) (.cons rfl (.nil)) (by decide) (memc (.tail _ (.head _)) mem0) fun u24_2 Lo fs hres => ?_)
            obtain ⟨A5, c5, rfl, rfl, rfl⟩ := hres
            refine WL_q (q_part rfl (fd31_3Xw18 _ _ _ _ _ _ _ _ _ _ _)) (by decide) ?_
            refine WL_q (q_nil rfl) (by decide) ?_
            refine WL_q (q_field (o' := 1) Tryd.underlying101 rfl ti29 rfl rfl) (by decide) ?_
            refine WL_main rfl (OW_store1 ti29 rfl rfl rfl (.s (.z)) (.s (.z)) ?_)
            refine WL_nil ?_
            refine blockN ?_
            refine thenK ?_
            refine ⟨(H.ents, L, td.rs, A5, c5, { effF o with rs := td.rs }, y23.1, y23.2), ?_, (.cons rfl (.cons rfl (.cons rfl (.cons rfl (.cons rfl (.cons rfl (.cons rfl (.nil _)))))))), (List.Sublist.cons_cons _ (List.Sublist.cons_cons _ (List.Sublist.cons_cons _ (List.Sublist.cons_cons _ (List.Sublist.cons_cons _ (List.Sublist.cons_cons _ (List.Sublist.cons_cons _ (List.Sublist.refl _)))))))), (memc (.tail _ (.tail _ (.head _))) (memc (.head _) (memc (.tail _ (.tail _ (.tail _ (.tail _ (.tail _ (.tail _ (.tail _ (.tail _ (.tail _ (.tail _ (.tail _ (.tail _ (.head _))))))))))))) (memc (.tail _ (.tail _ (.tail _ (.tail _ (.head _))))) (fun _ h => .tail _ (.tail _ (.tail _ (.tail _ (.tail _ (.tail _ (.tail _ (.tail _ h))))))))))))⟩
            try simp only [decide_eq_true_eq, decide_eq_false_iff_not, beq_iff_eq, bne_iff_ne, beq_eq_false_iff_ne, ne_eq, Bool.and_eq_true, Bool.not_eq_true', Bool.not_eq_false', Bool.not_eq_true, Bool.not_eq_false, bne_eq_false_iff_eq, Bool.and_eq_false_iff] at *
            refine ⟨hr, rfl, ?_, rfl, htf.rs⟩
            unfold midF
            rw [if_neg h57, if_pos h117]
          · refine WC_seq ?_
            refine WC_region ?_
            refine WL_q (q_eql rfl rfl) (by decide) ?_
            refine WL_q (q_assign rfl) (by decide) ?_
            refine WL_nil ?_
            refine thenN ?_
            refine WC_fr [(130, _), (13, _), (12, _), (10, _), (7, _), (6, _), (5, _), (0, _), (1, _)] (.cons rfl (.cons rfl (.cons rfl (.cons rfl (.cons rfl (.cons rfl (.cons rfl (.cons rfl (.cons rfl (.nil _)))))))))) ?_
            refine WC_cond rfl (fun h130 => ?_) (fun h130 => ?_)
            · try simp only [decide_eq_true_eq, decide_eq_false_iff_not, beq_iff_eq, bne_iff_ne, beq_eq_false_iff_ne, ne_eq, Bool.and_eq_true, Bool.not_eq_true', Bool.not_eq_false', Bool.not_eq_true, Bool.not_eq_false, bne_eq_false_iff_eq, Bool.and_eq_false_iff] at *
              obtain ⟨kt, hkt⟩ := htgt h130
              refine WC_region ?_
              refine WL_q (q_move rfl) (by decide) ?_
              refine WL_q (q_move rfl) (by decide) ?_
              refine WL_q (q_loadN (vs := [_, _, _, _, _, _, _, _, _]) Tryd.underlying31 rfl ti31 rfl (ownS (ownS (ownS (ownS (ownS (ownS (own0))))))) rfl rfl) (by decide) ?_
              refine WL_main rfl (OW_call3 (turned_s h m cap A H L hr i hil o A1 c1 kt hkt) (.cons rfl (.cons rfl (.cons rfl (.nil)))) (by decide) (.s (.s (.z))) (.s (.s (.z))) (.s (.s (.z))) (memc (.tail _ (.tail _ (.tail _ (.tail _ (.tail _ (.tail _ (.tail _ (.tail _ (.head _))))))))) (memc (.tail _ (.tail _ (.tail _ (.tail _ (.tail _ (.tail _ (.tail _ (.tail _ (.tail _ (.head _)))))))))) mem0)) fun u26_3 Lo fs hres => ?_)
              obtain ⟨L2, A4, c4, hr2, hk2, rfl, rfl, rfl⟩ := hres
              refine WL_pick (.s (.s (.z))) ?_
              refine WL_pick (.s (.s (.z))) ?_
              refine WL_pick (.s (.s (.z))) ?_
              refine WL_pick (.s (.s (.s (.s (.s (.s (.z))))))) ?_
              refine WL_pick (.s (.s (.s (.s (.s (.s (.z))))))) ?_
              refine WL_pick (.s (.s (.s (.s (.s (.s (.z))))))) ?_
              refine WL_pick (.s (.s (.s (.s (.s (.s (.z))))))) ?_
              refine WL_main rfl (OW_storeN (cs' := [_, _, _, _, _, _, _, _, _]) (vs := [_, _, _, _, _, _, _, _, _]) ti31 rfl rfl rfl rfl rfl (Nat.le_of_ble_eq_true rfl) (.z) ?_)
              refine WL_nil ?_
              refine blockN ?_
              refine thenK ?_
              refine ⟨((turnedF H i o).1, L2, [], none, 0, (turnedF H i o).2, A4, c4), ?_, (.cons rfl (.cons rfl (.cons rfl (.cons rfl (.cons rfl (.cons rfl (.cons rfl (.nil _)))))))), (List.Sublist.cons_cons _ (List.Sublist.cons_cons _ (List.Sublist.cons_cons _ (List.Sublist.cons_cons _ (List.Sublist.cons_cons _ (List.Sublist.cons_cons _ (List.Sublist.cons_cons _ (List.Sublist.refl _)))))))), (memc (.head _) (memc (.tail _ (.tail _ (.tail _ (.tail _ (.tail _ (.tail _ (.tail _ (.tail _ (.head _))))))))) (memc (.tail _ (.head _)) (memc (.tail _ (.tail _ (.tail _ (.head _)))) (fun _ h => .tail _ (.tail _ (.tail _ (.tail _ (.tail _ (.tail _ (.tail _ h)))))))))))⟩
              refine ⟨hr2, hk2, ?_, turned_ops H i o, by show (0 : Nat) ≤ _; omega⟩
              unfold midF
              rw [if_neg h57, if_neg h117, if_pos h130]
            · try simp only [decide_eq_true_eq, decide_eq_false_iff_not, beq_iff_eq, bne_iff_ne, beq_eq_false_iff_ne, ne_eq, Bool.and_eq_true, Bool.not_eq_true', Bool.not_eq_false', Bool.not_eq_true, Bool.not_eq_false, bne_eq_false_iff_eq, Bool.and_eq_false_iff] at *
              exfalso
              omega
      · rintro ⟨es, L1, nw, An, cn, eff, Ae, ce⟩ hM
        refine WC_seq ?_
        refine WC_draw _ _ [9] [(0, 0), (1, 0), (2, 0), (3, 0), (4, 0), (5, 2), (6, 0), (7, 0), (8, 0), (9, 3)] mixed (fun _ _ _ _ h => h) (List.Sublist.cons_cons _ (List.Sublist.cons_cons _ (List.Sublist.cons_cons _ (List.Sublist.cons_cons _ (List.Sublist.cons_cons _ (List.Sublist.cons_cons _ (List.Sublist.cons_cons _ (List.Sublist.refl _)))))))) (fun _ h => h) (by kernel_rfl) (by decide) fun ws Z0 => ?_
        refine WE_q rfl (q_move rfl) (by decide) ?_
        refine WE_q rfl (q_nil rfl) (by decide) ?_
        refine WE_q rfl (q_field (o' := 2) Tryd.underlying97 rfl ti3 rfl rfl) (by decide) ?_
        refine WE_q rfl (q_load1 Tryd.underlying3 rfl rfl (ownS (ownS (ownS (ownS (own0))))) rfl) (by decide) ?_
        refine WE_q rfl (q_loadN (vs := [_, _, _, _, _, _, _, _, _]) Tryd.underlying31 rfl ti31 rfl (ownS (ownS (ownS (own0)))) rfl rfl) (by decide) ?_
        refine WE_main rfl rfl (OW_call0 (width_s o A1 c1 (by have := ho.text; omega)) (.cons rfl (.nil)) (by decide) (memc (.tail _ (.tail _ (.tail _ (.tail _ (.tail _ (.tail _ (.tail _ (.head _)))))))) mem0) fun u27_5 Lo fs hres => ?_)
        obtain ⟨rfl, rfl, rfl⟩ := hres
        refine ⟨⟨(List.Sublist.cons_cons _ (List.Sublist.cons_cons _ (List.Sublist.cons_cons _ (List.Sublist.cons_cons _ (List.Sublist.cons_cons _ (List.Sublist.cons_cons _ (List.Sublist.cons_cons _ (List.Sublist.refl _)))))))), (.head _)⟩, ?_⟩
        refine WE_q rfl (q_add rfl rfl (wr64 (by have := hr.tot; have := widthF_le o; omega))) (by decide) ?_
        refine WE_q rfl (q_nil rfl) (by decide) ?_
        refine WE_q rfl (q_field (o' := 2) Tryd.underlying97 rfl ti3 rfl rfl) (by decide) ?_
        refine WE_end (WF_last rfl rfl (OW_store1 ti3 rfl rfl rfl (.s (.s (.z))) (.s (.s (.s (.s (.z))))) ?_))
        refine WF_nil ?_
        refine thenN ?_
        refine WC_seq ?_
        refine WC_draw _ _ [8] [(0, 0), (1, 0), (2, 0), (3, 0), (4, 0), (5, 0), (6, 0), (7, 0), (8, 3)] mixed (fun _ _ _ _ h => h) (List.Sublist.cons_cons _ (List.Sublist.cons_cons _ (List.Sublist.cons_cons _ (List.Sublist.cons_cons _ (List.Sublist.cons_cons _ (List.Sublist.cons _ (List.Sublist.cons_cons _ (List.Sublist.refl _)))))))) (fun _ h => h) (by kernel_rfl) (by decide) fun ws Z0 => ?_
        refine WE_q rfl (q_move rfl) (by decide) ?_
        refine WE_q rfl (q_nil rfl) (by decide) ?_
        refine WE_q rfl (q_field (o' := 1) Tryd.underlying97 rfl ti95 rfl rfl) (by decide) ?_
        refine WE_q rfl (q_load1 Tryd.underlying95 rfl rfl (ownS (ownS (ownS (ownS (own0))))) rfl) (by decide) ?_
        refine WE_q rfl (q_field (o' := 0) Tryd.underlying31 rfl ti28 rfl rfl) (by decide) ?_
        refine WE_q rfl (q_field (o' := 0) Tryd.underlying28 rfl ti25 rfl rfl) (by decide) ?_
        refine WE_q rfl (q_loadN (vs := [_, _]) Tryd.underlying25 rfl ti25 rfl (ownS (ownS (ownS (own0)))) rfl rfl) (by decide) ?_
        refine WE_q rfl (q_move rfl) (by decide) ?_
        refine WE_end (WF_last rfl rfl (OW_mapNew keyT Tryd.underlying95 rfl rfl rfl (hr.look0 hw0) (.s (.s (.s (.s (.s (.z)))))) ?_))
        refine WF_nil ?_
        refine thenN ?_
        refine WC_fr [(0, _), (1, _), (5, _), (6, _), (10, _), (13, _)] (.cons rfl (.cons rfl (.cons rfl (.cons rfl (.cons rfl (.cons rfl (.nil _))))))) ?_
        refine WC_seq ?_
        obtain ⟨xs, hxs⟩ : ∃ xs, xs = H.ops.take i := ⟨_, rfl⟩
        have hxl : xs.length = i := by rw [hxs, List.length_take]; omega
        obtain ⟨B2, hB2⟩ : ∃ B, B = cutA A 0 i 9 := ⟨_, rfl⟩
        refine WC_fact (A := RdF opD B2 xs.length xs) (fun Z w hs => by rw [hB2, hxl, hxs]; exact RdS.cut (lo := 0) (hi := i) (m := i) (hs.facts _ (.tail _ (.tail _ (.tail _ (.tail _ (.tail _ (.tail _ (.tail _ (.tail _ (.tail _ (.head _))))))))))) (Nat.zero_le _) (by omega) (Nat.le_refl _) (by omega)) ?_
        refine WC_draw _ _ [15] [(0, 0), (1, 0), (2, 0), (3, 0), (4, 0), (5, 0), (6, 0), (7, 0), (8, 0), (11, 0), (9, 2), (10, 2), (12, 2), (13, 0), (14, 0), (15, 3)] mixed (fun _ _ _ _ h => h) (List.Sublist.cons_cons _ (List.Sublist.cons_cons _ (List.Sublist.cons_cons _ (List.Sublist.cons_cons _ (List.Sublist.cons_cons _ (List.Sublist.cons_cons _ (List.Sublist.cons_cons _ (List.Sublist.refl _)))))))) (fun _ h => h) (by kernel_rfl) (by decide) fun ws Z0 => ?_
        refine WE_q rfl (q_move rfl) (by decide) ?_
        refine WE_q rfl (q_move rfl) (by decide) ?_
        refine WE_q rfl (q_nil rfl) (by decide) ?_
        refine WE_q rfl (q_field (o' := 0) Tryd.underlying97 rfl ti45 rfl rfl) (by decide) ?_
        refine WE_q rfl (q_load1 Tryd.underlying45 rfl rfl (ownS (ownS (ownS (ownS (own0))))) rfl) (by decide) ?_
        refine WE_q rfl (q_move rfl) (by decide) ?_
        refine WE_q rfl (q_move rfl) (by decide) ?_
        refine WE_q rfl (q_cutHiMax Tryd.underlying45 ti31 rfl rfl rfl (by omega) (by omega) (by omega)) (by decide) ?_
        refine WE_q rfl (q_loadN (vs := [_, _, _, _, _, _, _, _, _]) Tryd.underlying31 rfl ti31 rfl (ownS (ownS (ownS (own0)))) rfl rfl) (by decide) ?_
        refine WE_q rfl (q_move rfl) (by decide) ?_
        refine WE_main rfl rfl (OW_slice1 (cs := [_, _, _, _, _, _, _, _, _]) Tryd.underlying45 ti31 (by decide) (by decide) rfl rfl rfl rfl (by decide) fun b162 => ?_)
        refine ⟨⟨(List.Sublist.cons _ (List.Sublist.cons_cons _ (List.Sublist.cons_cons _ (List.Sublist.cons_cons _ (List.Sublist.cons_cons _ (List.Sublist.cons_cons _ (List.Sublist.cons_cons _ (List.Sublist.cons_cons _ (List.Sublist.refl _))))))))), (.head _)⟩, ?_⟩
        refine WE_main rfl rfl (OW_appendF (e := opD) (xs := xs) (news := opC o A1 c1) Tryd.underlying45 ti31 rfl (by decide) (by rw [hB2, hxl]; rfl) rfl (.tail _ (.head _)) own0 rfl rfl (by omega) (by unfold maxLen; omega) (by decide) fun v163 p163 css163 hr163 => ?_)
        refine ⟨⟨(List.Sublist.cons _ (List.Sublist.cons _ (List.Sublist.cons_cons _ (List.Sublist.cons_cons _ (List.Sublist.cons_cons _ (List.Sublist.cons_cons _ (List.Sublist.cons_cons _ (List.Sublist.cons_cons _ (List.Sublist.cons_cons _ (List.Sublist.refl _)))))))))), (.tail _ (.head _))⟩, ?_⟩
        refine WE_main rfl rfl (OW_appendS (e := opD) (ys := later) Tryd.underlying45 ti31 rfl (by decide) rfl rfl hr163 (.tail _ (.tail _ (.tail _ (.tail _ (.tail _ (.tail _ (.tail _ (.tail _ (.head _))))))))) (by omega) (by unfold maxLen; omega) (by decide) (DelAt.perm (.z)) fun v165 p165 css165 hr165 => ?_)
        refine ⟨⟨(List.Sublist.cons _ (List.Sublist.cons _ (List.Sublist.cons_cons _ (List.Sublist.cons_cons _ (List.Sublist.cons_cons _ (List.Sublist.cons_cons _ (List.Sublist.cons_cons _ (List.Sublist.cons_cons _ (List.Sublist.cons_cons _ (List.Sublist.refl _)))))))))), (.tail _ (.tail _ (.head _)))⟩, ?_⟩
        refine WE_q rfl (q_nil rfl) (by decide) ?_
        refine WE_q rfl (q_field (o' := 0) Tryd.underlying97 rfl ti45 rfl rfl) (by decide) ?_
        refine WE_fact (A := RepsF opD (xs ++ ([o] ++ later)) (css163 ++ ([opC o A1 c1] ++ css165))) (fun Z w hs => Reps.append (hs.facts _ (.tail _ (.head _))) (Reps.append (.cons ⟨A1, c1, rfl, hs.facts _ (.tail _ (.tail _ (.tail _ (.tail _ (.tail _ (.tail _ (.tail _ (.tail _ (.tail _ (.tail _ (.head _)))))))))))⟩ .nil) (hs.facts _ (.head _)))) ?_
        refine WE_freeze (e := opD) (css := css163 ++ ([opC o A1 c1] ++ css165)) (xs := xs ++ ([o] ++ later)) (by have h1 := hr165; simp only [List.flatten_append, List.flatten_cons, List.flatten_nil, List.append_nil, List.nil_append, List.append_assoc] at h1 ⊢; exact h1) (.z) (by simp only [List.length_append, List.length_cons, List.length_nil]; omega) (.head _) fun A9 c9 e9 => ?_
        subst e9
        refine WE_end (WF_last rfl rfl (OW_store1 ti45 rfl rfl rfl (.z) (.s (.s (.s (.s (.s (.z)))))) ?_))
        refine WF_nil ?_
        refine thenN ?_
        refine WC_fr [(0, _), (1, _), (6, _), (13, _)] (.cons rfl (.cons rfl (.cons rfl (.cons rfl (.nil _))))) ?_
        refine WC_seq ?_
        refine WC_seq ?_
        refine WC_pick (.s (.s (.s (.s (.s (.s (.s (.z)))))))) ?_
        refine WC_pick (.s (.s (.s (.z)))) ?_
        refine WC_glue ?_
        have hglue : mkP L1 ++ [(b48, cellsO [.int .i64 i, .slice An nw.length cn, .bool false] 101)] = mkP (L1 ++ [⟨markAt i ⟨o, nw, false⟩, b48, An, cn⟩]) := by simp [mkP, mrO, markAt]
        rw [hglue]
        refine WC_fact (A := AllF (L1 ++ [⟨markAt i ⟨o, nw, false⟩, b48, An, cn⟩]) nowF) (fun Z w hs x hx => by rcases List.mem_append.1 hx with hx | hx; exact hs.facts _ (.tail _ (.tail _ (.tail _ (.tail _ (.tail _ (.tail _ (.tail _ (.tail _ (.tail _ (.tail _ (.head _))))))))))) x hx; obtain rfl := List.mem_singleton.1 hx; exact hs.facts _ (.tail _ (.tail _ (.tail _ (.tail _ (.tail _ (.tail _ (.tail _ (.tail _ (.tail _ (.head _))))))))))) ?_
        have hesl : es.length = H.ents.length := hM.len
        have hsl2 : Sames ((es.drop i).map (·.op)) later := by rw [List.map_drop, hM.ops]; exact hsl
        have hwn : whereId es o.c o.n = none := whereId_ops hM.ops hw0
        obtain ⟨FF, hFF⟩ : ∃ F, F = newEnts i o nw es later := ⟨_, rfl⟩
        obtain ⟨G, hG⟩ : ∃ G, G = xs ++ ([o] ++ later) := ⟨_, rfl⟩
        have hGF : FF.map (·.op) = G := by rw [hFF, newEnts_ops hsl2, hM.ops, hG, hxs]
        have hGl : G.length = FF.length := by rw [← hGF, List.length_map]
        have hFl : FF.length = H.ents.length + 1 := by rw [hFF, newEnts_length hsl2 (by omega)]; omega
        have hstart := HN.start hM.hr (by simpa using (by omega : i ≤ es.length)) hsl2 hwn (o := o) (nw := nw) b48 An cn
        rw [← hFF] at hstart
        rw [← hG]
        refine WC_region ?_
        refine WL_q (q_move rfl) (by decide) ?_
        refine WL_q (q_assign rfl) (by decide) ?_
        refine WL_nil ?_
        refine thenN ?_
        refine WC_block ?_
        refine WC_pick (.s (.s (.s (.z)))) ?_
        refine WC_pick (.s (.s (.s (.z)))) ?_
        refine WC_pick (.s (.s (.s (.s (.s (.s (.z))))))) ?_
        refine WC_pick (.s (.s (.s (.s (.s (.s (.z))))))) ?_
        refine WC_pick (.s (.s (.s (.s (.z))))) ?_
        refine WC_loopE (α := Nat × List MR) (fun (k, Lk) => FF.length - k)
          (fun (k, Lk) => [(0, .pointer (some ⟨h, 0, none⟩)), (6, .pointer (some ⟨b6, 0, none⟩)), (13, .pointer (some ⟨b13, 0, none⟩)), (18, .int .i64 k)])
          (fun (k, Lk) => (mkP Lk :: hdP h A9 G.length c9 m (H.total + widthF o) :: [(m, mapO (keys L ++ [⟨o.c, o.n, b48⟩]))] :: [(b13, cellsO (opC eff Ae ce) 31)] :: [(b6, cellsO (opC zeroOp none 0) 31)] :: Ps))
          (fun (k, Lk) => (AllF Lk nowF :: RdF opD A9 c9 G :: RdF rgD Ae ce eff.rs :: barF :: RdF opD A cap H.ops :: AllF L nowF :: RdF rgD Ao co o.rs :: As))
          (fun (k, Lk) => k ≤ FF.length ∧ HN FF Lk (numF i k) ∧ keys Lk = keys L ++ [⟨o.c, o.n, b48⟩])
          (i, L1 ++ [⟨markAt i ⟨o, nw, false⟩, b48, An, cn⟩]) ?_ (.cons rfl (.cons rfl (.cons rfl (.cons rfl (.nil _))))) (List.Sublist.cons_cons _ (List.Sublist.cons_cons _ (List.Sublist.cons_cons _ (List.Sublist.cons_cons _ (List.Sublist.cons_cons _ (List.Sublist.cons _ (List.Sublist.cons _ (List.Sublist.refl _)))))))) (memc (.head _) (memc (.tail _ (.head _)) (memc (.tail _ (.tail _ (.tail _ (.tail _ (.tail _ (.tail _ (.tail _ (.tail _ (.tail _ (.head _)))))))))) (fun _ h => .tail _ (.tail _ (.tail _ (.tail _ (.tail _ (.tail _ (.tail _ (.tail _ (.tail _ (.tail _ (.tail _ (.tail _ (.tail _ (.tail _ (.tail _ h)))))))))))))))))) ?_
        · exact ⟨by omega, hstart, by unfold keys; rw [List.map_append]; show Go.Proofs.YtggdddkbhigjoaaDoor.keys L1 ++ _ = _; rw [show Go.Proofs.YtggdddkbhigjoaaDoor.keys L1 = keys L from hM.keys]; rfl⟩
        · rintro ⟨k, Lk⟩ hI
          have hkF : k ≤ FF.length := hI.1
          refine WC_seq ?_
          refine WC_seq ?_
          refine WC_region ?_
          refine WL_q (q_move rfl) (by decide) ?_
          refine WL_q (q_move rfl) (by decide) ?_
          refine WL_q (q_nil rfl) (by decide) ?_
          refine WL_q (q_field (o' := 0) Tryd.underlying97 rfl ti45 rfl rfl) (by decide) ?_
          refine WL_q (q_load1 Tryd.underlying45 rfl rfl (ownS (own0)) rfl) (by decide) ?_
          refine WL_q (q_len Tryd.underlying45 rfl) (by decide) ?_
          refine WL_q (q_lss rfl rfl) (by decide) ?_
          refine WL_nil ?_
          refine thenN ?_
          refine WC_cond rfl (fun h175 => ?_) (fun h175 => ?_)
          · refine WC_skip ?_
            refine thenN ?_
            refine WC_seq ?_
            refine WC_block ?_
            try simp only [decide_eq_true_eq, decide_eq_false_iff_not, beq_iff_eq, bne_iff_ne, beq_eq_false_iff_ne, ne_eq, Bool.and_eq_true, Bool.not_eq_true', Bool.not_eq_false', Bool.not_eq_true, Bool.not_eq_false, bne_eq_false_iff_eq, Bool.and_eq_false_iff] at *
            have hk : k < FF.length := by omega
            have hko : k < G.length := by omega
            have hop : G[k] = FF[k].op := by simp only [← hGF, List.getElem_map]
            refine WC_elem (k := k) (.tail _ (.head _)) (List.getElem?_eq_getElem hko) (op_open _) fun bo qo yo eo => ?_
            cases eo
            obtain ⟨jm, xm, hjm, hxm, hgm⟩ := hI.2.1.look hk
            obtain ⟨xk, xb, xA, xc⟩ := xm
            obtain rfl : xk = markAt (numF i k k) FF[k] := hxm
            rw [← hop, hI.2.2] at hgm
            refine WC_draw _ _ [17] [(0, 0), (1, 0), (2, 0), (3, 0), (4, 0), (5, 0), (6, 0), (7, 0), (8, 0), (9, 0), (10, 0), (11, 0), (12, 0), (13, 0), (14, 0), (15, 0), (16, 0), (17, 3)] mixed (fun _ _ _ _ h => h) (List.Sublist.cons _ (List.Sublist.cons_cons _ (List.Sublist.cons_cons _ (List.Sublist.cons_cons _ (List.Sublist.cons_cons _ (List.Sublist.refl _)))))) (fun _ h => h) (by kernel_rfl) (by decide) fun ws Z0 => ?_
            refine WE_q rfl (q_move rfl) (by decide) ?_
            refine WE_q rfl (q_nil rfl) (by decide) ?_
            refine WE_q rfl (q_field (o' := 1) Tryd.underlying97 rfl ti95 rfl rfl) (by decide) ?_
            refine WE_q rfl (q_load1 Tryd.underlying95 rfl rfl own0 rfl) (by decide) ?_
            refine WE_q rfl (q_move rfl) (by decide) ?_
            refine WE_q rfl (q_nil rfl) (by decide) ?_
            refine WE_q rfl (q_field (o' := 0) Tryd.underlying97 rfl ti45 rfl rfl) (by decide) ?_
            refine WE_q rfl (q_load1 Tryd.underlying45 rfl rfl own0 rfl) (by decide) ?_
            refine WE_q rfl (q_move rfl) (by decide) ?_
            refine WE_q rfl (q_idxRd Tryd.underlying45 ti31 rfl rfl (by omega) (by omega)) (by decide) ?_
            refine WE_q rfl (q_field (o' := _ + 0) Tryd.underlying31 rfl ti28 rfl rfl) (by decide) ?_
            refine WE_q rfl (q_field (o' := _ + 0) Tryd.underlying28 rfl ti25 rfl rfl) (by decide) ?_
            refine WE_q rfl (q_loadFN (k := 0) (vs := [_, _]) Tryd.underlying25 rfl ti25 rfl (.head _) rfl rfl rfl) (by decide) ?_
            refine WE_q rfl (q_lookS keyT hgm Tryd.underlying95 ti99 rfl rfl (ownS (own0))) (by decide) ?_
            refine WE_q rfl (q_move rfl) (by decide) ?_
            refine WE_q rfl (q_nil rfl) (by decide) ?_
            refine WE_q rfl (q_field (o' := 0) Tryd.underlying101 rfl ti3 rfl rfl) (by decide) ?_
            refine WE_end (WF_last rfl rfl (OW_storeP (i := jm) ti3 rfl rfl rfl (mkP_get hjm) (.z) (.z) ?_))
            refine WF_nil ?_
            refine blockN ?_
            refine thenN ?_
            have hmk : (mkP Lk).set jm (xb, cellsO [.int .i64 (k : Int), .slice xA (markAt (numF i k k) FF[k]).now.length xc, .bool (markAt (numF i k k) FF[k]).off] 101) = mkP (Lk.set jm ⟨markAt k FF[k], xb, xA, xc⟩) := by rw [mkP_set]; rfl
            rw [hmk]
            refine WC_fact (A := AllF (Lk.set jm ⟨markAt k FF[k], xb, xA, xc⟩) nowF) (fun Z w hs => now_set (hs.facts _ (.tail _ (.tail _ (.tail _ (.head _))))) (hs.facts _ (.tail _ (.tail _ (.tail _ (.head _)))) ⟨markAt (numF i k k) FF[k], xb, xA, xc⟩ (List.mem_of_getElem? hjm))) ?_
            refine WC_region ?_
            refine WL_q (q_move rfl) (by decide) ?_
            refine WL_q (q_add rfl rfl (wr64 (by omega))) (by decide) ?_
            refine WL_q (q_assign rfl) (by decide) ?_
            refine WL_nil ?_
            refine thenK ?_
            refine ⟨(k + 1, Lk.set jm ⟨markAt k FF[k], xb, xA, xc⟩), ?_, (.cons rfl (.cons rfl (.cons rfl (.cons rfl (.nil _))))), (List.Sublist.cons_cons _ (List.Sublist.cons_cons _ (List.Sublist.cons_cons _ (List.Sublist.cons_cons _ (List.Sublist.cons_cons _ (List.Sublist.refl _)))))), (memc (.head _) (fun _ h => .tail _ (.tail _ (.tail _ (.tail _ (.tail _ h))))))⟩
            exact ⟨by show FF.length - (k + 1) < FF.length - k; omega, by show k + 1 ≤ FF.length; omega, (hI.2.1.upd hk hjm rfl).next, (keys_set (y := ⟨markAt k FF[k], xb, xA, xc⟩) hjm rfl rfl rfl).trans hI.2.2⟩
          · refine WC_exit ?_
            refine thenExit ?_
            refine thenExit ?_
            refine blockHit ?_
            refine thenN ?_
            refine WC_seq ?_
            refine WC_region ?_
            refine WL_q (q_loadN (vs := [_, _, _, _, _, _, _, _, _]) Tryd.underlying31 rfl ti31 rfl (ownS (ownS (ownS (own0)))) rfl rfl) (by decide) ?_
            refine WL_main rfl (OW_storeN (cs' := [_, _, _, _, _, _, _, _, _]) (vs := [_, _, _, _, _, _, _, _, _]) ti31 rfl rfl rfl rfl rfl (Nat.le_of_ble_eq_true rfl) (.s (.s (.s (.s (.z))))) ?_)
            refine WL_q (q_assign rfl) (by decide) ?_
            refine WL_nil ?_
            refine thenN ?_
            refine WC_ret ?_
            refine ⟨_, [_, _, _], [_, _, _], fun Z w hs => RV_ownN hs Tryd.underlying31 rfl ti31 rfl (ownS (ownS (ownS (ownS (own0))))) rfl (.tmp rfl (.nil)), ?_, fun Z w hs => (((hs.pick (.z)).pick (.s (.s (.z)))).pick (.s (.s (.z)))).out (List.Sublist.cons_cons _ (List.Sublist.cons_cons _ (List.Sublist.cons_cons _ (List.Sublist.cons _ (List.Sublist.cons _ (List.Sublist.refl _)))))) (memc (.tail _ (.tail _ (.head _))) (memc (.tail _ (.head _)) (memc (.head _) (fun _ h => .tail _ (.tail _ (.tail _ h))))))⟩
            try simp only [decide_eq_true_eq, decide_eq_false_iff_not, beq_iff_eq, bne_iff_ne, beq_eq_false_iff_ne, ne_eq, Bool.and_eq_true, Bool.not_eq_true', Bool.not_eq_false', Bool.not_eq_true, Bool.not_eq_false, bne_eq_false_iff_eq, Bool.and_eq_false_iff] at *
            have hkl : ¬ k < FF.length := by omega
            have hF := put_4 h24 hX htd hM.mid
            rw [Int.toNat_natCast, ← hlater, ← hFF] at hF
            have hRR : HR ⟨FF, H.total + widthF o⟩ Lk := by
              have hn := hI.2.1
              rw [hFF] at hn hkl ⊢
              exact HR.put hM hsl2 hfl ho hwid hlt htot hil hn hkl
            have hGG : (⟨FF, H.total + widthF o⟩ : Hist).ops = G := hGF
            have hkeys : [(m, mapO (keys L ++ [⟨o.c, o.n, b48⟩]))] = mpP m Lk := by unfold mpP; rw [hI.2.2]
            refine ⟨Lk, A9, c9, Ae, ce, by rw [hF]; exact hRR, by rw [hF]; rfl, ?_, ?_⟩
            · rw [hF]; simp only [hGG, hkeys]
            · rw [hF]; simp only [hGG]

end Go.Proofs.YtggdddkbhigjoaaDoor
