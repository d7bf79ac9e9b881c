/- The walks and laws that this claim's card rests on, part 6. -/
import Derived.Lib.UnsafeStr
import Derived.Lib.Builder
import Derived.Laws.Externs
import Derived.Test.YtggdddkbhigjoaaDoorQE
set_option linter.unusedVariables false
set_option linter.unusedSimpArgs false
/- Walks: history.Put. -/
namespace Go.Proofs.YtggdddkbhigjoaaDoor
open Go Go.GW
theorem turned_ops (H : Hist) (i : Nat) (o : GOp) : (turnedF H i o).1.map (·.op) = H.ops := by
  unfold turnedF
  split
  · rfl
  · split
    · rfl
    · split
      · rfl
      · rename_i k hwk _ e he
        split
        · rfl
        · have hk : k < H.ents.length := by
            rcases Nat.lt_or_ge k H.ents.length with h | h
            · exact h
            · rw [List.getElem?_eq_none h] at he; cases he
          have e1 : H.ents[k] = e := by rw [List.getElem?_eq_getElem hk] at he; exact Option.some.inj he
          exact hops_set hk (offE e (!o.on)) (by rw [e1]; rfl) 0
theorem whereId_ops {es : List Ent} {H : Hist} {c n : Int} (h : es.map (·.op) = H.ops) (hn : whereId H.ents c n = none) : whereId es c n = none := by
  unfold whereId
  rw [List.findIdx?_eq_none_iff]
  intro e he
  have h1 : e.op ∈ H.ops := by rw [← h]; exact List.mem_map.2 ⟨e, he, rfl⟩
  obtain ⟨x, hx, hxe⟩ := List.mem_map.1 h1
  have h2 := whereId_none hn x hx
  rw [hxe] at h2
  cases hq : (decide (c = e.op.c) && decide (n = e.op.n)) with
  | false => rfl
  | true => simp at hq; exact absurd ⟨hq.1.symm, hq.2.symm⟩ h2
theorem bd31Xw18  (w : World) : (Instr.build 31 #[]).run Tryd.prog w = .ok (.agg #[.int .i64 0, .int .i64 0, .int .i64 0, .int .i64 0, .string ⟨#[]⟩, .slice none 0 0, .int .i64 0, .int .i64 0, .bool false]) w := by kernel_rfl
theorem bd101_0Xw18 (x0_ : Int) (w : World) : (Instr.build 101 #[(0, .int .i64 x0_)]).run Tryd.prog w = .ok (.agg #[.int .i64 x0_, .slice none 0 0, .bool false]) w := by kernel_rfl
theorem bd28_1Xw18 (x1_ : Int) (w : World) : (Instr.build 28 #[(1, .int .i64 x1_)]).run Tryd.prog w = .ok (.agg #[.int .i64 0, .int .i64 0, .int .i64 x1_]) w := by kernel_rfl
theorem bd31_0Xw18 (x0_0a0 : Int) (x0_0a1 : Int) (x0_1 : Int) (w : World) : (Instr.build 31 #[(0, .agg #[.int .i64 x0_0a0, .int .i64 x0_0a1, .int .i64 x0_1])]).run Tryd.prog w = .ok (.agg #[.int .i64 x0_0a0, .int .i64 x0_0a1, .int .i64 x0_1, .int .i64 0, .string ⟨#[]⟩, .slice none 0 0, .int .i64 0, .int .i64 0, .bool false]) w := by kernel_rfl
theorem bd37_0_1Xw18 (x0_ : Int) (x1_ : Int) (w : World) : (Instr.build 37 #[(0, .int .i64 x0_), (1, .int .i64 x1_)]).run Tryd.prog w = .ok (.agg #[.int .i64 x0_, .int .i64 x1_]) w := by kernel_rfl
theorem fd31_3Xw18 (x00a0 : Int) (x00a1 : Int) (x01 : Int) (x1 : Int) (x2 : ByteArray) (x3A : Option Addr) (x3n x3c : Nat) (x4a0 : Int) (x4a1 : Int) (x5 : Bool) (w : World) : (Instr.field 31 (.agg #[.int .i64 x00a0, .int .i64 x00a1, .int .i64 x01, .int .i64 x1, .string x2, .slice x3A x3n x3c, .int .i64 x4a0, .int .i64 x4a1, .bool x5]) 3).run Tryd.prog w = .ok (.slice x3A x3n x3c) w := by kernel_rfl

set_option maxRecDepth 10000 in
theorem put_s (h m cap : Nat) (A : Option Addr) (H : Hist) (L : List MR) (hr : HR H L) (i : Int) (o : GOp) (Ao : Option Addr) (co : Nat) (ho : Fit o) (hlt : H.ents.length < 1000000) : Sp Tryd.prog 11 [.pointer (some ⟨h, 0, none⟩), .int .i64 i, opV o Ao co] [hdP h A H.ops.length cap m H.total, mpP m L, mkP L] [barF, RdF opD A cap H.ops, AllF L nowF, RdF rgD Ao co o.rs] (PuP H i o h m cap A L) := by
  have hol := ops_len H
  have hlen := hr.len
  refine Sp.of (n := 196) ⟨_, Tryd.func11, rfl, rfl, rfl, rfl⟩ (Nat.le_of_ble_eq_true rfl) fun Ps As => WC_seq (WC_region (WL_main rfl (OW_box (cs := [_, _, _, _, _, _, _, _, _]) rfl rfl (by decide) fun b5 => WL_main rfl (OW_alloc (cs := [_, _, _, _, _, _, _, _, _]) ti31 rfl (by decide) fun b6 => Lq (q_assign rfl) (WL_nil (thenN (WC_seq (WC_seq (WC_fact (A := RdF rgD none 0 []) (fun Z w hs => RdS.nil _ _ _) (WC_region (Lq (q_move rfl) (Lq (q_move rfl) ?_))))))))))))
  refine Lq (q_loadN (vs := [_, _, _, _, _, _, _, _, _]) Tryd.underlying31 rfl ti31 rfl (ownS (own0)) rfl rfl) (WL_main rfl (OW_call3 (fits_s h m cap A H L hr i o Ao co ho) (.cons rfl (.cons rfl (.cons rfl (.nil)))) (by decide) (.s (.s (.z))) (.s (.s (.z))) (.s (.s (.z))) (memc (.tail _ (.head _)) (memc (.tail _ (.tail _ (.head _))) (memc (.tail _ (.tail _ (.tail _ (.tail _ (.head _))))) mem0))) fun u1_3 Lo fs hres => ?_))
  obtain ⟨rfl, rfl, rfl⟩ := hres
  refine Lq (q_assign rfl) (WL_nil (thenN (WC_seq (WC_region (Lq (q_move rfl) (Lq (q_neq rfl rfl) (WL_nil (thenN (WC_cond rfl (fun h24 => ?_) (fun h24 => ?_))))))))))
  · refine WC_seq (WC_region (Lq (q_build (.nil) (bd31Xw18)) (Lq (q_move rfl) (WL_main rfl (OW_storeN (cs' := [_, _, _, _, _, _, _, _, _]) (vs := [_, _, _, _, _, _, _, _, _]) ti31 rfl rfl rfl rfl rfl (Nat.le_of_ble_eq_true rfl) (.s (.s (.s (.z)))) (Lq (q_assign rfl) (WL_nil (thenN (WC_ret (thenRet ?_))))))))))
    refine ⟨_, [_, _, _], [_, _, _], fun Z w hs => RV_ownN hs Tryd.underlying31 rfl ti31 rfl (ownS (ownS (ownS (own0)))) rfl (.tmp rfl (.nil)), ?_, fun Z w hs => hs.out (List.Sublist.cons_cons _ (List.Sublist.cons_cons _ (List.Sublist.cons_cons _ (List.Sublist.cons _ (List.Sublist.cons _ (List.Sublist.refl _)))))) (memc (.head _) (memc (.tail _ (.tail _ (.head _))) (memc (.tail _ (.tail _ (.tail _ (.head _)))) (fun _ h => .tail _ h))))⟩
    try simp only [Bp, Bq] at *
    have hF := put_1 h24
    exact ⟨L, A, cap, none, 0, by rw [hF]; exact hr, by rw [hF]; rfl, by rw [hF], by rw [hF]; rfl⟩
  · refine WC_skip (thenN (WC_seq ?_))
    try simp only [Bp, Bq] at *
    obtain ⟨h0, h1, hw0, htot, hne3, hk1, hk4, hck, htgt⟩ := fits_0 h24
    obtain ⟨i, rfl⟩ : ∃ k : Nat, i = (k : Int) := ⟨i.toNat, by omega⟩
    have hil : i ≤ H.ents.length := by omega
    have hwid := check_wid hck
    refine WC_region (Lq (q_loadN (vs := [_, _, _, _, _, _, _, _, _]) Tryd.underlying31 rfl ti31 rfl (ownS (ownS (ownS (ownS (own0))))) rfl rfl) (WL_main rfl (OW_call0 (clone_s o Ao co ho.rs) (.cons rfl (.nil)) (by decide) (memc (.tail _ (.tail _ (.tail _ (.tail _ (.head _))))) mem0) fun u4_1 Lo fs hres => ?_)))
    obtain ⟨A1, c1, rfl, rfl, rfl⟩ := hres
    refine WL_main rfl (OW_storeN (cs' := [_, _, _, _, _, _, _, _, _]) (vs := [_, _, _, _, _, _, _, _, _]) ti31 rfl rfl rfl rfl rfl (Nat.le_of_ble_eq_true rfl) (.s (.s (.s (.s (.z))))) (WL_nil (thenN (WC_seq (WC_capLe (.tail _ (.tail _ (.tail _ (.head _)))) fun hcap hcap2 => ?_)))))
    obtain ⟨B, hB⟩ : ∃ B, B = cutA A i cap 9 := ⟨_, rfl⟩
    have hFd : ∀ x ∈ H.ops.drop i, Fit x := fun x hx => by obtain ⟨e, he, rfl⟩ := List.mem_map.1 (List.mem_of_mem_drop hx); exact hr.fit e he
    refine WC_fact (A := RdF opD B (cap - i) (H.ops.drop i)) (fun Z w hs => by rw [hB]; have h1 := RdS.cut (lo := i) (hi := H.ops.length) (m := cap) (hs.facts _ (.tail _ (.tail _ (.tail _ (.head _))))) (by omega) (by omega) (by omega) (Nat.le_refl _); rw [List.take_length] at h1; exact h1) (WC_draw _ _ [] (.c 0 0 (.c 2 0 (.c 3 0 (.c 4 0 (.c 5 0 (.c 6 0 (.c 7 0 (.c 1 2 (.c 8 2 (.c 9 0 (.c 10 0 (.c 11 0 (.c 12 0 (.c 13 0 (.c 14 0 (.c 15 0 .nil)))))))))))))))) mixed (fun _ _ _ _ h => h) (List.Sublist.cons_cons _ (List.Sublist.cons_cons _ (List.Sublist.cons_cons _ (List.Sublist.cons_cons _ (List.Sublist.cons_cons _ (List.Sublist.refl _)))))) (fun _ h => h) (by kernel_rfl) (by decide) fun ws Z0 => Qe rfl (q_loadN (vs := [_, _, _, _, _, _, _, _, _]) Tryd.underlying31 rfl ti31 rfl (ownS (ownS (ownS (ownS (own0))))) rfl rfl) (Qe rfl (q_move rfl) (Qe rfl (q_nil rfl) ?_)))
    refine Qe rfl (q_field (o' := 0) Tryd.underlying97 rfl ti45 rfl rfl) (Qe rfl (q_load1 Tryd.underlying45 rfl rfl own0 rfl) (Qe rfl (q_move rfl) (Qe rfl (q_cutLo Tryd.underlying45 ti31 rfl rfl (by omega) (by omega)) (WE_main rfl rfl (OW_slice1 (cs := [_, _, _, _, _, _, _, _, _]) Tryd.underlying45 ti31 (by decide) (by decide) rfl rfl rfl rfl (by decide) fun b31 => ?_)))))
    refine ⟨⟨(List.Sublist.cons _ (List.Sublist.cons_cons _ (List.Sublist.cons_cons _ (List.Sublist.cons_cons _ (List.Sublist.cons_cons _ (List.Sublist.cons_cons _ (List.Sublist.refl _))))))), (.head _)⟩, ?_⟩
    refine WE_freeze1 (e := opD) (u := o) (.z) (fun Z w hs => ⟨A1, c1, rfl, hs.facts _ (.tail _ (.tail _ (.head _)))⟩) (WE_main rfl rfl (OW_call0 (cross_s (some ⟨b31, 0, none⟩) B 1 (cap - i) [o] (H.ops.drop i) (by simpa using ho) hFd (by simp) (by rw [List.length_drop]; omega)) (.cons rfl (.cons (by rw [hB, List.length_drop]; rfl) (.nil))) (by decide) (memc (.tail _ (.tail _ (.tail _ (.tail _ (.tail _ (.head _)))))) (memc (.head _) (memc (.tail _ (.tail _ (.head _))) mem0))) fun u5_8 Lo fs hres => ?_))
    obtain ⟨Ac, cc, Ad, cd, rfl, rfl, rfl⟩ := hres
    refine ⟨⟨(List.Sublist.cons_cons _ (List.Sublist.cons_cons _ (List.Sublist.cons_cons _ (List.Sublist.cons_cons _ (List.Sublist.cons_cons _ (List.Sublist.refl _)))))), (.tail _ (.tail _ (.tail _ (.head _))))⟩, ?_⟩
    refine Qe rfl (q_move rfl) (Qe rfl (q_extract (vs := [_, _, _]) rfl rfl) (Qe rfl (q_extract (vs := [_, _, _]) rfl rfl) (Qe rfl (q_extract (vs := [_, _, _]) rfl rfl) (Qe rfl (q_assign rfl) (Qe rfl (q_assign rfl) (Qe rfl (q_assign rfl) (WE_end (WF_nil (thenN (WC_fr [(11, _), (10, _), (9, _), (7, _), (6, _), (5, _), (0, _), (1, _)] (.cons rfl (.cons rfl (.cons rfl (.cons rfl (.cons rfl (.cons rfl (.cons rfl (.cons rfl (.nil _))))))))) ?_))))))))))
    refine WC_seq (WC_seq (WC_region (Lq (q_move rfl) (Lq (q_neq rfl rfl) (WL_nil (thenN (WC_cond rfl (fun h43 => ?_) (fun h43 => ?_))))))))
    · refine WC_seq (WC_region (Lq (q_build (.nil) (bd31Xw18)) (Lq (q_move rfl) (WL_main rfl (OW_storeN (cs' := [_, _, _, _, _, _, _, _, _]) (vs := [_, _, _, _, _, _, _, _, _]) ti31 rfl rfl rfl rfl rfl (Nat.le_of_ble_eq_true rfl) (.s (.s (.s (.z)))) (Lq (q_assign rfl) (WL_nil (thenN (WC_ret (thenRet ?_))))))))))
      refine ⟨_, [_, _, _], [_, _, _], fun Z w hs => RV_ownN hs Tryd.underlying31 rfl ti31 rfl (ownS (ownS (ownS (own0)))) rfl (.tmp rfl (.nil)), ?_, fun Z w hs => hs.out (List.Sublist.cons_cons _ (List.Sublist.cons_cons _ (List.Sublist.cons_cons _ (List.Sublist.cons _ (List.Sublist.cons _ (List.Sublist.refl _)))))) (memc (.tail _ (.tail _ (.tail _ (.tail _ (.tail _ (.tail _ (.head _))))))) (memc (.tail _ (.tail _ (.tail _ (.tail _ (.tail _ (.tail _ (.tail _ (.tail _ (.head _))))))))) (memc (.tail _ (.tail _ (.tail _ (.tail _ (.tail _ (.tail _ (.tail _ (.tail _ (.tail _ (.head _)))))))))) (fun _ h => .tail _ (.tail _ (.tail _ (.tail _ (.tail _ (.tail _ (.tail _ h))))))))))⟩
      try simp only [Bp, Bq] at *
      have hF := put_2 h24 h43
      exact ⟨L, A, cap, none, 0, by rw [hF]; exact hr, by rw [hF]; rfl, by rw [hF], by rw [hF]; rfl⟩
    · refine WC_skip (thenN (WC_seq ?_))
      try simp only [Bp, Bq] at *
      have hX : (crossF [o] (H.ops.drop i)).2.2 = 0 := by omega
      obtain ⟨td, htd, hsame⟩ := crossOne hX
      have hcf := crossF_fit (xs := [o]) (ys := H.ops.drop i) (by simpa using ho) hFd
      have htf : Fit td := hcf.1 td (by rw [htd]; exact List.mem_singleton.2 rfl)
      obtain ⟨later, hlater⟩ : ∃ x, x = (crossF [o] (H.ops.drop i)).2.1 := ⟨_, rfl⟩
      have hsl : Sames (H.ops.drop i) later := by rw [hlater]; exact (crossF_same hX).2
      have hfl : ∀ y ∈ later, Fit y := by rw [hlater]; exact hcf.2
      have hll : later.length = H.ops.length - i := by rw [hsl.length, List.length_drop]
      rw [htd, ← hlater]
      refine WC_region (Lq (q_move rfl) (Lq (q_build (.cons rfl (.nil)) (bd101_0Xw18 _)) (WL_main rfl (OW_box (cs := [_, _, _]) rfl rfl (by decide) fun b48 => Lq (q_assign rfl) (WL_nil (thenN (WC_seq (WC_region (Lq (q_field (o' := 0) Tryd.underlying31 rfl ti28 rfl rfl) (Lq (q_field (o' := 2) Tryd.underlying28 rfl ti26 rfl rfl) (Lq (q_load1 Tryd.underlying26 rfl rfl (ownS (ownS (ownS (ownS (ownS (own0)))))) rfl) (Lq (q_build (.cons rfl (.nil)) (bd28_1Xw18 _)) ?_))))))))))))
      refine Lq (q_build (.cons rfl (.nil)) (bd31_0Xw18 _ _ _)) (WL_main rfl (OW_alloc (cs := [_, _, _, _, _, _, _, _, _]) ti31 rfl (by decide) fun b13 => WL_main rfl (OW_storeN (cs' := [_, _, _, _, _, _, _, _, _]) (vs := [_, _, _, _, _, _, _, _, _]) ti31 rfl rfl rfl rfl rfl (Nat.le_of_ble_eq_true rfl) (.z) (WL_nil (thenN (WC_fr [(13, _), (12, _), (10, _), (9, _), (7, _), (6, _), (5, _), (0, _), (1, _)] (.cons rfl (.cons rfl (.cons rfl (.cons rfl (.cons rfl (.cons rfl (.cons rfl (.cons rfl (.cons rfl (.nil _)))))))))) ?_))))))
      refine WC_meet (α := List Ent × List MR × List Rg × Option Addr × Nat × GOp × Option Addr × Nat)
        (fun (es, L1, nw, An, cn, eff, Ae, ce) => [(0, .pointer (some ⟨h, 0, none⟩)), (1, .int .i64 i), (5, .pointer (some ⟨b5, 0, none⟩)), (6, .pointer (some ⟨b6, 0, none⟩)), (10, .slice Ad later.length cd), (12, .pointer (some ⟨b48, 0, none⟩)), (13, .pointer (some ⟨b13, 0, none⟩))])
        (fun (es, L1, nw, An, cn, eff, Ae, ce) => ([(b13, cellsO (opC eff Ae ce) 31)] :: [(b48, cellsO [.int .i64 i, .slice An nw.length cn, .bool false] 101)] :: [(b6, cellsO (opC zeroOp none 0) 31)] :: [(b5, cellsO (opC o A1 c1) 31)] :: hdP h A H.ops.length cap m H.total :: mpP m L :: mkP L1 :: Ps))
        (fun (es, L1, nw, An, cn, eff, Ae, ce) => (RdF rgD Ae ce eff.rs :: RdF rgD An cn nw :: AllF L1 nowF :: RdF opD Ad cd later :: RdF rgD A1 c1 o.rs :: RdF rgD none 0 [] :: barF :: RdF opD A cap H.ops :: AllF L nowF :: RdF rgD Ao co o.rs :: As))
        (fun (es, L1, nw, An, cn, eff, Ae, ce) => MidI H i o td L es L1 nw eff) ?_ ?_
      · refine WC_seq (WC_region (Lq (q_field (o' := 0) Tryd.underlying31 rfl ti28 rfl rfl) (Lq (q_field (o' := 2) Tryd.underlying28 rfl ti26 rfl rfl) (Lq (q_load1 Tryd.underlying26 rfl rfl (ownS (ownS (ownS (ownS (ownS (ownS (own0))))))) rfl) (WL_nil (thenN (WC_block (WC_seq (WC_region (Lq (q_eql rfl rfl) (Lq (q_assign rfl) (WL_nil (thenN (WC_cond rfl (fun h57 => ?_) (fun h57 => ?_)))))))))))))))
        · refine WC_seq (WC_elem (k := 0) (.head _) rfl (op_open _) fun b12 q12 y12 e12 => ?_)
          cases e12
          refine WC_draw _ _ [9] (.c 0 0 (.c 1 0 (.c 2 0 (.c 3 0 (.c 4 0 (.c 5 0 (.c 6 0 (.c 7 2 (.c 8 0 (.c 9 3 .nil)))))))))) mixed (fun _ _ _ _ h => h) (List.Sublist.cons _ (List.Sublist.cons_cons _ (List.Sublist.cons_cons _ (List.Sublist.cons_cons _ (List.Sublist.cons_cons _ (List.Sublist.cons_cons _ (List.Sublist.cons_cons _ (List.Sublist.refl _)))))))) (fun _ h => h) (by kernel_rfl) (by decide) fun ws Z0 => Qe rfl (q_move rfl) (Qe rfl (q_idxRd Tryd.underlying45 ti31 rfl rfl (by decide) (by simp)) (Qe rfl (q_field (o' := _ + 3) Tryd.underlying31 rfl ti3 rfl rfl) (Qe rfl (q_loadF1 (j := 3) Tryd.underlying3 rfl rfl (.head _) rfl rfl) (Qe rfl (q_field (o' := 4) Tryd.underlying31 rfl ti9 rfl rfl) (Qe rfl (q_load1 Tryd.underlying9 rfl rfl (ownS (ownS (ownS (ownS (ownS (own0)))))) rfl) (Qe rfl (q_field (o' := 3) Tryd.underlying31 rfl ti3 rfl rfl) ?_))))))
          refine WE_main rfl rfl (OW_store1 ti3 rfl rfl rfl (.s (.s (.s (.z)))) (.z) ?_)
          refine ⟨⟨(List.Sublist.cons _ (List.Sublist.cons_cons _ (List.Sublist.cons_cons _ (List.Sublist.cons_cons _ (List.Sublist.cons_cons _ (List.Sublist.cons_cons _ (List.Sublist.cons_cons _ (List.Sublist.refl _)))))))), (.head _)⟩, ?_⟩
          refine Qe rfl (q_field (o' := 4) Tryd.underlying31 rfl ti9 rfl rfl) (WE_end (WF_last rfl rfl (OW_store1 ti9 rfl rfl rfl (.s (.s (.s (.s (.z))))) (.z) (WF_nil (thenN (WC_fr [(13, _), (12, _), (10, _), (7, _), (6, _), (5, _), (0, _), (1, _)] (.cons rfl (.cons rfl (.cons rfl (.cons rfl (.cons rfl (.cons rfl (.cons rfl (.cons rfl (.nil _))))))))) (WC_seq ?_)))))))
          cases hmv : movedAll H.ents td.at_ (widthF o) with
          | error e =>
            refine WC_draw _ _ [] (.c 0 0 (.c 1 0 (.c 2 0 (.c 3 0 (.c 4 2 (.c 5 2 (.c 6 0 (.c 7 0 (.c 8 0 (.c 9 0 (.c 10 0 .nil))))))))))) mixed (fun _ _ _ _ h => h) (List.Sublist.cons_cons _ (List.Sublist.cons_cons _ (List.Sublist.cons _ (List.Sublist.cons _ (List.Sublist.cons _ (List.Sublist.cons_cons _ (List.Sublist.cons_cons _ (List.Sublist.refl _)))))))) (fun _ h => h) (by kernel_rfl) (by decide) fun ws Z0 => Qe rfl (q_move rfl) (Qe rfl (q_field (o' := 3) Tryd.underlying31 rfl ti3 rfl rfl) (Qe rfl (q_load1 Tryd.underlying3 rfl rfl own0 rfl) (Qe rfl (q_loadN (vs := [_, _, _, _, _, _, _, _, _]) Tryd.underlying31 rfl ti31 rfl (ownS (ownS (ownS (own0)))) rfl rfl) ?_)))
            refine WE_main rfl rfl (OW_call0 (width_s o A1 c1 (by have := ho.text; omega)) (.cons rfl (.nil)) (by decide) (memc (.tail _ (.tail _ (.tail _ (.tail _ (.tail _ (.tail _ (.tail _ (.tail _ (.tail _ (.tail _ (.tail _ (.head _)))))))))))) mem0) fun u13_4 Lo fs hres => ?_)
            obtain ⟨rfl, rfl, rfl⟩ := hres
            refine ⟨⟨(List.Sublist.cons_cons _ (List.Sublist.cons_cons _ (List.Sublist.cons _ (List.Sublist.cons _ (List.Sublist.cons _ (List.Sublist.cons_cons _ (List.Sublist.cons_cons _ (List.Sublist.refl _)))))))), (.head _)⟩, ?_⟩
            refine WE_main rfl rfl (OW_call3 (hmoved_s h m cap A H L hr td.at_ (widthF o)) (.cons rfl (.cons rfl (.cons rfl (.nil)))) (by decide) (.s (.s (.z))) (.s (.s (.z))) (.s (.s (.z))) (memc (.tail _ (.tail _ (.tail _ (.tail _ (.tail _ (.tail _ (.tail _ (.tail _ (.tail _ (.tail _ (.tail _ (.tail _ (.head _))))))))))))) (memc (.tail _ (.tail _ (.tail _ (.tail _ (.tail _ (.tail _ (.tail _ (.tail _ (.tail _ (.tail _ (.tail _ (.tail _ (.tail _ (.head _)))))))))))))) mem0)) fun u13_5 Lo fs hres => ?_)
            obtain ⟨rfl, hmr⟩ := hres
            rw [hmv] at hmr
            obtain ⟨rfl, rfl⟩ := hmr
            refine ⟨⟨(List.Sublist.cons _ (List.Sublist.cons _ (List.Sublist.cons _ (List.Sublist.cons_cons _ (List.Sublist.cons_cons _ (List.Sublist.cons_cons _ (List.Sublist.cons_cons _ (List.Sublist.refl _)))))))), (.head _)⟩, ?_⟩
            refine Qe rfl (q_move rfl) (Qe rfl (q_extract (vs := [_, _]) rfl rfl) (Qe rfl (q_extract (vs := [_, _]) rfl rfl) (Qe rfl (q_assign rfl) (Qe rfl (q_assign rfl) (WE_end (WF_nil (thenN (WC_fr [(15, _), (14, _), (13, _), (12, _), (10, _), (7, _), (6, _), (5, _), (0, _), (1, _)] (.cons rfl (.cons rfl (.cons rfl (.cons rfl (.cons rfl (.cons rfl (.cons rfl (.cons rfl (.cons rfl (.cons rfl (.nil _))))))))))) (WC_seq (WC_seq (WC_region (Lq (q_move rfl) ?_))))))))))))
            refine Lq (q_neq rfl rfl) (WL_nil (thenN (WC_true rfl (by simpa using movedAll_ne hmv) (WC_seq (WC_region (Lq (q_build (.nil) (bd31Xw18)) (Lq (q_move rfl) (WL_main rfl (OW_storeN (cs' := [_, _, _, _, _, _, _, _, _]) (vs := [_, _, _, _, _, _, _, _, _]) ti31 rfl rfl rfl rfl rfl (Nat.le_of_ble_eq_true rfl) (.s (.s (.s (.s (.s (.z)))))) (Lq (q_assign rfl) (WL_nil (thenN (WC_ret (thenRet (blockRet (thenRet ?_))))))))))))))))
            refine ⟨_, [_, _, _], [_, _, _], fun Z w hs => RV_ownN hs Tryd.underlying31 rfl ti31 rfl (ownS (ownS (ownS (ownS (ownS (own0)))))) rfl (.tmp rfl (.nil)), ?_, fun Z w hs => hs.out (List.Sublist.cons_cons _ (List.Sublist.cons_cons _ (List.Sublist.cons_cons _ (List.Sublist.cons _ (List.Sublist.cons _ (List.Sublist.cons _ (List.Sublist.cons _ (List.Sublist.refl _)))))))) (memc (.tail _ (.tail _ (.tail _ (.tail _ (.tail _ (.tail _ (.tail _ (.tail _ (.tail _ (.tail _ (.head _))))))))))) (memc (.tail _ (.tail _ (.tail _ (.tail _ (.tail _ (.tail _ (.tail _ (.tail _ (.tail _ (.tail _ (.tail _ (.tail _ (.head _))))))))))))) (memc (.tail _ (.tail _ (.tail _ (.tail _ (.tail _ (.tail _ (.tail _ (.tail _ (.tail _ (.tail _ (.tail _ (.tail _ (.tail _ (.head _)))))))))))))) (fun _ h => .tail _ (.tail _ (.tail _ (.tail _ (.tail _ (.tail _ (.tail _ (.tail _ (.tail _ (.tail _ (.tail _ h))))))))))))))⟩
            try simp only [Bp, Bq] at *
            have hF := put_3 h24 hX htd (by unfold midF; rw [if_pos h57, hmv])
            exact ⟨L, A, cap, none, 0, by rw [hF]; exact hr, by rw [hF]; rfl, by rw [hF], by rw [hF]; rfl⟩
          | ok ls =>
            have hlsl := movedAll_length hmv
            refine WC_draw _ _ [] (.c 0 0 (.c 1 0 (.c 2 0 (.c 3 0 (.c 4 2 (.c 5 2 (.c 6 0 (.c 7 0 (.c 8 0 (.c 9 0 (.c 10 0 .nil))))))))))) mixed (fun _ _ _ _ h => h) (List.Sublist.cons_cons _ (List.Sublist.cons_cons _ (List.Sublist.cons _ (List.Sublist.cons _ (List.Sublist.cons _ (List.Sublist.cons_cons _ (List.Sublist.cons_cons _ (List.Sublist.refl _)))))))) (fun _ h => h) (by kernel_rfl) (by decide) fun ws Z0 => Qe rfl (q_move rfl) (Qe rfl (q_field (o' := 3) Tryd.underlying31 rfl ti3 rfl rfl) (Qe rfl (q_load1 Tryd.underlying3 rfl rfl own0 rfl) (Qe rfl (q_loadN (vs := [_, _, _, _, _, _, _, _, _]) Tryd.underlying31 rfl ti31 rfl (ownS (ownS (ownS (own0)))) rfl rfl) ?_)))
            refine WE_main rfl rfl (OW_call0 (width_s o A1 c1 (by have := ho.text; omega)) (.cons rfl (.nil)) (by decide) (memc (.tail _ (.tail _ (.tail _ (.tail _ (.tail _ (.tail _ (.tail _ (.tail _ (.tail _ (.tail _ (.tail _ (.head _)))))))))))) mem0) fun u13_4 Lo fs hres => ?_)
            obtain ⟨rfl, rfl, rfl⟩ := hres
            refine ⟨⟨(List.Sublist.cons_cons _ (List.Sublist.cons_cons _ (List.Sublist.cons _ (List.Sublist.cons _ (List.Sublist.cons _ (List.Sublist.cons_cons _ (List.Sublist.cons_cons _ (List.Sublist.refl _)))))))), (.head _)⟩, ?_⟩
            refine WE_main rfl rfl (OW_call3 (hmoved_s h m cap A H L hr td.at_ (widthF o)) (.cons rfl (.cons rfl (.cons rfl (.nil)))) (by decide) (.s (.s (.z))) (.s (.s (.z))) (.s (.s (.z))) (memc (.tail _ (.tail _ (.tail _ (.tail _ (.tail _ (.tail _ (.tail _ (.tail _ (.tail _ (.tail _ (.tail _ (.tail _ (.head _))))))))))))) (memc (.tail _ (.tail _ (.tail _ (.tail _ (.tail _ (.tail _ (.tail _ (.tail _ (.tail _ (.tail _ (.tail _ (.tail _ (.tail _ (.head _)))))))))))))) mem0)) fun u13_5 Lo fs hres => ?_)
            obtain ⟨rfl, hmr⟩ := hres
            rw [hmv] at hmr
            obtain ⟨A3, c3, rfl, rfl⟩ := hmr
            refine ⟨⟨(List.Sublist.cons _ (List.Sublist.cons _ (List.Sublist.cons _ (List.Sublist.cons_cons _ (List.Sublist.cons_cons _ (List.Sublist.cons_cons _ (List.Sublist.cons_cons _ (List.Sublist.refl _)))))))), (.tail _ (.head _))⟩, ?_⟩
            refine Qe rfl (q_move rfl) (Qe rfl (q_extract (vs := [_, _]) rfl rfl) (Qe rfl (q_extract (vs := [_, _]) rfl rfl) (Qe rfl (q_assign rfl) (Qe rfl (q_assign rfl) (WE_end (WF_nil (thenN (WC_fr [(15, _), (14, _), (13, _), (12, _), (10, _), (7, _), (6, _), (5, _), (0, _), (1, _)] (.cons rfl (.cons rfl (.cons rfl (.cons rfl (.cons rfl (.cons rfl (.cons rfl (.cons rfl (.cons rfl (.cons rfl (.nil _))))))))))) (WC_seq (WC_seq (WC_region (Lq (q_move rfl) ?_))))))))))))
            refine Lq (q_neq rfl rfl) (WL_nil (thenN (WC_false rfl rfl (WC_skip (thenN (WC_seq (WC_seq (WC_region (Lq (q_move rfl) (Lq (q_len Tryd.underlying102 rfl) (Lq (q_move rfl) (WL_nil (thenN (WC_block ?_))))))))))))))
            refine WC_loopE (α := Nat × List MR) (fun (k, Lk) => ls.length - k)
              (fun (k, Lk) => [(0, .pointer (some ⟨h, 0, none⟩)), (1, .int .i64 i), (5, .pointer (some ⟨b5, 0, none⟩)), (6, .pointer (some ⟨b6, 0, none⟩)), (10, .slice Ad later.length cd), (12, .pointer (some ⟨b48, 0, none⟩)), (13, .pointer (some ⟨b13, 0, none⟩)), (80, .slice A3 ls.length c3), (81, .int .i64 ls.length), (82, .int .i64 k)])
              (fun (k, Lk) => (hdP h A H.ops.length cap m H.total :: mpP m L :: mkP Lk :: [(b13, cellsO (opC { effF o with at_ := td.at_, text := o.text } none 0) 31)] :: [(b48, cellsO [.int .i64 i, .slice none 0 0, .bool false] 101)] :: [(b6, cellsO (opC zeroOp none 0) 31)] :: [(b5, cellsO (opC o A1 c1) 31)] :: Ps))
              (fun (k, Lk) => (AllF Lk nowF :: RdF rsl A3 c3 ls :: RdF opD Ad cd later :: RdF rgD A1 c1 o.rs :: RdF rgD none 0 [] :: barF :: RdF opD A cap H.ops :: AllF L nowF :: RdF rgD Ao co o.rs :: As))
              (fun (k, Lk) => HR ⟨setNow H.ents ls k, H.total⟩ Lk ∧ keys Lk = keys L ∧ k ≤ ls.length)
              (0, L) ?_ (.cons rfl (.cons rfl (.cons rfl (.cons rfl (.cons rfl (.cons rfl (.cons rfl (.cons rfl (.cons rfl (.cons rfl (.nil _))))))))))) (List.Sublist.cons_cons _ (List.Sublist.cons_cons _ (List.Sublist.cons_cons _ (List.Sublist.cons_cons _ (List.Sublist.cons_cons _ (List.Sublist.cons_cons _ (List.Sublist.cons_cons _ (List.Sublist.refl _)))))))) (memc (.tail _ (.tail _ (.tail _ (.tail _ (.tail _ (.tail _ (.tail _ (.tail _ (.tail _ (.tail _ (.tail _ (.tail _ (.tail _ (.tail _ (.head _))))))))))))))) (memc (.head _) (memc (.tail _ (.tail _ (.tail _ (.tail _ (.tail _ (.tail _ (.head _))))))) (fun _ h => .tail _ (.tail _ (.tail _ (.tail _ (.tail _ (.tail _ (.tail _ (.tail _ (.tail _ (.tail _ h))))))))))))) ?_
            · exact ⟨by rw [setNow_zero]; exact hr, rfl, Nat.zero_le _⟩
            · rintro ⟨k, Lk⟩ hI
              have hkls : k ≤ ls.length := hI.2.2
              refine WC_seq (WC_region (Lq (q_lss rfl rfl) (WL_nil (thenN (WC_seq (WC_cond rfl (fun h83 => ?_) (fun h83 => ?_)))))))
              · refine WC_skip (thenN (WC_seq (WC_block (WC_seq ?_))))
                try simp only [Bp, Bq] at *
                have hk : k < ls.length := by omega
                have hke : k < H.ents.length := by omega
                refine WC_elem (k := k) (.tail _ (.head _)) (List.getElem?_eq_getElem hk) (rsl_open _) fun b18 q18 y18 e18 => ?_
                cases e18
                refine WC_region (Lq (q_move rfl) (Lq (q_idxRd Tryd.underlying102 ti29 rfl rfl (by omega) (by omega)) (Lq (q_loadF1 (j := 0) Tryd.underlying29 rfl rfl (.head _) rfl rfl) (Lq (q_assign rfl) (Lq (q_assign rfl) (WL_nil (thenN ?_)))))))
                have hko : k < H.ops.length := by omega
                have hop := ops_at hke
                refine WC_elem (k := k) (.tail _ (.tail _ (.tail _ (.tail _ (.tail _ (.tail _ (.tail _ (.tail _ (.head _))))))))) (List.getElem?_eq_getElem hko) (op_open _) fun bo qo yo eo => ?_
                cases eo
                have hks : k < (setNow H.ents ls k).length := by rw [setNow_length]; exact hke
                have hsk : (setNow H.ents ls k)[k] = H.ents[k] := by have h1 := setNow_get H.ents ls k hke; rw [List.getElem?_eq_getElem hks] at h1; exact Option.some.inj h1
                obtain ⟨jm, xm, hjm, hxm, hgm⟩ := hI.1.look hks
                obtain ⟨xk, xb, xA, xc⟩ := xm
                simp only [hsk] at hxm hgm
                obtain rfl : xk = markAt k H.ents[k] := hxm
                rw [← hop, hI.2.1] at hgm
                refine WC_draw _ _ [17] (.c 0 0 (.c 1 0 (.c 2 0 (.c 3 0 (.c 4 0 (.c 5 0 (.c 6 0 (.c 7 0 (.c 8 0 (.c 9 0 (.c 10 0 (.c 11 0 (.c 12 0 (.c 13 0 (.c 14 0 (.c 15 0 (.c 16 0 (.c 17 3 .nil)))))))))))))))))) mixed (fun _ _ _ _ h => h) (List.Sublist.cons_cons _ (List.Sublist.cons_cons _ (List.Sublist.cons _ (List.Sublist.cons_cons _ (List.Sublist.cons_cons _ (List.Sublist.cons_cons _ (List.Sublist.cons_cons _ (List.Sublist.refl _)))))))) (fun _ h => h) (by kernel_rfl) (by decide) fun ws Z0 => Qe rfl (q_move rfl) (Qe rfl (q_nil rfl) (Qe rfl (q_field (o' := 1) Tryd.underlying97 rfl ti95 rfl rfl) (Qe rfl (q_load1 Tryd.underlying95 rfl rfl own0 rfl) (Qe rfl (q_move rfl) (Qe rfl (q_nil rfl) (Qe rfl (q_field (o' := 0) Tryd.underlying97 rfl ti45 rfl rfl) (Qe rfl (q_load1 Tryd.underlying45 rfl rfl own0 rfl) (Qe rfl (q_move rfl) ?_))))))))
                refine Qe rfl (q_idxRd Tryd.underlying45 ti31 rfl rfl (by omega) (by omega)) (Qe rfl (q_field (o' := _ + 0) Tryd.underlying31 rfl ti28 rfl rfl) (Qe rfl (q_field (o' := _ + 0) Tryd.underlying28 rfl ti25 rfl rfl) (Qe rfl (q_loadFN (k := 0) (vs := [_, _]) Tryd.underlying25 rfl ti25 rfl (.head _) rfl rfl rfl) (Qe rfl (q_lookS keyT hgm Tryd.underlying95 ti99 rfl rfl (ownS (own0))) (Qe rfl (q_move rfl) (Qe rfl (q_nil rfl) (Qe rfl (q_field (o' := 1) Tryd.underlying101 rfl ti29 rfl rfl) (WE_end (WF_last rfl rfl (OW_storeP (i := jm) ti29 rfl rfl rfl (mkP_get hjm) (.s (.z)) (.s (.s (.z))) (WF_nil ?_)))))))))))
                refine blockN (thenN ?_)
                have hmk : (mkP Lk).set jm (xb, cellsO [.int .i64 (markAt k H.ents[k]).num, .slice y18.1 ls[k].length y18.2, .bool (markAt k H.ents[k]).off] 101) = mkP (Lk.set jm ⟨markAt k ⟨H.ents[k].op, ls[k], H.ents[k].off⟩, xb, y18.1, y18.2⟩) := by rw [mkP_set]; rfl
                rw [hmk]
                refine WC_fact (A := AllF (Lk.set jm ⟨markAt k ⟨H.ents[k].op, ls[k], H.ents[k].off⟩, xb, y18.1, y18.2⟩) nowF) (fun Z w hs => now_set (hs.facts _ (.tail _ (.tail _ (.tail _ (.tail _ (.tail _ (.head _))))))) (hs.facts _ (.tail _ (.tail _ (.tail _ (.tail _ (.head _))))))) (WC_region (Lq (q_add rfl rfl (wr64 (by omega))) (Lq (q_move rfl) (WL_nil (thenK ?_)))))
                refine ⟨(k + 1, Lk.set jm ⟨markAt k ⟨H.ents[k].op, ls[k], H.ents[k].off⟩, xb, y18.1, y18.2⟩), ?_, (.cons rfl (.cons rfl (.cons rfl (.cons rfl (.cons rfl (.cons rfl (.cons rfl (.cons rfl (.cons rfl (.cons rfl (.nil _))))))))))), (List.Sublist.cons_cons _ (List.Sublist.cons_cons _ (List.Sublist.cons_cons _ (List.Sublist.cons_cons _ (List.Sublist.cons_cons _ (List.Sublist.cons_cons _ (List.Sublist.cons_cons _ (List.Sublist.refl _)))))))), (memc (.head _) (fun _ h => .tail _ (.tail _ (.tail _ (.tail _ (.tail _ (.tail _ (.tail _ h))))))))⟩
                refine ⟨by show ls.length - (k + 1) < ls.length - k; omega, ?_, (keys_set (y := ⟨markAt k ⟨H.ents[k].op, ls[k], H.ents[k].off⟩, xb, y18.1, y18.2⟩) hjm rfl rfl rfl).trans hI.2.1, by show k + 1 ≤ ls.length; omega⟩
                rw [setNow_succ _ _ _ hke hk]
                exact hI.1.upd hks hjm (by simp only [hsk]) ⟨H.ents[k].op, ls[k], H.ents[k].off⟩ (by simp only [hsk]) (by have := movedAll_le hmv _ (List.getElem_mem hk); show ls[k].length ≤ _; omega) _ _
              · refine WC_exit (thenExit (thenExit (blockHit (thenN ?_))))
                try simp only [Bp, Bq] at *
                refine WC_pick (.s (.s (.z))) (WC_pick (.s (.s (.z))) (WC_pick (.s (.s (.z))) (WC_pick (.s (.s (.s (.s (.s (.s (.z))))))) (WC_pick (.s (.s (.s (.s (.s (.s (.z))))))) (WC_pick (.s (.s (.s (.s (.s (.s (.z))))))) (WC_pick (.s (.s (.s (.s (.s (.s (.z))))))) (WC_draw _ _ [12] (.c 0 0 (.c 1 0 (.c 2 0 (.c 3 0 (.c 4 0 (.c 5 0 (.c 6 2 (.c 7 0 (.c 8 0 (.c 9 2 (.c 10 0 (.c 11 0 (.c 12 3 .nil))))))))))))) mixed (fun _ _ _ _ h => h) (List.Sublist.cons_cons _ (List.Sublist.cons_cons _ (List.Sublist.cons_cons _ (List.Sublist.cons_cons _ (List.Sublist.cons_cons _ (List.Sublist.cons_cons _ (List.Sublist.cons_cons _ (List.Sublist.refl _)))))))) (fun _ h => h) (by kernel_rfl) (by decide) fun ws Z0 => Qe rfl (q_move rfl) (Qe rfl (q_field (o' := 3) Tryd.underlying31 rfl ti3 rfl rfl) ?_))))))))
                refine Qe rfl (q_load1 Tryd.underlying3 rfl rfl own0 rfl) (Qe rfl (q_field (o' := 3) Tryd.underlying31 rfl ti3 rfl rfl) (Qe rfl (q_load1 Tryd.underlying3 rfl rfl own0 rfl) (Qe rfl (q_loadN (vs := [_, _, _, _, _, _, _, _, _]) Tryd.underlying31 rfl ti31 rfl (ownS (ownS (ownS (own0)))) rfl rfl) (WE_main rfl rfl (OW_call0 (width_s o A1 c1 (by have := ho.text; omega)) (.cons rfl (.nil)) (by decide) (memc (.tail _ (.tail _ (.tail _ (.tail _ (.tail _ (.tail _ (.head _))))))) mem0) fun u21_6 Lo fs hres => ?_)))))
                obtain ⟨rfl, rfl, rfl⟩ := hres
                refine ⟨⟨(List.Sublist.cons_cons _ (List.Sublist.cons_cons _ (List.Sublist.cons_cons _ (List.Sublist.cons_cons _ (List.Sublist.cons_cons _ (List.Sublist.cons_cons _ (List.Sublist.cons_cons _ (List.Sublist.refl _)))))))), (.head _)⟩, ?_⟩
                refine Qe rfl (q_add rfl rfl (show IntKind.i64.wrap (td.at_ + widthF o) = td.at_ + widthF o from wr64 (by have := htf.lo; have := htf.hi; have := widthF_le o; omega))) (Qe rfl (q_build (.cons rfl (.cons rfl (.nil))) (bd37_0_1Xw18 _ _)) (WE_main rfl rfl (OW_slice1 (cs := [_, _]) Tryd.underlying29 ti37 (by decide) (by decide) rfl rfl rfl rfl (by decide) fun b114 => ?_)))
                refine ⟨⟨(List.Sublist.cons _ (List.Sublist.cons_cons _ (List.Sublist.cons_cons _ (List.Sublist.cons_cons _ (List.Sublist.cons_cons _ (List.Sublist.cons_cons _ (List.Sublist.cons_cons _ (List.Sublist.cons_cons _ (List.Sublist.refl _))))))))), (.head _)⟩, ?_⟩
                refine Qe rfl (q_nil rfl) (Qe rfl (q_field (o' := 1) Tryd.underlying101 rfl ti29 rfl rfl) (WE_freeze1 (e := rgD) (u := ⟨td.at_, td.at_ + widthF o⟩) (.z) (fun Z w hs => rfl) (WE_end (WF_last rfl rfl (OW_store1 ti29 rfl rfl rfl (.s (.z)) (.s (.z)) (WF_nil (blockN (thenK ?_))))))))
                refine ⟨(setNow H.ents ls H.ents.length, Lk, [⟨td.at_, td.at_ + widthF o⟩], some ⟨b114, 0, none⟩, 1, { effF o with at_ := td.at_, text := o.text }, none, 0), ?_, (.cons rfl (.cons rfl (.cons rfl (.cons rfl (.cons rfl (.cons rfl (.cons rfl (.nil _)))))))), (List.Sublist.cons_cons _ (List.Sublist.cons_cons _ (List.Sublist.cons_cons _ (List.Sublist.cons_cons _ (List.Sublist.cons_cons _ (List.Sublist.cons_cons _ (List.Sublist.cons_cons _ (List.Sublist.refl _)))))))), (memc (.tail _ (.tail _ (.tail _ (.tail _ (.tail _ (.tail _ (.head _))))))) (memc (.head _) (memc (.tail _ (.tail _ (.head _))) (fun _ h => .tail _ (.tail _ (.tail _ (.tail _ h)))))))⟩
                have hkk : k = ls.length := by have := hI.2.2; omega
                subst hkk
                refine ⟨by rw [← hlsl]; exact hI.1, hI.2.1, ?_, setNow_ops _ _ _, by show (1 : Nat) ≤ _; omega⟩
                unfold midF
                rw [if_pos h57, hmv]
        · refine WC_seq (WC_region (Lq (q_eql rfl rfl) (Lq (q_assign rfl) (WL_nil (thenN (WC_cond rfl (fun h117 => ?_) (fun h117 => ?_)))))))
          · refine WC_seq (WC_elem (k := 0) (.head _) rfl (op_open _) fun b23 q23 y23 e23 => ?_)
            cases e23
            refine WC_region (Lq (q_move rfl) (Lq (q_idxRd Tryd.underlying45 ti31 rfl rfl (by decide) (by simp)) (Lq (q_field (o' := _ + 5) Tryd.underlying31 rfl ti29 rfl rfl) (Lq (q_loadF1 (j := 5) Tryd.underlying29 rfl rfl (.head _) rfl rfl) (Lq (q_field (o' := 5) Tryd.underlying31 rfl ti29 rfl rfl) (WL_main rfl (OW_store1 ti29 rfl rfl rfl (.s (.s (.s (.s (.s (.z)))))) (.z) (WL_nil (thenN (WC_fr [(13, _), (12, _), (10, _), (7, _), (6, _), (5, _), (0, _), (1, _)] (.cons rfl (.cons rfl (.cons rfl (.cons rfl (.cons rfl (.cons rfl (.cons rfl (.cons rfl (.nil _))))))))) (WC_pick (.s (.s (.s (.s (.z))))) ?_)))))))))))
            refine WC_pick (.s (.s (.s (.s (.z))))) (WC_pick (.s (.s (.s (.s (.z))))) (WC_pick (.s (.s (.s (.s (.s (.s (.z))))))) (WC_pick (.s (.s (.s (.s (.s (.s (.z))))))) (WC_pick (.s (.s (.s (.s (.s (.s (.z))))))) (WC_pick (.s (.s (.s (.s (.s (.s (.z))))))) (WC_region (Lq (q_move rfl) (Lq (q_loadN (vs := [_, _, _, _, _, _, _, _, _]) Tryd.underlying31 rfl ti31 rfl own0 rfl rfl) (WL_main rfl (OW_call0 (clone_s { effF o with rs := td.rs } y23.1 y23.2 htf.rs) (.cons rfl (.nil)) (by decide) (memc (.tail _ (.head _)) mem0) fun u24_2 Lo fs hres => ?_))))))))))
            obtain ⟨A5, c5, rfl, rfl, rfl⟩ := hres
            refine Lq (q_part rfl (fd31_3Xw18 _ _ _ _ _ _ _ _ _ _ _)) (Lq (q_nil rfl) (Lq (q_field (o' := 1) Tryd.underlying101 rfl ti29 rfl rfl) (WL_main rfl (OW_store1 ti29 rfl rfl rfl (.s (.z)) (.s (.z)) (WL_nil (blockN (thenK ?_)))))))
            refine ⟨(H.ents, L, td.rs, A5, c5, { effF o with rs := td.rs }, y23.1, y23.2), ?_, (.cons rfl (.cons rfl (.cons rfl (.cons rfl (.cons rfl (.cons rfl (.cons rfl (.nil _)))))))), (List.Sublist.cons_cons _ (List.Sublist.cons_cons _ (List.Sublist.cons_cons _ (List.Sublist.cons_cons _ (List.Sublist.cons_cons _ (List.Sublist.cons_cons _ (List.Sublist.cons_cons _ (List.Sublist.refl _)))))))), (memc (.tail _ (.tail _ (.head _))) (memc (.head _) (memc (.tail _ (.tail _ (.tail _ (.tail _ (.tail _ (.tail _ (.tail _ (.tail _ (.tail _ (.tail _ (.tail _ (.tail _ (.head _))))))))))))) (memc (.tail _ (.tail _ (.tail _ (.tail _ (.head _))))) (fun _ h => .tail _ (.tail _ (.tail _ (.tail _ (.tail _ (.tail _ (.tail _ (.tail _ h))))))))))))⟩
            try simp only [Bp, Bq] at *
            refine ⟨hr, rfl, ?_, rfl, htf.rs⟩
            unfold midF
            rw [if_neg h57, if_pos h117]
          · refine WC_seq (WC_region (Lq (q_eql rfl rfl) (Lq (q_assign rfl) (WL_nil (thenN (WC_fr [(130, _), (13, _), (12, _), (10, _), (7, _), (6, _), (5, _), (0, _), (1, _)] (.cons rfl (.cons rfl (.cons rfl (.cons rfl (.cons rfl (.cons rfl (.cons rfl (.cons rfl (.cons rfl (.nil _)))))))))) (WC_cond rfl (fun h130 => ?_) (fun h130 => ?_))))))))
            · try simp only [Bp, Bq] at *
              obtain ⟨kt, hkt⟩ := htgt h130
              refine WC_region (Lq (q_move rfl) (Lq (q_move rfl) (Lq (q_loadN (vs := [_, _, _, _, _, _, _, _, _]) Tryd.underlying31 rfl ti31 rfl (ownS (ownS (ownS (ownS (ownS (ownS (own0))))))) rfl rfl) (WL_main rfl (OW_call3 (turned_s h m cap A H L hr i hil o A1 c1 kt hkt) (.cons rfl (.cons rfl (.cons rfl (.nil)))) (by decide) (.s (.s (.z))) (.s (.s (.z))) (.s (.s (.z))) (memc (.tail _ (.tail _ (.tail _ (.tail _ (.tail _ (.tail _ (.tail _ (.tail _ (.head _))))))))) (memc (.tail _ (.tail _ (.tail _ (.tail _ (.tail _ (.tail _ (.tail _ (.tail _ (.tail _ (.head _)))))))))) mem0)) fun u26_3 Lo fs hres => ?_)))))
              obtain ⟨L2, A4, c4, hr2, hk2, rfl, rfl, rfl⟩ := hres
              refine WL_pick (.s (.s (.z))) (WL_pick (.s (.s (.z))) (WL_pick (.s (.s (.z))) (WL_pick (.s (.s (.s (.s (.s (.s (.z))))))) (WL_pick (.s (.s (.s (.s (.s (.s (.z))))))) (WL_pick (.s (.s (.s (.s (.s (.s (.z))))))) (WL_pick (.s (.s (.s (.s (.s (.s (.z))))))) (WL_main rfl (OW_storeN (cs' := [_, _, _, _, _, _, _, _, _]) (vs := [_, _, _, _, _, _, _, _, _]) ti31 rfl rfl rfl rfl rfl (Nat.le_of_ble_eq_true rfl) (.z) (WL_nil (blockN (thenK ?_)))))))))))
              refine ⟨((turnedF H i o).1, L2, [], none, 0, (turnedF H i o).2, A4, c4), ?_, (.cons rfl (.cons rfl (.cons rfl (.cons rfl (.cons rfl (.cons rfl (.cons rfl (.nil _)))))))), (List.Sublist.cons_cons _ (List.Sublist.cons_cons _ (List.Sublist.cons_cons _ (List.Sublist.cons_cons _ (List.Sublist.cons_cons _ (List.Sublist.cons_cons _ (List.Sublist.cons_cons _ (List.Sublist.refl _)))))))), (memc (.head _) (memc (.tail _ (.tail _ (.tail _ (.tail _ (.tail _ (.tail _ (.tail _ (.tail _ (.head _))))))))) (memc (.tail _ (.head _)) (memc (.tail _ (.tail _ (.tail _ (.head _)))) (fun _ h => .tail _ (.tail _ (.tail _ (.tail _ (.tail _ (.tail _ (.tail _ h)))))))))))⟩
              refine ⟨hr2, hk2, ?_, turned_ops H i o, by show (0 : Nat) ≤ _; omega⟩
              unfold midF
              rw [if_neg h57, if_neg h117, if_pos h130]
            · try simp only [Bp, Bq] at *
              exfalso
              omega
      · rintro ⟨es, L1, nw, An, cn, eff, Ae, ce⟩ hM
        refine WC_seq (WC_draw _ _ [9] (.c 0 0 (.c 1 0 (.c 2 0 (.c 3 0 (.c 4 0 (.c 5 2 (.c 6 0 (.c 7 0 (.c 8 0 (.c 9 3 .nil)))))))))) mixed (fun _ _ _ _ h => h) (List.Sublist.cons_cons _ (List.Sublist.cons_cons _ (List.Sublist.cons_cons _ (List.Sublist.cons_cons _ (List.Sublist.cons_cons _ (List.Sublist.cons_cons _ (List.Sublist.cons_cons _ (List.Sublist.refl _)))))))) (fun _ h => h) (by kernel_rfl) (by decide) fun ws Z0 => Qe rfl (q_move rfl) (Qe rfl (q_nil rfl) (Qe rfl (q_field (o' := 2) Tryd.underlying97 rfl ti3 rfl rfl) (Qe rfl (q_load1 Tryd.underlying3 rfl rfl (ownS (ownS (ownS (ownS (own0))))) rfl) (Qe rfl (q_loadN (vs := [_, _, _, _, _, _, _, _, _]) Tryd.underlying31 rfl ti31 rfl (ownS (ownS (ownS (own0)))) rfl rfl) ?_)))))
        refine WE_main rfl rfl (OW_call0 (width_s o A1 c1 (by have := ho.text; omega)) (.cons rfl (.nil)) (by decide) (memc (.tail _ (.tail _ (.tail _ (.tail _ (.tail _ (.tail _ (.tail _ (.head _)))))))) mem0) fun u27_5 Lo fs hres => ?_)
        obtain ⟨rfl, rfl, rfl⟩ := hres
        refine ⟨⟨(List.Sublist.cons_cons _ (List.Sublist.cons_cons _ (List.Sublist.cons_cons _ (List.Sublist.cons_cons _ (List.Sublist.cons_cons _ (List.Sublist.cons_cons _ (List.Sublist.cons_cons _ (List.Sublist.refl _)))))))), (.head _)⟩, ?_⟩
        refine Qe rfl (q_add rfl rfl (wr64 (by have := hr.tot; have := widthF_le o; omega))) (Qe rfl (q_nil rfl) (Qe rfl (q_field (o' := 2) Tryd.underlying97 rfl ti3 rfl rfl) (WE_end (WF_last rfl rfl (OW_store1 ti3 rfl rfl rfl (.s (.s (.z))) (.s (.s (.s (.s (.z))))) (WF_nil (thenN (WC_seq (WC_draw _ _ [8] (.c 0 0 (.c 1 0 (.c 2 0 (.c 3 0 (.c 4 0 (.c 5 0 (.c 6 0 (.c 7 0 (.c 8 3 .nil))))))))) mixed (fun _ _ _ _ h => h) (List.Sublist.cons_cons _ (List.Sublist.cons_cons _ (List.Sublist.cons_cons _ (List.Sublist.cons_cons _ (List.Sublist.cons_cons _ (List.Sublist.cons _ (List.Sublist.cons_cons _ (List.Sublist.refl _)))))))) (fun _ h => h) (by kernel_rfl) (by decide) fun ws Z0 => Qe rfl (q_move rfl) (Qe rfl (q_nil rfl) (Qe rfl (q_field (o' := 1) Tryd.underlying97 rfl ti95 rfl rfl) ?_)))))))))))
        refine Qe rfl (q_load1 Tryd.underlying95 rfl rfl (ownS (ownS (ownS (ownS (own0))))) rfl) (Qe rfl (q_field (o' := 0) Tryd.underlying31 rfl ti28 rfl rfl) (Qe rfl (q_field (o' := 0) Tryd.underlying28 rfl ti25 rfl rfl) (Qe rfl (q_loadN (vs := [_, _]) Tryd.underlying25 rfl ti25 rfl (ownS (ownS (ownS (own0)))) rfl rfl) (Qe rfl (q_move rfl) (WE_end (WF_last rfl rfl (OW_mapNew keyT Tryd.underlying95 rfl rfl rfl (hr.look0 hw0) (.s (.s (.s (.s (.s (.z)))))) (WF_nil (thenN (WC_fr [(0, _), (1, _), (5, _), (6, _), (10, _), (13, _)] (.cons rfl (.cons rfl (.cons rfl (.cons rfl (.cons rfl (.cons rfl (.nil _))))))) (WC_seq ?_)))))))))))
        obtain ⟨xs, hxs⟩ : ∃ xs, xs = H.ops.take i := ⟨_, rfl⟩
        have hxl : xs.length = i := by rw [hxs, List.length_take]; omega
        obtain ⟨B2, hB2⟩ : ∃ B, B = cutA A 0 i 9 := ⟨_, rfl⟩
        refine WC_fact (A := RdF opD B2 xs.length xs) (fun Z w hs => by rw [hB2, hxl, hxs]; exact RdS.cut (lo := 0) (hi := i) (m := i) (hs.facts _ (.tail _ (.tail _ (.tail _ (.tail _ (.tail _ (.tail _ (.tail _ (.tail _ (.tail _ (.head _))))))))))) (Nat.zero_le _) (by omega) (Nat.le_refl _) (by omega)) (WC_draw _ _ [15] (.c 0 0 (.c 1 0 (.c 2 0 (.c 3 0 (.c 4 0 (.c 5 0 (.c 6 0 (.c 7 0 (.c 8 0 (.c 11 0 (.c 9 2 (.c 10 2 (.c 12 2 (.c 13 0 (.c 14 0 (.c 15 3 .nil)))))))))))))))) mixed (fun _ _ _ _ h => h) (List.Sublist.cons_cons _ (List.Sublist.cons_cons _ (List.Sublist.cons_cons _ (List.Sublist.cons_cons _ (List.Sublist.cons_cons _ (List.Sublist.cons_cons _ (List.Sublist.cons_cons _ (List.Sublist.refl _)))))))) (fun _ h => h) (by kernel_rfl) (by decide) fun ws Z0 => Qe rfl (q_move rfl) (Qe rfl (q_move rfl) (Qe rfl (q_nil rfl) (Qe rfl (q_field (o' := 0) Tryd.underlying97 rfl ti45 rfl rfl) ?_))))
        refine Qe rfl (q_load1 Tryd.underlying45 rfl rfl (ownS (ownS (ownS (ownS (own0))))) rfl) (Qe rfl (q_move rfl) (Qe rfl (q_move rfl) (Qe rfl (q_cutHiMax Tryd.underlying45 ti31 rfl rfl rfl (by omega) (by omega) (by omega)) (Qe rfl (q_loadN (vs := [_, _, _, _, _, _, _, _, _]) Tryd.underlying31 rfl ti31 rfl (ownS (ownS (ownS (own0)))) rfl rfl) (Qe rfl (q_move rfl) (WE_main rfl rfl (OW_slice1 (cs := [_, _, _, _, _, _, _, _, _]) Tryd.underlying45 ti31 (by decide) (by decide) rfl rfl rfl rfl (by decide) fun b162 => ?_)))))))
        refine ⟨⟨(List.Sublist.cons _ (List.Sublist.cons_cons _ (List.Sublist.cons_cons _ (List.Sublist.cons_cons _ (List.Sublist.cons_cons _ (List.Sublist.cons_cons _ (List.Sublist.cons_cons _ (List.Sublist.cons_cons _ (List.Sublist.refl _))))))))), (.head _)⟩, ?_⟩
        refine WE_main rfl rfl (OW_appendF (e := opD) (xs := xs) (news := opC o A1 c1) Tryd.underlying45 ti31 rfl (by decide) (by rw [hB2, hxl]; rfl) rfl (.tail _ (.head _)) own0 rfl rfl (by omega) (by unfold maxLen; omega) (by decide) fun v163 p163 css163 hr163 => ?_)
        refine ⟨⟨(List.Sublist.cons _ (List.Sublist.cons _ (List.Sublist.cons_cons _ (List.Sublist.cons_cons _ (List.Sublist.cons_cons _ (List.Sublist.cons_cons _ (List.Sublist.cons_cons _ (List.Sublist.cons_cons _ (List.Sublist.cons_cons _ (List.Sublist.refl _)))))))))), (.tail _ (.head _))⟩, ?_⟩
        refine WE_main rfl rfl (OW_appendS (e := opD) (ys := later) Tryd.underlying45 ti31 rfl (by decide) rfl rfl hr163 (.tail _ (.tail _ (.tail _ (.tail _ (.tail _ (.tail _ (.tail _ (.tail _ (.head _))))))))) (by omega) (by unfold maxLen; omega) (by decide) (DelAt.perm (.z)) fun v165 p165 css165 hr165 => ?_)
        refine ⟨⟨(List.Sublist.cons _ (List.Sublist.cons _ (List.Sublist.cons_cons _ (List.Sublist.cons_cons _ (List.Sublist.cons_cons _ (List.Sublist.cons_cons _ (List.Sublist.cons_cons _ (List.Sublist.cons_cons _ (List.Sublist.cons_cons _ (List.Sublist.refl _)))))))))), (.tail _ (.tail _ (.head _)))⟩, ?_⟩
        refine Qe rfl (q_nil rfl) (Qe rfl (q_field (o' := 0) Tryd.underlying97 rfl ti45 rfl rfl) (WE_fact (A := RepsF opD (xs ++ ([o] ++ later)) (css163 ++ ([opC o A1 c1] ++ css165))) (fun Z w hs => Reps.append (hs.facts _ (.tail _ (.head _))) (Reps.append (.cons ⟨A1, c1, rfl, hs.facts _ (.tail _ (.tail _ (.tail _ (.tail _ (.tail _ (.tail _ (.tail _ (.tail _ (.tail _ (.tail _ (.head _)))))))))))⟩ .nil) (hs.facts _ (.head _)))) (WE_freeze (e := opD) (css := css163 ++ ([opC o A1 c1] ++ css165)) (xs := xs ++ ([o] ++ later)) (by have h1 := hr165; simp only [List.flatten_append, List.flatten_cons, List.flatten_nil, List.append_nil, List.nil_append, List.append_assoc] at h1 ⊢; exact h1) (.z) (by simp only [List.length_append, List.length_cons, List.length_nil]; omega) (.head _) fun A9 c9 e9 => ?_)))
        subst e9
        refine WE_end (WF_last rfl rfl (OW_store1 ti45 rfl rfl rfl (.z) (.s (.s (.s (.s (.s (.z)))))) (WF_nil (thenN (WC_fr [(0, _), (1, _), (6, _), (13, _)] (.cons rfl (.cons rfl (.cons rfl (.cons rfl (.nil _))))) (WC_seq (WC_seq (WC_pick (.s (.s (.s (.s (.s (.s (.s (.z)))))))) (WC_pick (.s (.s (.s (.z)))) (WC_glue ?_))))))))))
        have hglue : mkP L1 ++ [(b48, cellsO [.int .i64 i, .slice An nw.length cn, .bool false] 101)] = mkP (L1 ++ [⟨markAt i ⟨o, nw, false⟩, b48, An, cn⟩]) := by simp [mkP, mrO, markAt]
        rw [hglue]
        refine WC_fact (A := AllF (L1 ++ [⟨markAt i ⟨o, nw, false⟩, b48, An, cn⟩]) nowF) (fun Z w hs x hx => by rcases List.mem_append.1 hx with hx | hx; exact hs.facts _ (.tail _ (.tail _ (.tail _ (.tail _ (.tail _ (.tail _ (.tail _ (.tail _ (.tail _ (.tail _ (.head _))))))))))) x hx; obtain rfl := List.mem_singleton.1 hx; exact hs.facts _ (.tail _ (.tail _ (.tail _ (.tail _ (.tail _ (.tail _ (.tail _ (.tail _ (.tail _ (.head _))))))))))) ?_
        have hesl : es.length = H.ents.length := hM.len
        have hsl2 : Sames ((es.drop i).map (·.op)) later := by rw [List.map_drop, hM.ops]; exact hsl
        have hwn : whereId es o.c o.n = none := whereId_ops hM.ops hw0
        obtain ⟨FF, hFF⟩ : ∃ F, F = newEnts i o nw es later := ⟨_, rfl⟩
        obtain ⟨G, hG⟩ : ∃ G, G = xs ++ ([o] ++ later) := ⟨_, rfl⟩
        have hGF : FF.map (·.op) = G := by rw [hFF, newEnts_ops hsl2, hM.ops, hG, hxs]
        have hGl : G.length = FF.length := by rw [← hGF, List.length_map]
        have hFl : FF.length = H.ents.length + 1 := by rw [hFF, newEnts_length hsl2 (by omega)]; omega
        have hstart := HN.start hM.hr (by simpa using (by omega : i ≤ es.length)) hsl2 hwn (o := o) (nw := nw) b48 An cn
        rw [← hFF] at hstart
        rw [← hG]
        refine WC_region (Lq (q_move rfl) (Lq (q_assign rfl) (WL_nil (thenN (WC_block (WC_pick (.s (.s (.s (.z)))) (WC_pick (.s (.s (.s (.z)))) (WC_pick (.s (.s (.s (.s (.s (.s (.z))))))) (WC_pick (.s (.s (.s (.s (.s (.s (.z))))))) (WC_pick (.s (.s (.s (.s (.z))))) ?_))))))))))
        refine WC_loopE (α := Nat × List MR) (fun (k, Lk) => FF.length - k)
          (fun (k, Lk) => [(0, .pointer (some ⟨h, 0, none⟩)), (6, .pointer (some ⟨b6, 0, none⟩)), (13, .pointer (some ⟨b13, 0, none⟩)), (18, .int .i64 k)])
          (fun (k, Lk) => (mkP Lk :: hdP h A9 G.length c9 m (H.total + widthF o) :: [(m, mapO (keys L ++ [⟨o.c, o.n, b48⟩]))] :: [(b13, cellsO (opC eff Ae ce) 31)] :: [(b6, cellsO (opC zeroOp none 0) 31)] :: Ps))
          (fun (k, Lk) => (AllF Lk nowF :: RdF opD A9 c9 G :: RdF rgD Ae ce eff.rs :: barF :: RdF opD A cap H.ops :: AllF L nowF :: RdF rgD Ao co o.rs :: As))
          (fun (k, Lk) => k ≤ FF.length ∧ HN FF Lk (numF i k) ∧ keys Lk = keys L ++ [⟨o.c, o.n, b48⟩])
          (i, L1 ++ [⟨markAt i ⟨o, nw, false⟩, b48, An, cn⟩]) ?_ (.cons rfl (.cons rfl (.cons rfl (.cons rfl (.nil _))))) (List.Sublist.cons_cons _ (List.Sublist.cons_cons _ (List.Sublist.cons_cons _ (List.Sublist.cons_cons _ (List.Sublist.cons_cons _ (List.Sublist.cons _ (List.Sublist.cons _ (List.Sublist.refl _)))))))) (memc (.head _) (memc (.tail _ (.head _)) (memc (.tail _ (.tail _ (.tail _ (.tail _ (.tail _ (.tail _ (.tail _ (.tail _ (.tail _ (.head _)))))))))) (fun _ h => .tail _ (.tail _ (.tail _ (.tail _ (.tail _ (.tail _ (.tail _ (.tail _ (.tail _ (.tail _ (.tail _ (.tail _ (.tail _ (.tail _ (.tail _ h)))))))))))))))))) ?_
        · exact ⟨by omega, hstart, by unfold keys; rw [List.map_append]; show Go.Proofs.YtggdddkbhigjoaaDoor.keys L1 ++ _ = _; rw [show Go.Proofs.YtggdddkbhigjoaaDoor.keys L1 = keys L from hM.keys]; rfl⟩
        · rintro ⟨k, Lk⟩ hI
          have hkF : k ≤ FF.length := hI.1
          refine WC_seq (WC_seq (WC_region (Lq (q_move rfl) (Lq (q_move rfl) (Lq (q_nil rfl) (Lq (q_field (o' := 0) Tryd.underlying97 rfl ti45 rfl rfl) (Lq (q_load1 Tryd.underlying45 rfl rfl (ownS (own0)) rfl) (Lq (q_len Tryd.underlying45 rfl) (Lq (q_lss rfl rfl) (WL_nil (thenN (WC_cond rfl (fun h175 => ?_) (fun h175 => ?_)))))))))))))
          · refine WC_skip (thenN (WC_seq (WC_block ?_)))
            try simp only [Bp, Bq] at *
            have hk : k < FF.length := by omega
            have hko : k < G.length := by omega
            have hop : G[k] = FF[k].op := by simp only [← hGF, List.getElem_map]
            refine WC_elem (k := k) (.tail _ (.head _)) (List.getElem?_eq_getElem hko) (op_open _) fun bo qo yo eo => ?_
            cases eo
            obtain ⟨jm, xm, hjm, hxm, hgm⟩ := hI.2.1.look hk
            obtain ⟨xk, xb, xA, xc⟩ := xm
            obtain rfl : xk = markAt (numF i k k) FF[k] := hxm
            rw [← hop, hI.2.2] at hgm
            refine WC_draw _ _ [17] (.c 0 0 (.c 1 0 (.c 2 0 (.c 3 0 (.c 4 0 (.c 5 0 (.c 6 0 (.c 7 0 (.c 8 0 (.c 9 0 (.c 10 0 (.c 11 0 (.c 12 0 (.c 13 0 (.c 14 0 (.c 15 0 (.c 16 0 (.c 17 3 .nil)))))))))))))))))) mixed (fun _ _ _ _ h => h) (List.Sublist.cons _ (List.Sublist.cons_cons _ (List.Sublist.cons_cons _ (List.Sublist.cons_cons _ (List.Sublist.cons_cons _ (List.Sublist.refl _)))))) (fun _ h => h) (by kernel_rfl) (by decide) fun ws Z0 => Qe rfl (q_move rfl) (Qe rfl (q_nil rfl) (Qe rfl (q_field (o' := 1) Tryd.underlying97 rfl ti95 rfl rfl) (Qe rfl (q_load1 Tryd.underlying95 rfl rfl own0 rfl) (Qe rfl (q_move rfl) (Qe rfl (q_nil rfl) (Qe rfl (q_field (o' := 0) Tryd.underlying97 rfl ti45 rfl rfl) (Qe rfl (q_load1 Tryd.underlying45 rfl rfl own0 rfl) (Qe rfl (q_move rfl) ?_))))))))
            refine Qe rfl (q_idxRd Tryd.underlying45 ti31 rfl rfl (by omega) (by omega)) (Qe rfl (q_field (o' := _ + 0) Tryd.underlying31 rfl ti28 rfl rfl) (Qe rfl (q_field (o' := _ + 0) Tryd.underlying28 rfl ti25 rfl rfl) (Qe rfl (q_loadFN (k := 0) (vs := [_, _]) Tryd.underlying25 rfl ti25 rfl (.head _) rfl rfl rfl) (Qe rfl (q_lookS keyT hgm Tryd.underlying95 ti99 rfl rfl (ownS (own0))) (Qe rfl (q_move rfl) (Qe rfl (q_nil rfl) (Qe rfl (q_field (o' := 0) Tryd.underlying101 rfl ti3 rfl rfl) (WE_end (WF_last rfl rfl (OW_storeP (i := jm) ti3 rfl rfl rfl (mkP_get hjm) (.z) (.z) (WF_nil ?_)))))))))))
            refine blockN (thenN ?_)
            have hmk : (mkP Lk).set jm (xb, cellsO [.int .i64 (k : Int), .slice xA (markAt (numF i k k) FF[k]).now.length xc, .bool (markAt (numF i k k) FF[k]).off] 101) = mkP (Lk.set jm ⟨markAt k FF[k], xb, xA, xc⟩) := by rw [mkP_set]; rfl
            rw [hmk]
            refine WC_fact (A := AllF (Lk.set jm ⟨markAt k FF[k], xb, xA, xc⟩) nowF) (fun Z w hs => now_set (hs.facts _ (.tail _ (.tail _ (.tail _ (.head _))))) (hs.facts _ (.tail _ (.tail _ (.tail _ (.head _)))) ⟨markAt (numF i k k) FF[k], xb, xA, xc⟩ (List.mem_of_getElem? hjm))) (WC_region (Lq (q_move rfl) (Lq (q_add rfl rfl (wr64 (by omega))) (Lq (q_assign rfl) (WL_nil (thenK ?_))))))
            refine ⟨(k + 1, Lk.set jm ⟨markAt k FF[k], xb, xA, xc⟩), ?_, (.cons rfl (.cons rfl (.cons rfl (.cons rfl (.nil _))))), (List.Sublist.cons_cons _ (List.Sublist.cons_cons _ (List.Sublist.cons_cons _ (List.Sublist.cons_cons _ (List.Sublist.cons_cons _ (List.Sublist.refl _)))))), (memc (.head _) (fun _ h => .tail _ (.tail _ (.tail _ (.tail _ (.tail _ h))))))⟩
            exact ⟨by show FF.length - (k + 1) < FF.length - k; omega, by show k + 1 ≤ FF.length; omega, (hI.2.1.upd hk hjm rfl).next, (keys_set (y := ⟨markAt k FF[k], xb, xA, xc⟩) hjm rfl rfl rfl).trans hI.2.2⟩
          · refine WC_exit (thenExit (thenExit (blockHit (thenN (WC_seq (WC_region (Lq (q_loadN (vs := [_, _, _, _, _, _, _, _, _]) Tryd.underlying31 rfl ti31 rfl (ownS (ownS (ownS (own0)))) rfl rfl) (WL_main rfl (OW_storeN (cs' := [_, _, _, _, _, _, _, _, _]) (vs := [_, _, _, _, _, _, _, _, _]) ti31 rfl rfl rfl rfl rfl (Nat.le_of_ble_eq_true rfl) (.s (.s (.s (.s (.z))))) (Lq (q_assign rfl) (WL_nil (thenN (WC_ret ?_)))))))))))))
            refine ⟨_, [_, _, _], [_, _, _], fun Z w hs => RV_ownN hs Tryd.underlying31 rfl ti31 rfl (ownS (ownS (ownS (ownS (own0))))) rfl (.tmp rfl (.nil)), ?_, fun Z w hs => (((hs.pick (.z)).pick (.s (.s (.z)))).pick (.s (.s (.z)))).out (List.Sublist.cons_cons _ (List.Sublist.cons_cons _ (List.Sublist.cons_cons _ (List.Sublist.cons _ (List.Sublist.cons _ (List.Sublist.refl _)))))) (memc (.tail _ (.tail _ (.head _))) (memc (.tail _ (.head _)) (memc (.head _) (fun _ h => .tail _ (.tail _ (.tail _ h))))))⟩
            try simp only [Bp, Bq] at *
            have hkl : ¬ k < FF.length := by omega
            have hF := put_4 h24 hX htd hM.mid
            rw [Int.toNat_natCast, ← hlater, ← hFF] at hF
            have hRR : HR ⟨FF, H.total + widthF o⟩ Lk := by
              have hn := hI.2.1
              rw [hFF] at hn hkl ⊢
              exact HR.put hM hsl2 hfl ho hwid hlt htot hil hn hkl
            have hGG : (⟨FF, H.total + widthF o⟩ : Hist).ops = G := hGF
            have hkeys : [(m, mapO (keys L ++ [⟨o.c, o.n, b48⟩]))] = mpP m Lk := by unfold mpP; rw [hI.2.2]
            refine ⟨Lk, A9, c9, Ae, ce, by rw [hF]; exact hRR, by rw [hF]; rfl, ?_, ?_⟩
            · rw [hF]; simp only [hGG, hkeys]
            · rw [hF]; simp only [hGG]

end Go.Proofs.YtggdddkbhigjoaaDoor
/- Walks: the law's words. -/
namespace Go.Proofs.YtggdddkbhigjoaaDoor
open Go Go.GW
set_option maxRecDepth 10000 in
theorem lown_s (o : GOp) (A : Option Addr) (c : Nat) (hl : o.rs.length ≤ 4398046511104) : Sp Tryd.prog 12 [opV o A c] [] [RdF rgD A c o.rs] (fun v Lo fs => ∃ A' c', v = opV o A' c' ∧ Lo = [] ∧ fs = [RdF rgD A' c' o.rs]) := by
  refine Sp.of (n := 8) ⟨_, Tryd.func12, rfl, rfl, rfl, rfl⟩ (Nat.le_of_ble_eq_true rfl) fun Ps As => WC_seq (WC_region (WL_main rfl (OW_box (cs := [_, _, _, _, _, _, _, _, _]) rfl rfl (by decide) fun b1 => WL_main rfl (OW_alloc (cs := [_, _, _, _, _, _, _, _, _]) ti31 rfl (by decide) fun b2 => WL_nil (thenN (WC_seq (WC_region (Lq (q_field (o' := 5) Tryd.underlying31 rfl ti29 rfl rfl) (Lq (q_load1 Tryd.underlying29 rfl rfl (ownS (own0)) rfl) (WL_nilPart (WL_main rfl (OW_appendS (e := rgD) (ys := o.rs) Tryd.underlying29 ti37 rfl (by decide) rfl rfl (Row.nil _ _) (.head _) (by simp only [Nat.zero_add]; omega) (by unfold maxLen; omega) (by decide) (List.Perm.refl _) fun v5 p5 cs5 hr5 => WL_freeze (e := rgD) (css := cs5) hr5 (.z) (by simp) (.head _) fun A5 c5 e5 => ?_))))))))))))
  subst e5
  refine Lq (q_field (o' := 5) Tryd.underlying31 rfl ti29 rfl rfl) (WL_main rfl (OW_store1 ti29 rfl rfl rfl (.s (.s (.s (.s (.s (.z)))))) (.s (.z)) (WL_nil (thenN (WC_seq (WC_region (Lq (q_loadN (vs := [_, _, _, _, _, _, _, _, _]) Tryd.underlying31 rfl ti31 rfl (ownS (own0)) rfl rfl) (WL_main rfl (OW_storeN (cs' := [_, _, _, _, _, _, _, _, _]) (vs := [_, _, _, _, _, _, _, _, _]) ti31 rfl rfl rfl rfl rfl (Nat.le_of_ble_eq_true rfl) (.z) (WL_nil (thenN (WC_ret ?_))))))))))))
  refine ⟨_, [], [RdF rgD A5 c5 o.rs], fun Z w hs => RV_ownN hs Tryd.underlying31 rfl ti31 rfl own0 rfl (.nil), ?_, fun Z w hs => hs.out (List.Sublist.cons _ (List.Sublist.cons _ (List.Sublist.refl _))) (memc (.head _) (fun _ h => .tail _ (.tail _ h)))⟩
  exact ⟨A5, c5, rfl, rfl, rfl⟩

end Go.Proofs.YtggdddkbhigjoaaDoor
/- Walks: EqRanges, EqOp, newView. -/
namespace Go.Proofs.YtggdddkbhigjoaaDoor
open Go Go.GW
set_option maxRecDepth 10000 in
theorem eqRanges_s (A B : Option Addr) (c d : Nat) (xs ys : List Rg) (hl : xs.length ≤ 4398046511104) : Sp Tryd.prog 22 [.slice A xs.length c, .slice B ys.length d] [] [RdF rgD A c xs, RdF rgD B d ys] (Is (.bool (decide (xs = ys)))) := by
  refine Sp.of (n := 26) ⟨_, Tryd.func22, rfl, rfl, rfl, rfl⟩ (Nat.le_of_ble_eq_true rfl) fun Ps As => WC_seq (WC_region (Lq (q_assign rfl) (WL_nil (thenN (WC_seq (WC_seq (WC_region (Lq (q_move rfl) (Lq (q_len Tryd.underlying29 rfl) (Lq (q_move rfl) (Lq (q_len Tryd.underlying29 rfl) (Lq (q_neq rfl rfl) (WL_nil (thenN ?_))))))))))))))
  refine WC_cond rfl (fun h10 => ?_) (fun h10 => ?_)
  · refine WC_seq (WC_region (Lq (q_assign rfl) (WL_nil (thenN (WC_ret (thenRet ?_))))))
    refine ⟨_, [], [], fun Z w hs => .tmp rfl (.nil), ?_, fun Z w hs => hs.out (List.Sublist.refl _) (fun _ h => h)⟩
    refine ⟨congrArg Value.bool (decide_eq_false fun e => ?_).symm, rfl, rfl⟩
    rw [e] at h10; simp at h10
  · refine WC_skip (thenN (WC_seq (WC_seq (WC_region (Lq (q_assign rfl) (WL_nil (thenN (WC_block ?_))))))))
    refine WC_loopE (α := Nat) (fun k => xs.length - k)
      (fun k => [(0, .slice A xs.length c), (1, .slice B ys.length d), (5, .int .i64 k)])
      (fun k => Ps)
      (fun k => (RdF rgD A c xs :: RdF rgD B d ys :: As))
      (fun k => k ≤ xs.length ∧ xs.length = ys.length ∧ xs.take k = ys.take k)
      0 ?_ (.cons rfl (.cons rfl (.cons rfl (.nil _)))) (List.Sublist.refl _) (fun _ h => h) ?_
    · try simp only [Bp, Bq] at *
      exact ⟨Nat.zero_le _, by omega, rfl⟩
    · rintro k hI
      have hle := hI.1
      have hxy := hI.2.1
      have htk := hI.2.2
      refine WC_seq (WC_seq (WC_region (Lq (q_move rfl) (Lq (q_move rfl) (Lq (q_len Tryd.underlying29 rfl) (Lq (q_lss rfl rfl) (WL_nil (thenN (WC_cond rfl (fun h14 => ?_) (fun h14 => ?_))))))))))
      · refine WC_skip (thenN (WC_seq (WC_block (WC_seq ?_))))
        try simp only [Bp, Bq] at *
        have hk1 : k < xs.length := by omega
        have hk2 : k < ys.length := by omega
        refine WC_elem (k := k) (.head _) (List.getElem?_eq_getElem hk1) (rg_open _) fun b1 q1 y1 e1 => ?_
        cases e1
        refine WC_elem (k := k) (.tail _ (.tail _ (.head _))) (List.getElem?_eq_getElem hk2) (rg_open _) fun b2 q2 y2 e2 => ?_
        cases e2
        refine WC_draw _ _ [] (.c 0 0 (.c 1 0 (.c 2 0 (.c 3 0 (.c 4 0 (.c 5 0 (.c 6 0 (.c 7 0 (.c 8 0 .nil))))))))) mixed (fun _ _ _ _ h => h) (List.Sublist.refl _) (fun _ h => h) (by kernel_rfl) (by decide) fun ws Z0 => Qe rfl (q_move rfl) (Qe rfl (q_move rfl) (Qe rfl (q_idxRd Tryd.underlying29 ti37 rfl rfl (by omega) (by omega)) (Qe rfl (q_loadFN (k := 0) (vs := [_, _]) Tryd.underlying37 rfl ti37 rfl (.tail _ (.head _)) rfl rfl rfl) (Qe rfl (q_move rfl) (Qe rfl (q_move rfl) (Qe rfl (q_idxRd Tryd.underlying29 ti37 rfl rfl (by omega) (by omega)) (Qe rfl (q_loadFN (k := 0) (vs := [_, _]) Tryd.underlying37 rfl ti37 rfl (.head _) rfl rfl rfl) (Qe rfl (q_aggneq rfl rfl (eq37 _ _ _ _)) ?_))))))))
        refine WE_end (WF_nil (thenN (WC_cond rfl (fun h25 => ?_) (fun h25 => ?_))))
        · refine WC_seq (WC_region (Lq (q_assign rfl) (WL_nil (thenN (WC_ret (blockRet (thenRet (thenRet (blockRet (thenRet ?_))))))))))
          refine ⟨_, [], [], fun Z w hs => .tmp rfl (.nil), ?_, fun Z w hs => hs.out (List.Sublist.refl _) (fun _ h => .tail _ (.tail _ (.tail _ h)))⟩
          refine ⟨congrArg Value.bool (decide_eq_false fun e => ?_).symm, rfl, rfl⟩
          subst e; simp at h25
        · refine WC_skip (blockN (thenN (WC_region (Lq (q_move rfl) (Lq (q_add rfl rfl (wr64 (by omega)) (c := ((k + 1 : Nat) : Int))) (Lq (q_assign rfl) (WL_nil (thenK ?_))))))))
          refine ⟨k + 1, ?_, (.cons rfl (.cons rfl (.cons rfl (.nil _)))), (List.Sublist.refl _), (fun _ h => .tail _ (.tail _ (.tail _ h)))⟩
          refine ⟨by omega, by omega, hxy, ?_⟩
          rw [List.take_succ_eq_append_getElem hk1, List.take_succ_eq_append_getElem hk2, htk]
          congr 2
          simp at h25
          exact Rg.ext h25.1 h25.2
      · refine WC_exit (thenExit (thenExit (blockHit (thenN (WC_seq (WC_region (Lq (q_assign rfl) (WL_nil (thenN (WC_ret ?_))))))))))
        refine ⟨_, [], [], fun Z w hs => .tmp rfl (.nil), ?_, fun Z w hs => hs.out (List.Sublist.refl _) (fun _ h => h)⟩
        refine ⟨congrArg Value.bool (decide_eq_true ?_).symm, rfl, rfl⟩
        simp only [decide_eq_false_iff_not] at h14
        have h1 : xs.take k = xs := List.take_of_length_le (by omega)
        have h2 : ys.take k = ys := List.take_of_length_le (by omega)
        rw [← h1, ← h2]; exact htk

theorem beq_bytes_self (s : ByteArray) : (s == s) = true := by rw [beq_toListBytes]; simp

set_option maxRecDepth 10000 in
theorem eqOp_t (o : GOp) (A B : Option Addr) (c d : Nat) (hl : o.rs.length ≤ 4398046511104) : Sp Tryd.prog 24 [opV o A c, opV o B d] [] [RdF rgD A c o.rs, RdF rgD B d o.rs] (Is (.bool true)) := by
  refine Sp.of (n := 56) ⟨_, Tryd.func24, rfl, rfl, rfl, rfl⟩ (Nat.le_of_ble_eq_true rfl) fun Ps As => WC_seq (WC_region (WL_main rfl (OW_box (cs := [_, _, _, _, _, _, _, _, _]) rfl rfl (by decide) fun b2 => WL_main rfl (OW_box (cs := [_, _, _, _, _, _, _, _, _]) rfl rfl (by decide) fun b3 => Lq (q_assign rfl) (WL_nil (thenN (WC_seq (WC_region (Lq (q_field (o' := 0) Tryd.underlying31 rfl ti28 rfl rfl) (Lq (q_field (o' := 0) Tryd.underlying28 rfl ti25 rfl rfl) (Lq (q_loadN (vs := [_, _]) Tryd.underlying25 rfl ti25 rfl (ownS (own0)) rfl rfl) (Lq (q_field (o' := 0) Tryd.underlying31 rfl ti28 rfl rfl) ?_))))))))))))
  refine Lq (q_field (o' := 0) Tryd.underlying28 rfl ti25 rfl rfl) (Lq (q_loadN (vs := [_, _]) Tryd.underlying25 rfl ti25 rfl own0 rfl rfl) (Lq (q_aggeql rfl rfl (eq25 _ _ _ _)) (Lq (q_move rfl) (Lg rfl rfl rfl (by simp) (q_field (o' := 0) Tryd.underlying31 rfl ti28 rfl rfl) (Lg rfl rfl rfl (by simp) (q_field (o' := 2) Tryd.underlying28 rfl ti26 rfl rfl) (Lg rfl rfl rfl (by simp) (q_load1 Tryd.underlying26 rfl rfl (ownS (own0)) rfl) (Lg rfl rfl rfl (by simp) (q_field (o' := 0) Tryd.underlying31 rfl ti28 rfl rfl) (Lg rfl rfl rfl (by simp) (q_field (o' := 2) Tryd.underlying28 rfl ti26 rfl rfl) (Lg rfl rfl rfl (by simp) (q_load1 Tryd.underlying26 rfl rfl own0 rfl) ?_)))))))))
  refine Lg rfl rfl rfl (by simp) (q_eql rfl rfl) (Lq (q_pickT rfl (by simp) rfl) (Lq (q_move rfl) (Lg rfl rfl rfl (by simp) (q_field (o' := 3) Tryd.underlying31 rfl ti3 rfl rfl) (Lg rfl rfl rfl (by simp) (q_load1 Tryd.underlying3 rfl rfl (ownS (own0)) rfl) (Lg rfl rfl rfl (by simp) (q_field (o' := 3) Tryd.underlying31 rfl ti3 rfl rfl) (Lg rfl rfl rfl (by simp) (q_load1 Tryd.underlying3 rfl rfl own0 rfl) (Lg rfl rfl rfl (by simp) (q_eql rfl rfl) (Lq (q_pickT rfl (by simp) rfl) (Lq (q_move rfl) ?_)))))))))
  refine Lg rfl rfl rfl (by simp) (q_field (o' := 4) Tryd.underlying31 rfl ti9 rfl rfl) (Lg rfl rfl rfl (by simp) (q_load1 Tryd.underlying9 rfl rfl (ownS (own0)) rfl) (Lg rfl rfl rfl (by simp) (q_field (o' := 4) Tryd.underlying31 rfl ti9 rfl rfl) (Lg rfl rfl rfl (by simp) (q_load1 Tryd.underlying9 rfl rfl own0 rfl) (Lg rfl rfl rfl (by simp) (q_seql rfl rfl) (Lq (q_pickT rfl (by simp) rfl) (Lq (q_move rfl) (Lg rfl rfl rfl (beq_bytes_self _) (q_field (o' := 5) Tryd.underlying31 rfl ti29 rfl rfl) (Lg rfl rfl rfl (beq_bytes_self _) (q_load1 Tryd.underlying29 rfl rfl (ownS (own0)) rfl) (Lg rfl rfl rfl (beq_bytes_self _) (q_field (o' := 5) Tryd.underlying31 rfl ti29 rfl rfl) ?_)))))))))
  refine Lg rfl rfl rfl (beq_bytes_self _) (q_load1 Tryd.underlying29 rfl rfl own0 rfl) (WL_gmain rfl rfl rfl (beq_bytes_self _) (OW_call0 (eqRanges_s A B c d o.rs o.rs hl) (.cons rfl (.cons rfl (.nil))) (by decide) (memc (.head _) (memc (.tail _ (.head _)) mem0)) fun u1_35 Lo fs hres => ?_))
  obtain ⟨rfl, rfl, rfl⟩ := hres
  refine Lq (q_pickT rfl (beq_bytes_self _) rfl) (Lq (q_move rfl) (Lg rfl rfl rfl (by simp) (q_field (o' := 6) Tryd.underlying31 rfl ti25 rfl rfl) (Lg rfl rfl rfl (by simp) (q_loadN (vs := [_, _]) Tryd.underlying25 rfl ti25 rfl (ownS (own0)) rfl rfl) (Lg rfl rfl rfl (by simp) (q_field (o' := 6) Tryd.underlying31 rfl ti25 rfl rfl) (Lg rfl rfl rfl (by simp) (q_loadN (vs := [_, _]) Tryd.underlying25 rfl ti25 rfl own0 rfl rfl) (Lg rfl rfl rfl (by simp) (q_aggeql rfl rfl (eq25 _ _ _ _)) (Lq (q_pickT rfl (by simp) rfl) (Lq (q_move rfl) (Lg rfl rfl rfl (by simp) (q_field (o' := 8) Tryd.underlying31 rfl ti4 rfl rfl) ?_)))))))))
  refine Lg rfl rfl rfl (by simp) (q_load1 Tryd.underlying4 rfl rfl (ownS (own0)) rfl) (Lg rfl rfl rfl (by simp) (q_field (o' := 8) Tryd.underlying31 rfl ti4 rfl rfl) (Lg rfl rfl rfl (by simp) (q_load1 Tryd.underlying4 rfl rfl own0 rfl) (Lg rfl rfl rfl (by simp) (q_beql' Tryd.underlying4 rfl rfl) (Lq (q_pickT rfl (by simp) rfl) (Lq (q_assign rfl) (WL_nil (thenN (WC_ret ?_))))))))
  refine ⟨_, [], [], fun Z w hs => .tmp rfl (.nil), ?_, fun Z w hs => hs.out (List.Sublist.cons _ (List.Sublist.cons _ (List.Sublist.refl _))) (fun _ h => h)⟩
  exact ⟨by simp [tup], rfl, rfl⟩

theorem bd61_0_1Xw39 (x0_ : Option Addr) (x1_ : Option Addr) (w : World) : (Instr.build 61 #[(0, .pointer x0_), (1, .pointer x1_)]).run Tryd.prog w = .ok (.agg #[.pointer x0_, .pointer x1_, .slice none 0 0, .slice none 0 0, .slice none 0 0, .int .i64 0, .int .i64 0, .int .i64 0, .int .i64 0, .int .i64 0, .int .i64 0, .int .i64 0, .int .i64 0, .int .i64 0]) w := by kernel_rfl

set_option maxRecDepth 10000 in
theorem newView_s : Sp Tryd.prog 36 [] [] [] (fun u Lo fs => ∃ v h m b : Nat, u = .tuple #[.pointer (some ⟨v, 0, none⟩), .bool true] ∧ ViewAt v h m b ⟨[], 0⟩ [] (List.replicate 9 0) Lo fs) := by
  refine Sp.of (n := 20) ⟨_, Tryd.func36, rfl, rfl, rfl, rfl⟩ (Nat.le_of_ble_eq_true rfl) fun Ps As => WC_seq (WC_region (Lq (q_assign rfl) (Lq (q_assign rfl) (WL_nil (thenN (WC_seq (WC_region (WL_main rfl (OW_call0 (new_s) (.nil) (by decide) mem0 fun u1_0 Lo fs hres => ?_)))))))))
  obtain ⟨h, m, rfl, rfl, rfl⟩ := hres
  refine WL_main rfl (OW_call0 (rnew_s) (.nil) (by decide) mem0 fun u1_1 Lo fs hres => ?_)
  obtain ⟨b, rfl, rfl, rfl⟩ := hres
  refine Lq (q_build (.cons rfl (.cons rfl (.nil))) (bd61_0_1Xw39 _ _)) (WL_main rfl (OW_box (cs := (.pointer (some ⟨h, 0, none⟩) :: .pointer (some ⟨b, 0, none⟩) :: .slice none 0 0 :: .slice none 0 0 :: .slice none 0 0 :: ints .i64 (List.replicate 9 0))) rfl rfl (by decide) fun b6 => Lq (q_assign rfl) (WL_nil (thenN (WC_seq (WC_fact (A := TrF none .nil) (fun _ _ _ => rfl) (WC_fact (A := RdF idD none 0 []) (fun Z w hs => RdS.nil _ _ _) (WC_fact (A := RdF (De.int .i64) none 0 []) (fun Z w hs => RdS.nil _ _ _) (WC_fact (A := RdF De.str none 0 []) (fun Z w hs => RdS.nil _ _ _) ?_)))))))))
  refine WC_draw _ _ [] (.c 0 0 (.c 1 0 (.c 2 0 (.c 3 0 (.c 4 0 (.c 5 0 (.c 6 0 (.c 7 0 (.c 8 0 (.c 9 0 (.c 10 0 (.c 11 0 (.c 12 0 (.c 13 0 (.c 14 0 .nil))))))))))))))) mixed (fun _ _ _ _ h => h) (List.Sublist.cons_cons _ (List.Sublist.cons_cons _ (List.Sublist.cons_cons _ (List.Sublist.cons_cons _ (List.Sublist.cons_cons _ (List.Sublist.refl _)))))) (fun _ h => h) (by kernel_rfl) (by decide) fun ws Z0 => Qe rfl (q_move rfl) (Qe rfl (q_move rfl) (Qe rfl (q_nil rfl) (Qe rfl (q_field (o' := 0) Tryd.underlying61 rfl ti22 rfl rfl) (Qe rfl (q_load1 Tryd.underlying22 rfl rfl own0 rfl) (Qe rfl (q_pneq Tryd.underlying22 rfl rfl (by simp)) (Qe rfl (q_move rfl) (WE_gq rfl rfl rfl rfl rfl (q_move rfl) (by decide) (WE_gq rfl rfl rfl rfl rfl (q_nil rfl) (by decide) ?_))))))))
  refine WE_gq rfl rfl rfl rfl rfl (q_field (o' := 1) Tryd.underlying61 rfl ti55 rfl rfl) (by decide) (WE_gq rfl rfl rfl rfl rfl (q_load1 Tryd.underlying55 rfl rfl own0 rfl) (by decide) (WE_gq rfl rfl rfl rfl rfl (q_pneq Tryd.underlying55 rfl rfl (by simp)) (by decide) (Qe rfl (q_pickT rfl rfl rfl) (Qe rfl (q_assign rfl) (Qe rfl (q_assign rfl) (WE_end (WF_nil (thenN (WC_fr [(1, _), (0, _)] (.cons rfl (.cons rfl (.nil _))) (WC_ret ?_))))))))))
  refine ⟨_, [_, _, _, _, _], [_, _, _, _, _, _], fun Z w hs => .tmp rfl (.tmp rfl (.nil)), ?_, fun Z w hs => (((((hs.pick (.s (.z))).pick (.s (.s (.s (.s (.z)))))).pick (.s (.s (.s (.s (.z)))))).pick (.s (.s (.s (.s (.z)))))).pick (.s (.s (.s (.s (.z)))))).out (List.Sublist.cons_cons _ (List.Sublist.cons_cons _ (List.Sublist.cons_cons _ (List.Sublist.cons_cons _ (List.Sublist.cons_cons _ (List.Sublist.refl _)))))) (memc (.tail _ (.tail _ (.tail _ (.tail _ (.tail _ (.head _)))))) (memc (.tail _ (.tail _ (.tail _ (.tail _ (.tail _ (.tail _ (.head _))))))) (memc (.tail _ (.tail _ (.tail _ (.tail _ (.head _))))) (memc (.tail _ (.tail _ (.tail _ (.head _)))) (memc (.tail _ (.tail _ (.head _))) (memc (.tail _ (.head _)) (fun _ h => .tail _ (.tail _ (.tail _ (.tail _ (.tail _ (.tail _ (.tail _ h)))))))))))))⟩
  refine ⟨b6, h, m, b, rfl, [], none, 0, none, .nil, none, 0, none, 0, none, 0, rfl, rfl, ⟨List.Perm.refl _, List.nodup_nil, fun e he => (by cases he), fun e he => (by cases he), fun e he => (by cases he), by decide, by decide⟩, wnilT, rfl⟩

end Go.Proofs.YtggdddkbhigjoaaDoor
/- Walks: takes. -/
namespace Go.Proofs.YtggdddkbhigjoaaDoor
open Go Go.GW
theorem bd31Xw40  (w : World) : (Instr.build 31 #[]).run Tryd.prog w = .ok (.agg #[.int .i64 0, .int .i64 0, .int .i64 0, .int .i64 0, .string ⟨#[]⟩, .slice none 0 0, .int .i64 0, .int .i64 0, .bool false]) w := by kernel_rfl

set_option maxRecDepth 10000 in
theorem takes_1 (N : Int) (n : Nat) (X : List Ce) (v h m b : Nat) (H : Hist) (L : List MR) (A : Option Addr) (cap : Nat) (B : Option Addr) (t : Tr) (A1 : Option Addr) (c1 : Nat) (A2 : Option Addr) (c2 : Nat) (A3 : Option Addr) (c3 : Nat) (nx : List Int) (i : Nat) (o : GOp) (Ao : Option Addr) (co : Nat) (hV : VI N n H X nx) (hr : HR H L) (wt : Wf t) (hX : t.row = X) (g : Good H i o) (ht : o.text.size ≤ 1073741824) : Sp Tryd.prog 37 [.pointer (some ⟨v, 0, none⟩), .int .i64 i, opV o Ao co] [vwP v h b A1 H.ents.length c1 A2 c2 A3 c3 nx, hdP h A H.ops.length cap m H.total, mpP m L, mkP L, rpP b B] [barF, RdF opD A cap H.ops, AllF L nowF, TrF B t, RdF idD A1 c1 (idsOf H.ents), RdF (De.int .i64) A2 c2 (kindsOf H.ents), RdF De.str A3 c3 (textsOf H.ents), RdF rgD Ao co o.rs] (TakeP v h m b (putF H i o).1 (applyRow (putF H i o).2.1 X) (nxF nx o.c o.n)) := by
  obtain ⟨H2, eff, T⟩ := take_facts hV g
  have hfit := good_fit hV g ht
  have hn2 := hV.le
  have hnl := hV.len
  have hcb0 := right_bd g.idr
  have hcb : 1 ≤ o.c ∧ o.c ≤ 8 := ⟨hcb0.1, hcb0.2.1⟩
  have htt := hV.total
  have hrl := hV.rule.len
  rw [← hX] at hrl
  have ho2 : H2.ops.length = H2.ents.length := by simp [Hist.ops]
  have hT := T.tot
  rw [← hnl, show H.ents.length + 1 = H2.ents.length from by rw [T.len, hnl]] at hT
  refine Sp.of (n := 86) ⟨_, Tryd.func37, rfl, rfl, rfl, rfl⟩ (Nat.le_of_ble_eq_true rfl) fun Ps As => WC_seq (WC_region (WL_main rfl (OW_box (cs := [_, _, _, _, _, _, _, _, _]) rfl rfl (by decide) fun b5 => Lq (q_assign rfl) (WL_nil (thenN (WC_seq (WC_seq (WC_region (Lq (q_field (o' := 0) Tryd.underlying31 rfl ti28 rfl rfl) (Lq (q_field (o' := 0) Tryd.underlying28 rfl ti25 rfl rfl) (Lq (q_idxA (o' := 0) Tryd.underlying25 ti3 rfl rfl (by decide) (by decide) rfl) (Lq (q_load1 Tryd.underlying3 rfl rfl own0 rfl) (Lq (q_lss rfl rfl) ?_)))))))))))))
  refine Lq (q_move rfl) (Lg rfl rfl rfl (by simp; omega) (q_field (o' := 0) Tryd.underlying31 rfl ti28 rfl rfl) (Lg rfl rfl rfl (by simp; omega) (q_field (o' := 0) Tryd.underlying28 rfl ti25 rfl rfl) (Lg rfl rfl rfl (by simp; omega) (q_idxA (o' := 0) Tryd.underlying25 ti3 rfl rfl (by decide) (by decide) rfl) (Lg rfl rfl rfl (by simp; omega) (q_load1 Tryd.underlying3 rfl rfl own0 rfl) (Lg rfl rfl rfl (by simp; omega) (q_gtr rfl rfl) (Lq (q_pickF rfl (by simp; omega) rfl) (WL_nil (thenN (WC_false rfl (by simp; omega) (WC_skip (thenN (WC_seq ?_))))))))))))
  refine WC_draw _ _ [12] (.c 0 0 (.c 1 0 (.c 2 0 (.c 3 0 (.c 4 0 (.c 5 0 (.b (.c 6 2 (.b (.c 7 2 (.c 8 0 (.c 9 0 (.c 10 1 (.c 11 2 (.c 12 3 (.c 13 1 .nil))))))) (.c 11 2 (.c 7 2 (.c 8 0 (.c 9 0 (.c 10 1 (.c 12 3 (.c 13 1 .nil))))))))) (.c 11 2 (.c 6 2 (.c 7 2 (.c 8 0 (.c 9 0 (.c 10 1 (.c 12 3 (.c 13 1 .nil))))))))))))))) mixed (fun _ _ _ _ h => h) (List.Sublist.cons_cons _ (List.Sublist.cons_cons _ (List.Sublist.cons _ (List.Sublist.cons _ (List.Sublist.cons _ (List.Sublist.cons_cons _ (List.Sublist.refl _))))))) (fun _ h => h) (by kernel_rfl) (by decide) fun ws Z0 => Qe rfl (q_move rfl) (Qe rfl (q_nil rfl) (Qe rfl (q_field (o' := 0) Tryd.underlying61 rfl ti22 rfl rfl) (Qe rfl (q_load1 Tryd.underlying22 rfl rfl (ownS (own0)) rfl) (Qe rfl (q_move rfl) (Qe rfl (q_loadN (vs := [_, _, _, _, _, _, _, _, _]) Tryd.underlying31 rfl ti31 rfl own0 rfl rfl) (WE_both ?_ ?_))))))
  · refine WE_main rfl rfl (OW_call0 (lown_s o Ao co hfit.rs) (.cons rfl (.nil)) (by decide) (memc (.tail _ (.tail _ (.tail _ (.tail _ (.tail _ (.tail _ (.tail _ (.tail _ (.head _))))))))) mem0) fun u3_6 Lo fs hres => ?_)
    obtain ⟨A9, c9, rfl, rfl, rfl⟩ := hres
    refine ⟨⟨(List.Sublist.cons_cons _ (List.Sublist.cons_cons _ (List.Sublist.cons _ (List.Sublist.cons _ (List.Sublist.cons _ (List.Sublist.cons_cons _ (List.Sublist.refl _))))))), (.tail _ (.head _))⟩, ?_⟩
    refine WE_both ?_ ?_
    · refine WE_main rfl rfl (OW_call3 (put_s h m cap A H L hr i o A9 c9 hfit (by omega)) (.cons rfl (.cons rfl (.cons rfl (.nil)))) (by decide) (.s (.s (.z))) (.s (.s (.z))) (.s (.s (.z))) (memc (.tail _ (.tail _ (.head _))) (memc (.tail _ (.tail _ (.tail _ (.head _)))) (memc (.tail _ (.tail _ (.tail _ (.tail _ (.head _))))) (memc (.head _) mem0)))) fun u3_7 Lo fs hres => ?_)
      obtain ⟨L2, A8, cap2, Ae, ce, hr2, rfl, rfl, rfl⟩ := hres
      rw [T.put] at hr2 ⊢
      dsimp only at hr2 ⊢
      refine ⟨⟨(List.Sublist.cons _ (List.Sublist.cons _ (List.Sublist.cons _ (List.Sublist.cons_cons _ (List.Sublist.cons_cons _ (List.Sublist.cons_cons _ (List.Sublist.refl _))))))), (.tail _ (.tail _ (.tail _ (.tail _ (.head _)))))⟩, ?_⟩
      refine Qe rfl (q_move rfl) (Qe rfl (q_extract (vs := [_, _]) rfl rfl) (WE_p rfl (q_extract (vs := [_, _]) rfl rfl) (by decide) (WE_main rfl rfl (OW_alloc (cs := [_, _, _, _, _, _, _, _, _]) ti31 rfl (by decide) fun b7 => ?_))))
      refine ⟨⟨(List.Sublist.cons _ (List.Sublist.cons _ (List.Sublist.cons _ (List.Sublist.cons _ (List.Sublist.cons_cons _ (List.Sublist.cons_cons _ (List.Sublist.cons_cons _ (List.Sublist.refl _)))))))), (.tail _ (.tail _ (.tail _ (.tail _ (.head _)))))⟩, ?_⟩
      refine WE_end (WF_last rfl rfl (OW_storeN (cs' := [_, _, _, _, _, _, _, _, _]) (vs := [_, _, _, _, _, _, _, _, _]) ti31 rfl rfl rfl rfl rfl (Nat.le_of_ble_eq_true rfl) (.z) (WF_p rfl (q_assign rfl) (by decide) (WF_nil (thenN (WC_seq (WC_seq (WC_region (Lq (q_move rfl) (Lq (q_neq rfl rfl) (WL_nil (thenN (WC_false rfl rfl (WC_skip (thenN (WC_seq (WC_region (Lq (q_move rfl) (Lq (q_move rfl) (Lq (q_loadN (vs := [_, _, _, _, _, _, _, _, _]) Tryd.underlying31 rfl ti31 rfl (ownS (ownS (ownS (ownS (own0))))) rfl rfl) ?_))))))))))))))))))))
      refine WL_main rfl (OW_call1 (notes_s v h b H.ents.length A1 c1 A2 c2 A3 c3 nx (idsOf H.ents) (kindsOf H.ents) (textsOf H.ents) i o Ao co (by simp [idsOf]) (by simp [kindsOf, idsOf]) (by simp [textsOf, idsOf]) (by simp only [idsOf, List.length_map]; exact g.le) (by omega) hV.nxl hcb) (.cons rfl (.cons rfl (.cons rfl (.nil)))) (by decide) (.s (.s (.s (.s (.s (.z)))))) (memc (.tail _ (.tail _ (.tail _ (.tail _ (.tail _ (.tail _ (.tail _ (.tail _ (.tail _ (.head _)))))))))) (memc (.tail _ (.tail _ (.tail _ (.tail _ (.tail _ (.tail _ (.tail _ (.tail _ (.tail _ (.tail _ (.head _))))))))))) (memc (.tail _ (.tail _ (.tail _ (.tail _ (.tail _ (.tail _ (.tail _ (.tail _ (.tail _ (.tail _ (.tail _ (.head _)))))))))))) mem0))) fun u6_3 Lo fs hres => ?_)
      obtain ⟨B1, d1, B2, d2, B3, d3, rfl, rfl, rfl⟩ := hres
      rw [T.ids, T.ks, T.ts]
      rw [show H.ents.length + 1 = H2.ents.length from by rw [T.len, hV.len]]
      refine WL_nil (thenN (WC_seq (WC_seq (WC_draw _ _ [] (.c 0 0 (.c 1 0 (.c 2 0 (.c 3 0 (.c 5 0 (.c 6 0 (.c 7 0 (.c 8 0 (.c 9 0 (.c 4 2 (.c 10 0 (.c 11 0 (.c 12 0 (.c 13 0 (.c 14 0 (.c 15 0 (.c 17 0 (.c 18 0 (.c 19 0 (.c 20 0 (.c 21 0 (.c 22 0 (.c 16 2 (.c 23 2 (.c 24 0 (.c 25 0 .nil)))))))))))))))))))))))))) mixed (fun _ _ _ _ h => h) (List.Sublist.cons_cons _ (List.Sublist.cons_cons _ (List.Sublist.cons _ (List.Sublist.cons_cons _ (List.Sublist.cons_cons _ (List.Sublist.cons_cons _ (List.Sublist.cons_cons _ (List.Sublist.refl _)))))))) (fun _ h => h) (by kernel_rfl) (by decide) fun ws Z0 => Qe rfl (q_move rfl) (Qe rfl (q_nil rfl) (Qe rfl (q_field (o' := 0) Tryd.underlying61 rfl ti22 rfl rfl) (Qe rfl (q_load1 Tryd.underlying22 rfl rfl own0 rfl) (Qe rfl (q_move rfl) (Qe rfl (q_nil rfl) (Qe rfl (q_field (o' := 2) Tryd.underlying61 rfl ti56 rfl rfl) ?_))))))))))
      refine Qe rfl (q_load1 Tryd.underlying56 rfl rfl own0 rfl) (Qe rfl (q_len Tryd.underlying56 rfl) (WE_main rfl rfl (OW_call1 (hlen_s h m H2.ops.length cap2 A8 H2.total) (.cons rfl (.nil)) (by decide) (.s (.s (.z))) mem0 fun u7_4 Lo fs hres => ?_)))
      obtain ⟨rfl, rfl, rfl⟩ := hres
      refine ⟨⟨(List.Sublist.cons _ (List.Sublist.cons_cons _ (List.Sublist.cons_cons _ (List.Sublist.cons_cons _ (List.Sublist.cons_cons _ (List.Sublist.cons_cons _ (List.Sublist.cons_cons _ (List.Sublist.refl _)))))))), (.head _)⟩, ?_⟩
      refine Qe rfl (q_neq rfl rfl) (Qe rfl (q_move rfl) (WE_gq rfl rfl rfl rfl (by rw [ho2]; simp) (q_move rfl) (by decide) (WE_gq rfl rfl rfl rfl (by rw [ho2]; simp) (q_nil rfl) (by decide) (WE_gq rfl rfl rfl rfl (by rw [ho2]; simp) (q_field (o' := 0) Tryd.underlying61 rfl ti22 rfl rfl) (by decide) (WE_gq rfl rfl rfl rfl (by rw [ho2]; simp) (q_load1 Tryd.underlying22 rfl rfl own0 rfl) (by decide) (WE_gq rfl rfl rfl rfl (by rw [ho2]; simp) (q_move rfl) (by decide) (WE_gq rfl rfl rfl rfl (by rw [ho2]; simp) (q_move rfl) (by decide) (WE_gq rfl rfl rfl rfl (by rw [ho2]; simp) (q_nil rfl) (by decide) (WE_gq rfl rfl rfl rfl (by rw [ho2]; simp) (q_field (o' := 2) Tryd.underlying61 rfl ti56 rfl rfl) (by decide) ?_)))))))))
      refine WE_gq rfl rfl rfl rfl (by rw [ho2]; simp) (q_load1 Tryd.underlying56 rfl rfl own0 rfl) (by decide) (WE_gq rfl rfl rfl rfl (by rw [ho2]; simp) (q_len Tryd.underlying56 rfl) (by decide) (WE_gmain rfl rfl rfl rfl rfl (by rw [ho2]; simp) (OW_call1 (htotal_s h m H2.ops.length cap2 A8 H2.total) (.cons rfl (.nil)) (by decide) (.z) mem0 fun u7_16 Lo fs hres => ?_)))
      obtain ⟨rfl, rfl, rfl⟩ := hres
      refine ⟨⟨(List.Sublist.cons _ (List.Sublist.cons_cons _ (List.Sublist.cons_cons _ (List.Sublist.cons_cons _ (List.Sublist.cons_cons _ (List.Sublist.cons_cons _ (List.Sublist.cons_cons _ (List.Sublist.refl _)))))))), (.head _)⟩, ?_⟩
      refine WE_gmain rfl rfl rfl rfl rfl (by rw [ho2]; simp) (OW_call1 (vtotal_s v h b H2.ents.length B1 d1 B2 d2 B3 d3 (nxF nx o.c o.n) (textsOf H2.ents) H2.ents.length (by simp [textsOf]) (Nat.le_refl _) (by rw [T.len]; omega) (fun j _ => by have := T.cb j; omega)) (.cons rfl (.cons rfl (.nil))) (by decide) (.s (.z)) (memc (.tail _ (.tail _ (.tail _ (.head _)))) mem0) fun u7_23 Lo fs hres => ?_)
      obtain ⟨rfl, rfl, rfl⟩ := hres
      refine ⟨⟨(List.Sublist.cons_cons _ (List.Sublist.cons _ (List.Sublist.cons_cons _ (List.Sublist.cons_cons _ (List.Sublist.cons_cons _ (List.Sublist.cons_cons _ (List.Sublist.cons_cons _ (List.Sublist.refl _)))))))), (.head _)⟩, ?_⟩
      refine WE_gq rfl rfl rfl rfl (by rw [ho2]; simp) (q_neq rfl rfl) (by decide) (Qe rfl (q_pickF rfl (by rw [ho2]; simp) rfl) (WE_end (WF_nil (thenN (WC_fr [(64, _), (7, _), (6, _), (5, _), (0, _)] (.cons rfl (.cons rfl (.cons rfl (.cons rfl (.cons rfl (.nil _)))))) (WC_false rfl (by simp; omega) (WC_skip (thenN (WC_seq (WC_seq (WC_region (Lq (q_field (o' := 0) Tryd.underlying31 rfl ti28 rfl rfl) (Lq (q_field (o' := 2) Tryd.underlying28 rfl ti26 rfl rfl) (Lq (q_load1 Tryd.underlying26 rfl rfl (ownS (ownS (own0))) rfl) ?_))))))))))))))
      refine Lq (q_eql rfl rfl) (WL_nil (thenN (WC_cond rfl (fun h68 => ?_) (fun h68 => ?_))))
      · refine WC_seq ?_
        obtain ⟨hze, hk4⟩ := T.noEff (by simpa using h68)
        subst hze
        refine WC_fact (A := RdF rgD none 0 []) (fun Z w hs => RdS.nil _ _ _) (WC_region (Lq (q_field (o' := 0) Tryd.underlying31 rfl ti28 rfl rfl) (Lq (q_field (o' := 2) Tryd.underlying28 rfl ti26 rfl rfl) (Lq (q_load1 Tryd.underlying26 rfl rfl (ownS (ownS (ownS (ownS (ownS (own0)))))) rfl) (Lq (q_eql rfl rfl) (Lq (q_move rfl) (Lg rfl rfl rfl (by simpa using hk4) (q_loadN (vs := [_, _, _, _, _, _, _, _, _]) Tryd.underlying31 rfl ti31 rfl (ownS (ownS (own0))) rfl rfl) (Lg rfl rfl rfl (by simpa using hk4) (q_build (.nil) (bd31Xw40)) (WL_gmain rfl rfl rfl (by simpa using hk4) (OW_call0 (eqOp_t zeroOp Ae none ce 0 (by decide)) (.cons rfl (.cons rfl (.nil))) (by decide) (memc (.tail _ (.tail _ (.tail _ (.tail _ (.tail _ (.head _)))))) (memc (.head _) mem0)) fun u10_7 Lo fs hres => ?_))))))))))
        obtain ⟨rfl, rfl, rfl⟩ := hres
        refine Lq (q_pickT rfl (by simpa using hk4) rfl) (Lq (q_assign rfl) (WL_nil (thenN (WC_ret (thenRet ?_)))))
        refine ⟨_, [_, _, _, _, _], [_, _, _, _, _, _], fun Z w hs => .tmp rfl (.nil), ?_, fun Z w hs => hs.out (List.Sublist.cons_cons _ (List.Sublist.cons_cons _ (List.Sublist.cons _ (List.Sublist.cons_cons _ (List.Sublist.cons_cons _ (List.Sublist.cons _ (List.Sublist.cons_cons _ (List.Sublist.refl _)))))))) (memc (.tail _ (.tail _ (.tail _ (.tail _ (.tail _ (.tail _ (.head _))))))) (memc (.tail _ (.tail _ (.tail _ (.tail _ (.tail _ (.tail _ (.tail _ (.head _)))))))) (memc (.tail _ (.tail _ (.tail _ (.tail _ (.tail _ (.tail _ (.tail _ (.tail _ (.tail _ (.tail _ (.tail _ (.tail _ (.tail _ (.head _)))))))))))))) (memc (.tail _ (.tail _ (.head _))) (memc (.tail _ (.tail _ (.tail _ (.head _)))) (memc (.tail _ (.tail _ (.tail _ (.tail _ (.head _))))) (fun _ h => .tail _ (.tail _ (.tail _ (.tail _ (.tail _ (.tail _ (.tail _ (.tail _ (.tail _ (.tail _ h))))))))))))))))⟩
        exact ⟨rfl, L2, A8, cap2, B, t, B1, d1, B2, d2, B3, d3, rfl, rfl, hr2, wt, hX⟩
      · refine WC_skip (thenN (WC_seq ?_))
        have happ := T.app (by simpa using h68)
        refine WC_pick (.s (.s (.s (.s (.s (.s (.z))))))) (WC_draw _ _ [] (.c 0 0 (.c 1 0 (.c 2 0 (.c 3 0 (.c 4 0 (.c 5 2 (.c 6 0 .nil))))))) mixed (fun _ _ _ _ h => h) (List.Sublist.cons _ (List.Sublist.cons_cons _ (List.Sublist.cons_cons _ (List.Sublist.cons_cons _ (List.Sublist.cons_cons _ (List.Sublist.cons_cons _ (List.Sublist.cons_cons _ (List.Sublist.refl _)))))))) (fun _ h => h) (by kernel_rfl) (by decide) fun ws Z0 => Qe rfl (q_move rfl) (Qe rfl (q_nil rfl) (Qe rfl (q_field (o' := 1) Tryd.underlying61 rfl ti55 rfl rfl) (Qe rfl (q_load1 Tryd.underlying55 rfl rfl own0 rfl) (Qe rfl (q_loadN (vs := [_, _, _, _, _, _, _, _, _]) Tryd.underlying31 rfl ti31 rfl (ownS (ownS (own0))) rfl rfl) ?_)))))
        refine WE_main rfl rfl (OW_call1 (apply_s b B Ae ce t eff wt (by omega) (by rw [hX]; exact happ) (by have := T.text; omega) (by have := T.rs; omega)) (.cons rfl (.cons rfl (.nil))) (by decide) (.z) (memc (.tail _ (.tail _ (.tail _ (.tail _ (.tail _ (.tail _ (.tail _ (.tail _ (.tail _ (.tail _ (.head _))))))))))) (memc (.tail _ (.tail _ (.tail _ (.tail _ (.tail _ (.tail _ (.tail _ (.tail _ (.tail _ (.tail _ (.tail _ (.tail _ (.tail _ (.head _)))))))))))))) (memc (.tail _ (.tail _ (.tail _ (.tail _ (.tail _ (.head _)))))) mem0))) fun u11_5 Lo fs hres => ?_)
        obtain ⟨Bn, tn, rfl, rfl, rfl, wtn, rtn⟩ := hres
        refine ⟨⟨(List.Sublist.cons _ (List.Sublist.cons_cons _ (List.Sublist.cons_cons _ (List.Sublist.cons_cons _ (List.Sublist.cons_cons _ (List.Sublist.cons_cons _ (List.Sublist.cons_cons _ (List.Sublist.refl _)))))))), (.tail _ (.head _))⟩, ?_⟩
        refine Qe rfl (q_assign rfl) (WE_end (WF_nil (thenN (WC_seq (WC_region (Lq (q_move rfl) (Lq (q_eql rfl rfl) (Lq (q_assign rfl) (WL_nil (thenN (WC_ret ?_)))))))))))
        refine ⟨_, [_, _, _, _, _], [_, _, _, _, _, _], fun Z w hs => .tmp rfl (.nil), ?_, fun Z w hs => (((((hs.pick (.z)).pick (.s (.s (.s (.s (.s (.z))))))).pick (.s (.s (.s (.s (.s (.z))))))).pick (.s (.s (.s (.s (.z)))))).pick (.s (.s (.s (.s (.z)))))).out (List.Sublist.cons_cons _ (List.Sublist.cons_cons _ (List.Sublist.cons_cons _ (List.Sublist.cons_cons _ (List.Sublist.cons_cons _ (List.Sublist.cons _ (List.Sublist.cons _ (List.Sublist.refl _)))))))) (memc (.tail _ (.tail _ (.tail _ (.tail _ (.tail _ (.tail _ (.tail _ (.head _)))))))) (memc (.tail _ (.tail _ (.tail _ (.tail _ (.tail _ (.tail _ (.tail _ (.tail _ (.head _))))))))) (memc (.head _) (memc (.tail _ (.tail _ (.tail _ (.head _)))) (memc (.tail _ (.tail _ (.tail _ (.tail _ (.head _))))) (memc (.tail _ (.tail _ (.tail _ (.tail _ (.tail _ (.head _)))))) (fun _ h => .tail _ (.tail _ (.tail _ (.tail _ (.tail _ (.tail _ (.tail _ (.tail _ (.tail _ (.tail _ (.tail _ h)))))))))))))))))⟩
        exact ⟨rfl, L2, A8, cap2, Bn, tn, B1, d1, B2, d2, B3, d3, rfl, rfl, hr2, wtn, by rw [rtn, hX]⟩
    · refine WE_main rfl rfl (OW_alloc (cs := [_, _, _, _, _, _, _, _, _]) ti31 rfl (by decide) fun b7 => ?_)
      refine ⟨⟨(List.Sublist.cons _ (List.Sublist.cons_cons _ (List.Sublist.cons_cons _ (List.Sublist.cons _ (List.Sublist.cons _ (List.Sublist.cons _ (List.Sublist.cons_cons _ (List.Sublist.refl _)))))))), (.tail _ (.head _))⟩, ?_⟩
      refine WE_main rfl rfl (OW_call3 (put_s h m cap A H L hr i o A9 c9 hfit (by omega)) (.cons rfl (.cons rfl (.cons rfl (.nil)))) (by decide) (.s (.s (.s (.z)))) (.s (.s (.s (.z)))) (.s (.s (.s (.z)))) (memc (.tail _ (.tail _ (.head _))) (memc (.tail _ (.tail _ (.tail _ (.head _)))) (memc (.tail _ (.tail _ (.tail _ (.tail _ (.head _))))) (memc (.head _) mem0)))) fun u3_7 Lo fs hres => ?_)
      obtain ⟨L2, A8, cap2, Ae, ce, hr2, rfl, rfl, rfl⟩ := hres
      rw [T.put] at hr2 ⊢
      dsimp only at hr2 ⊢
      refine ⟨⟨(List.Sublist.cons _ (List.Sublist.cons _ (List.Sublist.cons _ (List.Sublist.cons _ (List.Sublist.cons_cons _ (List.Sublist.cons_cons _ (List.Sublist.cons_cons _ (List.Sublist.refl _)))))))), (.tail _ (.tail _ (.tail _ (.tail _ (.head _)))))⟩, ?_⟩
      refine Qe rfl (q_move rfl) (Qe rfl (q_extract (vs := [_, _]) rfl rfl) (WE_p rfl (q_extract (vs := [_, _]) rfl rfl) (by decide) (WE_end (WF_last rfl rfl (OW_storeN (cs' := [_, _, _, _, _, _, _, _, _]) (vs := [_, _, _, _, _, _, _, _, _]) ti31 rfl rfl rfl rfl rfl (Nat.le_of_ble_eq_true rfl) (.s (.s (.s (.z)))) (WF_p rfl (q_assign rfl) (by decide) (WF_nil (thenN (WC_seq (WC_seq (WC_region (Lq (q_move rfl) (Lq (q_neq rfl rfl) (WL_nil (thenN (WC_false rfl rfl (WC_skip (thenN (WC_seq (WC_region ?_))))))))))))))))))))
      refine Lq (q_move rfl) (Lq (q_move rfl) (Lq (q_loadN (vs := [_, _, _, _, _, _, _, _, _]) Tryd.underlying31 rfl ti31 rfl (ownS (ownS (ownS (ownS (own0))))) rfl rfl) ?_))
      refine WL_main rfl (OW_call1 (notes_s v h b H.ents.length A1 c1 A2 c2 A3 c3 nx (idsOf H.ents) (kindsOf H.ents) (textsOf H.ents) i o Ao co (by simp [idsOf]) (by simp [kindsOf, idsOf]) (by simp [textsOf, idsOf]) (by simp only [idsOf, List.length_map]; exact g.le) (by omega) hV.nxl hcb) (.cons rfl (.cons rfl (.cons rfl (.nil)))) (by decide) (.s (.s (.s (.s (.s (.z)))))) (memc (.tail _ (.tail _ (.tail _ (.tail _ (.tail _ (.tail _ (.tail _ (.tail _ (.tail _ (.head _)))))))))) (memc (.tail _ (.tail _ (.tail _ (.tail _ (.tail _ (.tail _ (.tail _ (.tail _ (.tail _ (.tail _ (.head _))))))))))) (memc (.tail _ (.tail _ (.tail _ (.tail _ (.tail _ (.tail _ (.tail _ (.tail _ (.tail _ (.tail _ (.tail _ (.head _)))))))))))) mem0))) fun u6_3 Lo fs hres => ?_)
      obtain ⟨B1, d1, B2, d2, B3, d3, rfl, rfl, rfl⟩ := hres
      rw [T.ids, T.ks, T.ts]
      rw [show H.ents.length + 1 = H2.ents.length from by rw [T.len, hV.len]]
      refine WL_nil (thenN (WC_seq (WC_seq (WC_draw _ _ [] (.c 0 0 (.c 1 0 (.c 2 0 (.c 3 0 (.c 5 0 (.c 6 0 (.c 7 0 (.c 8 0 (.c 9 0 (.c 4 2 (.c 10 0 (.c 11 0 (.c 12 0 (.c 13 0 (.c 14 0 (.c 15 0 (.c 17 0 (.c 18 0 (.c 19 0 (.c 20 0 (.c 21 0 (.c 22 0 (.c 16 2 (.c 23 2 (.c 24 0 (.c 25 0 .nil)))))))))))))))))))))))))) mixed (fun _ _ _ _ h => h) (List.Sublist.cons_cons _ (List.Sublist.cons _ (List.Sublist.cons_cons _ (List.Sublist.cons_cons _ (List.Sublist.cons_cons _ (List.Sublist.cons_cons _ (List.Sublist.cons_cons _ (List.Sublist.refl _)))))))) (fun _ h => h) (by kernel_rfl) (by decide) fun ws Z0 => Qe rfl (q_move rfl) (Qe rfl (q_nil rfl) (Qe rfl (q_field (o' := 0) Tryd.underlying61 rfl ti22 rfl rfl) (Qe rfl (q_load1 Tryd.underlying22 rfl rfl own0 rfl) (Qe rfl (q_move rfl) (Qe rfl (q_nil rfl) (Qe rfl (q_field (o' := 2) Tryd.underlying61 rfl ti56 rfl rfl) ?_))))))))))
      refine Qe rfl (q_load1 Tryd.underlying56 rfl rfl own0 rfl) (Qe rfl (q_len Tryd.underlying56 rfl) (WE_main rfl rfl (OW_call1 (hlen_s h m H2.ops.length cap2 A8 H2.total) (.cons rfl (.nil)) (by decide) (.s (.z)) mem0 fun u7_4 Lo fs hres => ?_)))
      obtain ⟨rfl, rfl, rfl⟩ := hres
      refine ⟨⟨(List.Sublist.cons _ (List.Sublist.cons_cons _ (List.Sublist.cons_cons _ (List.Sublist.cons_cons _ (List.Sublist.cons_cons _ (List.Sublist.cons_cons _ (List.Sublist.cons_cons _ (List.Sublist.refl _)))))))), (.head _)⟩, ?_⟩
      refine Qe rfl (q_neq rfl rfl) (Qe rfl (q_move rfl) (WE_gq rfl rfl rfl rfl (by rw [ho2]; simp) (q_move rfl) (by decide) (WE_gq rfl rfl rfl rfl (by rw [ho2]; simp) (q_nil rfl) (by decide) (WE_gq rfl rfl rfl rfl (by rw [ho2]; simp) (q_field (o' := 0) Tryd.underlying61 rfl ti22 rfl rfl) (by decide) (WE_gq rfl rfl rfl rfl (by rw [ho2]; simp) (q_load1 Tryd.underlying22 rfl rfl own0 rfl) (by decide) (WE_gq rfl rfl rfl rfl (by rw [ho2]; simp) (q_move rfl) (by decide) (WE_gq rfl rfl rfl rfl (by rw [ho2]; simp) (q_move rfl) (by decide) (WE_gq rfl rfl rfl rfl (by rw [ho2]; simp) (q_nil rfl) (by decide) (WE_gq rfl rfl rfl rfl (by rw [ho2]; simp) (q_field (o' := 2) Tryd.underlying61 rfl ti56 rfl rfl) (by decide) ?_)))))))))
      refine WE_gq rfl rfl rfl rfl (by rw [ho2]; simp) (q_load1 Tryd.underlying56 rfl rfl own0 rfl) (by decide) (WE_gq rfl rfl rfl rfl (by rw [ho2]; simp) (q_len Tryd.underlying56 rfl) (by decide) (WE_gmain rfl rfl rfl rfl rfl (by rw [ho2]; simp) (OW_call1 (htotal_s h m H2.ops.length cap2 A8 H2.total) (.cons rfl (.nil)) (by decide) (.z) mem0 fun u7_16 Lo fs hres => ?_)))
      obtain ⟨rfl, rfl, rfl⟩ := hres
      refine ⟨⟨(List.Sublist.cons _ (List.Sublist.cons_cons _ (List.Sublist.cons_cons _ (List.Sublist.cons_cons _ (List.Sublist.cons_cons _ (List.Sublist.cons_cons _ (List.Sublist.cons_cons _ (List.Sublist.refl _)))))))), (.head _)⟩, ?_⟩
      refine WE_gmain rfl rfl rfl rfl rfl (by rw [ho2]; simp) (OW_call1 (vtotal_s v h b H2.ents.length B1 d1 B2 d2 B3 d3 (nxF nx o.c o.n) (textsOf H2.ents) H2.ents.length (by simp [textsOf]) (Nat.le_refl _) (by rw [T.len]; omega) (fun j _ => by have := T.cb j; omega)) (.cons rfl (.cons rfl (.nil))) (by decide) (.s (.z)) (memc (.tail _ (.tail _ (.tail _ (.head _)))) mem0) fun u7_23 Lo fs hres => ?_)
      obtain ⟨rfl, rfl, rfl⟩ := hres
      refine ⟨⟨(List.Sublist.cons_cons _ (List.Sublist.cons _ (List.Sublist.cons_cons _ (List.Sublist.cons_cons _ (List.Sublist.cons_cons _ (List.Sublist.cons_cons _ (List.Sublist.cons_cons _ (List.Sublist.refl _)))))))), (.head _)⟩, ?_⟩
      refine WE_gq rfl rfl rfl rfl (by rw [ho2]; simp) (q_neq rfl rfl) (by decide) (Qe rfl (q_pickF rfl (by rw [ho2]; simp) rfl) (WE_end (WF_nil (thenN (WC_fr [(64, _), (7, _), (6, _), (5, _), (0, _)] (.cons rfl (.cons rfl (.cons rfl (.cons rfl (.cons rfl (.nil _)))))) (WC_false rfl (by simp; omega) (WC_skip (thenN (WC_seq (WC_seq (WC_region (Lq (q_field (o' := 0) Tryd.underlying31 rfl ti28 rfl rfl) (Lq (q_field (o' := 2) Tryd.underlying28 rfl ti26 rfl rfl) (Lq (q_load1 Tryd.underlying26 rfl rfl (ownS (ownS (ownS (ownS (own0))))) rfl) ?_))))))))))))))
      refine Lq (q_eql rfl rfl) (WL_nil (thenN (WC_cond rfl (fun h68 => ?_) (fun h68 => ?_))))
      · refine WC_seq ?_
        obtain ⟨hze, hk4⟩ := T.noEff (by simpa using h68)
        subst hze
        refine WC_fact (A := RdF rgD none 0 []) (fun Z w hs => RdS.nil _ _ _) (WC_region (Lq (q_field (o' := 0) Tryd.underlying31 rfl ti28 rfl rfl) (Lq (q_field (o' := 2) Tryd.underlying28 rfl ti26 rfl rfl) (Lq (q_load1 Tryd.underlying26 rfl rfl (ownS (ownS (ownS (ownS (ownS (own0)))))) rfl) (Lq (q_eql rfl rfl) (Lq (q_move rfl) (Lg rfl rfl rfl (by simpa using hk4) (q_loadN (vs := [_, _, _, _, _, _, _, _, _]) Tryd.underlying31 rfl ti31 rfl (ownS (ownS (ownS (ownS (own0))))) rfl rfl) (Lg rfl rfl rfl (by simpa using hk4) (q_build (.nil) (bd31Xw40)) (WL_gmain rfl rfl rfl (by simpa using hk4) (OW_call0 (eqOp_t zeroOp Ae none ce 0 (by decide)) (.cons rfl (.cons rfl (.nil))) (by decide) (memc (.tail _ (.tail _ (.tail _ (.tail _ (.tail _ (.head _)))))) (memc (.head _) mem0)) fun u10_7 Lo fs hres => ?_))))))))))
        obtain ⟨rfl, rfl, rfl⟩ := hres
        refine Lq (q_pickT rfl (by simpa using hk4) rfl) (Lq (q_assign rfl) (WL_nil (thenN (WC_ret (thenRet ?_)))))
        refine ⟨_, [_, _, _, _, _], [_, _, _, _, _, _], fun Z w hs => .tmp rfl (.nil), ?_, fun Z w hs => hs.out (List.Sublist.cons_cons _ (List.Sublist.cons_cons _ (List.Sublist.cons_cons _ (List.Sublist.cons_cons _ (List.Sublist.cons _ (List.Sublist.cons _ (List.Sublist.cons_cons _ (List.Sublist.refl _)))))))) (memc (.tail _ (.tail _ (.tail _ (.tail _ (.tail _ (.tail _ (.head _))))))) (memc (.tail _ (.tail _ (.tail _ (.tail _ (.tail _ (.tail _ (.tail _ (.head _)))))))) (memc (.tail _ (.tail _ (.tail _ (.tail _ (.tail _ (.tail _ (.tail _ (.tail _ (.tail _ (.tail _ (.tail _ (.tail _ (.tail _ (.head _)))))))))))))) (memc (.tail _ (.tail _ (.head _))) (memc (.tail _ (.tail _ (.tail _ (.head _)))) (memc (.tail _ (.tail _ (.tail _ (.tail _ (.head _))))) (fun _ h => .tail _ (.tail _ (.tail _ (.tail _ (.tail _ (.tail _ (.tail _ (.tail _ (.tail _ (.tail _ h))))))))))))))))⟩
        exact ⟨rfl, L2, A8, cap2, B, t, B1, d1, B2, d2, B3, d3, rfl, rfl, hr2, wt, hX⟩
      · refine WC_skip (thenN (WC_seq ?_))
        have happ := T.app (by simpa using h68)
        refine WC_pick (.s (.s (.s (.s (.s (.s (.z))))))) (WC_draw _ _ [] (.c 0 0 (.c 1 0 (.c 2 0 (.c 3 0 (.c 4 0 (.c 5 2 (.c 6 0 .nil))))))) mixed (fun _ _ _ _ h => h) (List.Sublist.cons _ (List.Sublist.cons_cons _ (List.Sublist.cons_cons _ (List.Sublist.cons_cons _ (List.Sublist.cons_cons _ (List.Sublist.cons_cons _ (List.Sublist.cons_cons _ (List.Sublist.refl _)))))))) (fun _ h => h) (by kernel_rfl) (by decide) fun ws Z0 => Qe rfl (q_move rfl) (Qe rfl (q_nil rfl) (Qe rfl (q_field (o' := 1) Tryd.underlying61 rfl ti55 rfl rfl) (Qe rfl (q_load1 Tryd.underlying55 rfl rfl own0 rfl) (Qe rfl (q_loadN (vs := [_, _, _, _, _, _, _, _, _]) Tryd.underlying31 rfl ti31 rfl (ownS (ownS (ownS (ownS (own0))))) rfl rfl) ?_)))))
        refine WE_main rfl rfl (OW_call1 (apply_s b B Ae ce t eff wt (by omega) (by rw [hX]; exact happ) (by have := T.text; omega) (by have := T.rs; omega)) (.cons rfl (.cons rfl (.nil))) (by decide) (.z) (memc (.tail _ (.tail _ (.tail _ (.tail _ (.tail _ (.tail _ (.tail _ (.tail _ (.tail _ (.tail _ (.head _))))))))))) (memc (.tail _ (.tail _ (.tail _ (.tail _ (.tail _ (.tail _ (.tail _ (.tail _ (.tail _ (.tail _ (.tail _ (.tail _ (.tail _ (.head _)))))))))))))) (memc (.tail _ (.tail _ (.tail _ (.tail _ (.tail _ (.head _)))))) mem0))) fun u11_5 Lo fs hres => ?_)
        obtain ⟨Bn, tn, rfl, rfl, rfl, wtn, rtn⟩ := hres
        refine ⟨⟨(List.Sublist.cons _ (List.Sublist.cons_cons _ (List.Sublist.cons_cons _ (List.Sublist.cons_cons _ (List.Sublist.cons_cons _ (List.Sublist.cons_cons _ (List.Sublist.cons_cons _ (List.Sublist.refl _)))))))), (.tail _ (.head _))⟩, ?_⟩
        refine Qe rfl (q_assign rfl) (WE_end (WF_nil (thenN (WC_seq (WC_region (Lq (q_move rfl) (Lq (q_eql rfl rfl) (Lq (q_assign rfl) (WL_nil (thenN (WC_ret ?_)))))))))))
        refine ⟨_, [_, _, _, _, _], [_, _, _, _, _, _], fun Z w hs => .tmp rfl (.nil), ?_, fun Z w hs => (((((hs.pick (.z)).pick (.s (.s (.s (.s (.z)))))).pick (.s (.s (.s (.s (.z)))))).pick (.s (.s (.s (.s (.z)))))).pick (.s (.s (.s (.s (.z)))))).out (List.Sublist.cons_cons _ (List.Sublist.cons_cons _ (List.Sublist.cons_cons _ (List.Sublist.cons_cons _ (List.Sublist.cons_cons _ (List.Sublist.cons _ (List.Sublist.cons _ (List.Sublist.refl _)))))))) (memc (.tail _ (.tail _ (.tail _ (.tail _ (.tail _ (.tail _ (.tail _ (.head _)))))))) (memc (.tail _ (.tail _ (.tail _ (.tail _ (.tail _ (.tail _ (.tail _ (.tail _ (.head _))))))))) (memc (.head _) (memc (.tail _ (.tail _ (.tail _ (.head _)))) (memc (.tail _ (.tail _ (.tail _ (.tail _ (.head _))))) (memc (.tail _ (.tail _ (.tail _ (.tail _ (.tail _ (.head _)))))) (fun _ h => .tail _ (.tail _ (.tail _ (.tail _ (.tail _ (.tail _ (.tail _ (.tail _ (.tail _ (.tail _ (.tail _ h)))))))))))))))))⟩
        exact ⟨rfl, L2, A8, cap2, Bn, tn, B1, d1, B2, d2, B3, d3, rfl, rfl, hr2, wtn, by rw [rtn, hX]⟩
  · refine WE_main rfl rfl (OW_alloc (cs := [_, _, _, _, _, _, _, _, _]) ti31 rfl (by decide) fun b7 => ?_)
    refine ⟨⟨(List.Sublist.cons _ (List.Sublist.cons_cons _ (List.Sublist.cons_cons _ (List.Sublist.cons _ (List.Sublist.cons _ (List.Sublist.cons _ (List.Sublist.cons_cons _ (List.Sublist.refl _)))))))), (.head _)⟩, ?_⟩
    refine WE_main rfl rfl (OW_call0 (lown_s o Ao co hfit.rs) (.cons rfl (.nil)) (by decide) (memc (.tail _ (.tail _ (.tail _ (.tail _ (.tail _ (.tail _ (.tail _ (.tail _ (.head _))))))))) mem0) fun u3_6 Lo fs hres => ?_)
    obtain ⟨A9, c9, rfl, rfl, rfl⟩ := hres
    refine ⟨⟨(List.Sublist.cons _ (List.Sublist.cons_cons _ (List.Sublist.cons_cons _ (List.Sublist.cons _ (List.Sublist.cons _ (List.Sublist.cons _ (List.Sublist.cons_cons _ (List.Sublist.refl _)))))))), (.tail _ (.head _))⟩, ?_⟩
    refine WE_main rfl rfl (OW_call3 (put_s h m cap A H L hr i o A9 c9 hfit (by omega)) (.cons rfl (.cons rfl (.cons rfl (.nil)))) (by decide) (.s (.s (.s (.z)))) (.s (.s (.s (.z)))) (.s (.s (.s (.z)))) (memc (.tail _ (.tail _ (.head _))) (memc (.tail _ (.tail _ (.tail _ (.head _)))) (memc (.tail _ (.tail _ (.tail _ (.tail _ (.head _))))) (memc (.head _) mem0)))) fun u3_7 Lo fs hres => ?_)
    obtain ⟨L2, A8, cap2, Ae, ce, hr2, rfl, rfl, rfl⟩ := hres
    rw [T.put] at hr2 ⊢
    dsimp only at hr2 ⊢
    refine ⟨⟨(List.Sublist.cons _ (List.Sublist.cons _ (List.Sublist.cons _ (List.Sublist.cons _ (List.Sublist.cons_cons _ (List.Sublist.cons_cons _ (List.Sublist.cons_cons _ (List.Sublist.refl _)))))))), (.tail _ (.tail _ (.tail _ (.tail _ (.head _)))))⟩, ?_⟩
    refine Qe rfl (q_move rfl) (Qe rfl (q_extract (vs := [_, _]) rfl rfl) (WE_p rfl (q_extract (vs := [_, _]) rfl rfl) (by decide) (WE_end (WF_last rfl rfl (OW_storeN (cs' := [_, _, _, _, _, _, _, _, _]) (vs := [_, _, _, _, _, _, _, _, _]) ti31 rfl rfl rfl rfl rfl (Nat.le_of_ble_eq_true rfl) (.s (.s (.s (.z)))) (WF_p rfl (q_assign rfl) (by decide) (WF_nil (thenN (WC_seq (WC_seq (WC_region (Lq (q_move rfl) (Lq (q_neq rfl rfl) (WL_nil (thenN (WC_false rfl rfl (WC_skip (thenN (WC_seq (WC_region ?_))))))))))))))))))))
    refine Lq (q_move rfl) (Lq (q_move rfl) (Lq (q_loadN (vs := [_, _, _, _, _, _, _, _, _]) Tryd.underlying31 rfl ti31 rfl (ownS (ownS (ownS (ownS (own0))))) rfl rfl) ?_))
    refine WL_main rfl (OW_call1 (notes_s v h b H.ents.length A1 c1 A2 c2 A3 c3 nx (idsOf H.ents) (kindsOf H.ents) (textsOf H.ents) i o Ao co (by simp [idsOf]) (by simp [kindsOf, idsOf]) (by simp [textsOf, idsOf]) (by simp only [idsOf, List.length_map]; exact g.le) (by omega) hV.nxl hcb) (.cons rfl (.cons rfl (.cons rfl (.nil)))) (by decide) (.s (.s (.s (.s (.s (.z)))))) (memc (.tail _ (.tail _ (.tail _ (.tail _ (.tail _ (.tail _ (.tail _ (.tail _ (.tail _ (.head _)))))))))) (memc (.tail _ (.tail _ (.tail _ (.tail _ (.tail _ (.tail _ (.tail _ (.tail _ (.tail _ (.tail _ (.head _))))))))))) (memc (.tail _ (.tail _ (.tail _ (.tail _ (.tail _ (.tail _ (.tail _ (.tail _ (.tail _ (.tail _ (.tail _ (.head _)))))))))))) mem0))) fun u6_3 Lo fs hres => ?_)
    obtain ⟨B1, d1, B2, d2, B3, d3, rfl, rfl, rfl⟩ := hres
    rw [T.ids, T.ks, T.ts]
    rw [show H.ents.length + 1 = H2.ents.length from by rw [T.len, hV.len]]
    refine WL_nil (thenN (WC_seq (WC_seq (WC_draw _ _ [] (.c 0 0 (.c 1 0 (.c 2 0 (.c 3 0 (.c 5 0 (.c 6 0 (.c 7 0 (.c 8 0 (.c 9 0 (.c 4 2 (.c 10 0 (.c 11 0 (.c 12 0 (.c 13 0 (.c 14 0 (.c 15 0 (.c 17 0 (.c 18 0 (.c 19 0 (.c 20 0 (.c 21 0 (.c 22 0 (.c 16 2 (.c 23 2 (.c 24 0 (.c 25 0 .nil)))))))))))))))))))))))))) mixed (fun _ _ _ _ h => h) (List.Sublist.cons_cons _ (List.Sublist.cons _ (List.Sublist.cons_cons _ (List.Sublist.cons_cons _ (List.Sublist.cons_cons _ (List.Sublist.cons_cons _ (List.Sublist.cons_cons _ (List.Sublist.refl _)))))))) (fun _ h => h) (by kernel_rfl) (by decide) fun ws Z0 => Qe rfl (q_move rfl) (Qe rfl (q_nil rfl) (Qe rfl (q_field (o' := 0) Tryd.underlying61 rfl ti22 rfl rfl) (Qe rfl (q_load1 Tryd.underlying22 rfl rfl own0 rfl) (Qe rfl (q_move rfl) (Qe rfl (q_nil rfl) (Qe rfl (q_field (o' := 2) Tryd.underlying61 rfl ti56 rfl rfl) ?_))))))))))
    refine Qe rfl (q_load1 Tryd.underlying56 rfl rfl own0 rfl) (Qe rfl (q_len Tryd.underlying56 rfl) (WE_main rfl rfl (OW_call1 (hlen_s h m H2.ops.length cap2 A8 H2.total) (.cons rfl (.nil)) (by decide) (.s (.z)) mem0 fun u7_4 Lo fs hres => ?_)))
    obtain ⟨rfl, rfl, rfl⟩ := hres
    refine ⟨⟨(List.Sublist.cons _ (List.Sublist.cons_cons _ (List.Sublist.cons_cons _ (List.Sublist.cons_cons _ (List.Sublist.cons_cons _ (List.Sublist.cons_cons _ (List.Sublist.cons_cons _ (List.Sublist.refl _)))))))), (.head _)⟩, ?_⟩
    refine Qe rfl (q_neq rfl rfl) (Qe rfl (q_move rfl) (WE_gq rfl rfl rfl rfl (by rw [ho2]; simp) (q_move rfl) (by decide) (WE_gq rfl rfl rfl rfl (by rw [ho2]; simp) (q_nil rfl) (by decide) (WE_gq rfl rfl rfl rfl (by rw [ho2]; simp) (q_field (o' := 0) Tryd.underlying61 rfl ti22 rfl rfl) (by decide) (WE_gq rfl rfl rfl rfl (by rw [ho2]; simp) (q_load1 Tryd.underlying22 rfl rfl own0 rfl) (by decide) (WE_gq rfl rfl rfl rfl (by rw [ho2]; simp) (q_move rfl) (by decide) (WE_gq rfl rfl rfl rfl (by rw [ho2]; simp) (q_move rfl) (by decide) (WE_gq rfl rfl rfl rfl (by rw [ho2]; simp) (q_nil rfl) (by decide) (WE_gq rfl rfl rfl rfl (by rw [ho2]; simp) (q_field (o' := 2) Tryd.underlying61 rfl ti56 rfl rfl) (by decide) ?_)))))))))
    refine WE_gq rfl rfl rfl rfl (by rw [ho2]; simp) (q_load1 Tryd.underlying56 rfl rfl own0 rfl) (by decide) (WE_gq rfl rfl rfl rfl (by rw [ho2]; simp) (q_len Tryd.underlying56 rfl) (by decide) (WE_gmain rfl rfl rfl rfl rfl (by rw [ho2]; simp) (OW_call1 (htotal_s h m H2.ops.length cap2 A8 H2.total) (.cons rfl (.nil)) (by decide) (.z) mem0 fun u7_16 Lo fs hres => ?_)))
    obtain ⟨rfl, rfl, rfl⟩ := hres
    refine ⟨⟨(List.Sublist.cons _ (List.Sublist.cons_cons _ (List.Sublist.cons_cons _ (List.Sublist.cons_cons _ (List.Sublist.cons_cons _ (List.Sublist.cons_cons _ (List.Sublist.cons_cons _ (List.Sublist.refl _)))))))), (.head _)⟩, ?_⟩
    refine WE_gmain rfl rfl rfl rfl rfl (by rw [ho2]; simp) (OW_call1 (vtotal_s v h b H2.ents.length B1 d1 B2 d2 B3 d3 (nxF nx o.c o.n) (textsOf H2.ents) H2.ents.length (by simp [textsOf]) (Nat.le_refl _) (by rw [T.len]; omega) (fun j _ => by have := T.cb j; omega)) (.cons rfl (.cons rfl (.nil))) (by decide) (.s (.z)) (memc (.tail _ (.tail _ (.tail _ (.head _)))) mem0) fun u7_23 Lo fs hres => ?_)
    obtain ⟨rfl, rfl, rfl⟩ := hres
    refine ⟨⟨(List.Sublist.cons_cons _ (List.Sublist.cons _ (List.Sublist.cons_cons _ (List.Sublist.cons_cons _ (List.Sublist.cons_cons _ (List.Sublist.cons_cons _ (List.Sublist.cons_cons _ (List.Sublist.refl _)))))))), (.head _)⟩, ?_⟩
    refine WE_gq rfl rfl rfl rfl (by rw [ho2]; simp) (q_neq rfl rfl) (by decide) (Qe rfl (q_pickF rfl (by rw [ho2]; simp) rfl) (WE_end (WF_nil (thenN (WC_fr [(64, _), (7, _), (6, _), (5, _), (0, _)] (.cons rfl (.cons rfl (.cons rfl (.cons rfl (.cons rfl (.nil _)))))) (WC_false rfl (by simp; omega) (WC_skip (thenN (WC_seq (WC_seq (WC_region (Lq (q_field (o' := 0) Tryd.underlying31 rfl ti28 rfl rfl) (Lq (q_field (o' := 2) Tryd.underlying28 rfl ti26 rfl rfl) (Lq (q_load1 Tryd.underlying26 rfl rfl (ownS (ownS (ownS (ownS (own0))))) rfl) ?_))))))))))))))
    refine Lq (q_eql rfl rfl) (WL_nil (thenN (WC_cond rfl (fun h68 => ?_) (fun h68 => ?_))))
    · refine WC_seq ?_
      obtain ⟨hze, hk4⟩ := T.noEff (by simpa using h68)
      subst hze
      refine WC_fact (A := RdF rgD none 0 []) (fun Z w hs => RdS.nil _ _ _) (WC_region (Lq (q_field (o' := 0) Tryd.underlying31 rfl ti28 rfl rfl) (Lq (q_field (o' := 2) Tryd.underlying28 rfl ti26 rfl rfl) (Lq (q_load1 Tryd.underlying26 rfl rfl (ownS (ownS (ownS (ownS (ownS (own0)))))) rfl) (Lq (q_eql rfl rfl) (Lq (q_move rfl) (Lg rfl rfl rfl (by simpa using hk4) (q_loadN (vs := [_, _, _, _, _, _, _, _, _]) Tryd.underlying31 rfl ti31 rfl (ownS (ownS (ownS (ownS (own0))))) rfl rfl) (Lg rfl rfl rfl (by simpa using hk4) (q_build (.nil) (bd31Xw40)) (WL_gmain rfl rfl rfl (by simpa using hk4) (OW_call0 (eqOp_t zeroOp Ae none ce 0 (by decide)) (.cons rfl (.cons rfl (.nil))) (by decide) (memc (.tail _ (.tail _ (.tail _ (.tail _ (.tail _ (.head _)))))) (memc (.head _) mem0)) fun u10_7 Lo fs hres => ?_))))))))))
      obtain ⟨rfl, rfl, rfl⟩ := hres
      refine Lq (q_pickT rfl (by simpa using hk4) rfl) (Lq (q_assign rfl) (WL_nil (thenN (WC_ret (thenRet ?_)))))
      refine ⟨_, [_, _, _, _, _], [_, _, _, _, _, _], fun Z w hs => .tmp rfl (.nil), ?_, fun Z w hs => hs.out (List.Sublist.cons_cons _ (List.Sublist.cons_cons _ (List.Sublist.cons_cons _ (List.Sublist.cons_cons _ (List.Sublist.cons _ (List.Sublist.cons _ (List.Sublist.cons_cons _ (List.Sublist.refl _)))))))) (memc (.tail _ (.tail _ (.tail _ (.tail _ (.tail _ (.tail _ (.head _))))))) (memc (.tail _ (.tail _ (.tail _ (.tail _ (.tail _ (.tail _ (.tail _ (.head _)))))))) (memc (.tail _ (.tail _ (.tail _ (.tail _ (.tail _ (.tail _ (.tail _ (.tail _ (.tail _ (.tail _ (.tail _ (.tail _ (.tail _ (.head _)))))))))))))) (memc (.tail _ (.tail _ (.head _))) (memc (.tail _ (.tail _ (.tail _ (.head _)))) (memc (.tail _ (.tail _ (.tail _ (.tail _ (.head _))))) (fun _ h => .tail _ (.tail _ (.tail _ (.tail _ (.tail _ (.tail _ (.tail _ (.tail _ (.tail _ (.tail _ h))))))))))))))))⟩
      exact ⟨rfl, L2, A8, cap2, B, t, B1, d1, B2, d2, B3, d3, rfl, rfl, hr2, wt, hX⟩
    · refine WC_skip (thenN (WC_seq ?_))
      have happ := T.app (by simpa using h68)
      refine WC_pick (.s (.s (.s (.s (.s (.s (.z))))))) (WC_draw _ _ [] (.c 0 0 (.c 1 0 (.c 2 0 (.c 3 0 (.c 4 0 (.c 5 2 (.c 6 0 .nil))))))) mixed (fun _ _ _ _ h => h) (List.Sublist.cons _ (List.Sublist.cons_cons _ (List.Sublist.cons_cons _ (List.Sublist.cons_cons _ (List.Sublist.cons_cons _ (List.Sublist.cons_cons _ (List.Sublist.cons_cons _ (List.Sublist.refl _)))))))) (fun _ h => h) (by kernel_rfl) (by decide) fun ws Z0 => Qe rfl (q_move rfl) (Qe rfl (q_nil rfl) (Qe rfl (q_field (o' := 1) Tryd.underlying61 rfl ti55 rfl rfl) (Qe rfl (q_load1 Tryd.underlying55 rfl rfl own0 rfl) (Qe rfl (q_loadN (vs := [_, _, _, _, _, _, _, _, _]) Tryd.underlying31 rfl ti31 rfl (ownS (ownS (ownS (ownS (own0))))) rfl rfl) ?_)))))
      refine WE_main rfl rfl (OW_call1 (apply_s b B Ae ce t eff wt (by omega) (by rw [hX]; exact happ) (by have := T.text; omega) (by have := T.rs; omega)) (.cons rfl (.cons rfl (.nil))) (by decide) (.z) (memc (.tail _ (.tail _ (.tail _ (.tail _ (.tail _ (.tail _ (.tail _ (.tail _ (.tail _ (.tail _ (.head _))))))))))) (memc (.tail _ (.tail _ (.tail _ (.tail _ (.tail _ (.tail _ (.tail _ (.tail _ (.tail _ (.tail _ (.tail _ (.tail _ (.tail _ (.head _)))))))))))))) (memc (.tail _ (.tail _ (.tail _ (.tail _ (.tail _ (.head _)))))) mem0))) fun u11_5 Lo fs hres => ?_)
      obtain ⟨Bn, tn, rfl, rfl, rfl, wtn, rtn⟩ := hres
      refine ⟨⟨(List.Sublist.cons _ (List.Sublist.cons_cons _ (List.Sublist.cons_cons _ (List.Sublist.cons_cons _ (List.Sublist.cons_cons _ (List.Sublist.cons_cons _ (List.Sublist.cons_cons _ (List.Sublist.refl _)))))))), (.tail _ (.head _))⟩, ?_⟩
      refine Qe rfl (q_assign rfl) (WE_end (WF_nil (thenN (WC_seq (WC_region (Lq (q_move rfl) (Lq (q_eql rfl rfl) (Lq (q_assign rfl) (WL_nil (thenN (WC_ret ?_)))))))))))
      refine ⟨_, [_, _, _, _, _], [_, _, _, _, _, _], fun Z w hs => .tmp rfl (.nil), ?_, fun Z w hs => (((((hs.pick (.z)).pick (.s (.s (.s (.s (.z)))))).pick (.s (.s (.s (.s (.z)))))).pick (.s (.s (.s (.s (.z)))))).pick (.s (.s (.s (.s (.z)))))).out (List.Sublist.cons_cons _ (List.Sublist.cons_cons _ (List.Sublist.cons_cons _ (List.Sublist.cons_cons _ (List.Sublist.cons_cons _ (List.Sublist.cons _ (List.Sublist.cons _ (List.Sublist.refl _)))))))) (memc (.tail _ (.tail _ (.tail _ (.tail _ (.tail _ (.tail _ (.tail _ (.head _)))))))) (memc (.tail _ (.tail _ (.tail _ (.tail _ (.tail _ (.tail _ (.tail _ (.tail _ (.head _))))))))) (memc (.head _) (memc (.tail _ (.tail _ (.tail _ (.head _)))) (memc (.tail _ (.tail _ (.tail _ (.tail _ (.head _))))) (memc (.tail _ (.tail _ (.tail _ (.tail _ (.tail _ (.head _)))))) (fun _ h => .tail _ (.tail _ (.tail _ (.tail _ (.tail _ (.tail _ (.tail _ (.tail _ (.tail _ (.tail _ (.tail _ h)))))))))))))))))⟩
      exact ⟨rfl, L2, A8, cap2, Bn, tn, B1, d1, B2, d2, B3, d3, rfl, rfl, hr2, wtn, by rw [rtn, hX]⟩

end Go.Proofs.YtggdddkbhigjoaaDoor
/- Walks: fed. -/
namespace Go.Proofs.YtggdddkbhigjoaaDoor
open Go Go.GW
def mvD : De Mv where
  sz := 6
  rep _ _ x cs := cs = mvC x
  len h := by subst h; rfl
  one h := by subst h; rfl
  stable _ _ _ _ _ h := h
theorem mv_open (u : Mv) : ∀ Z w cs, mvD.rep Z w u cs → ∃ y : Unit, cs = mvC u ∧ ∀ B ∈ ([] : List Fact), B.holds Z w := fun _ _ _ h => ⟨(), h, fun _ h => by cases h⟩
def FedD (ms : List Mv) : Value → List Part → List Fact → Prop := fun u Lo fs => ∃ (v h m b n : Nat) (H : Hist) (X : List Ce) (nx : List Int), u = .tuple #[.pointer (some ⟨v, 0, none⟩), .bool true] ∧ ViewAt v h m b H X nx Lo fs ∧ VI n n H X nx ∧ n ≤ 20 ∧ n = min ms.length 20 ∧ fedN ms n = ⟨H, X, nx⟩
structure FeI (k : Nat) (H : Hist) (X : List Ce) (nx : List Int) (L : List MR) (t : Tr) : Prop where
  le : k ≤ 20
  vi : VI k k H X nx
  hr : HR H L
  wt : Wf t
  hX : t.row = X

set_option maxRecDepth 10000 in
theorem fed_d (Am : Option Addr) (cm : Nat) (ms : List Mv) : Sp Tryd.prog 18 [.slice Am ms.length cm] [] [barF, RdF mvD Am cm ms] (FedD ms) := by
  refine Sp.of (n := 51) ⟨_, Tryd.func18, rfl, rfl, rfl, rfl⟩ (Nat.le_of_ble_eq_true rfl) fun Ps As => WC_seq (WC_region (Lq (q_assign rfl) (Lq (q_assign rfl) (WL_nil (thenN (WC_seq (WC_region (WL_main rfl (OW_call0 (newView_s) (.nil) (by decide) mem0 fun u1_0 Lo fs hres => ?_)))))))))
  obtain ⟨v, h, m, b, rfl, L0, A0, cap0, B0, t0, A10, c10, A20, c20, A30, c30, rfl, rfl, hr0, wt0, hX0⟩ := hres
  refine Lq (q_move rfl) (Lq (q_extract (vs := [_, _]) rfl rfl) (Lq (q_extract (vs := [_, _]) rfl rfl) (Lq (q_assign rfl) (Lq (q_assign rfl) (WL_nil (thenN (WC_seq (WC_seq (WC_region (Lq (q_move rfl) (Lq (q_not rfl) (WL_nil (thenN (WC_false rfl rfl (WC_skip (thenN (WC_seq (WC_seq (WC_region (Lq (q_assign rfl) ?_))))))))))))))))))))
  refine WL_nil (thenN (WC_block ?_))
  refine WC_loopE (α := Nat × Hist × List Ce × List Int × List MR × Option Addr × Nat × Option Addr × Tr × Option Addr × Nat × Option Addr × Nat × Option Addr × Nat) (fun (k, H, X, nx, L, A, cap, B, t, A1, c1, A2, c2, A3, c3) => 20 - k)
    (fun (k, H, X, nx, L, A, cap, B, t, A1, c1, A2, c2, A3, c3) => [(0, .slice Am ms.length cm), (4, .pointer (some ⟨v, 0, none⟩)), (6, .int .i64 k)])
    (fun (k, H, X, nx, L, A, cap, B, t, A1, c1, A2, c2, A3, c3) => (vwP v h b A1 H.ents.length c1 A2 c2 A3 c3 nx :: hdP h A H.ops.length cap m H.total :: mpP m L :: mkP L :: rpP b B :: Ps))
    (fun (k, H, X, nx, L, A, cap, B, t, A1, c1, A2, c2, A3, c3) => (RdF opD A cap H.ops :: AllF L nowF :: TrF B t :: RdF idD A1 c1 (idsOf H.ents) :: RdF (De.int .i64) A2 c2 (kindsOf H.ents) :: RdF De.str A3 c3 (textsOf H.ents) :: barF :: RdF mvD Am cm ms :: As))
    (fun (k, H, X, nx, L, A, cap, B, t, A1, c1, A2, c2, A3, c3) => FeI k H X nx L t ∧ fedN ms k = ⟨H, X, nx⟩ ∧ k ≤ ms.length)
    (0, ⟨[], 0⟩, [], List.replicate 9 0, L0, A0, cap0, B0, t0, A10, c10, A20, c20, A30, c30) ?_ (.cons rfl (.cons rfl (.cons rfl (.nil _)))) (List.Sublist.cons_cons _ (List.Sublist.cons_cons _ (List.Sublist.cons_cons _ (List.Sublist.cons_cons _ (List.Sublist.cons_cons _ (List.Sublist.refl _)))))) (fun _ h => h) ?_
  · exact ⟨⟨Nat.zero_le _, VI.zero, hr0, wt0, hX0⟩, rfl, Nat.zero_le _⟩
  · rintro ⟨k, H, X, nx, L, A, cap, B, t, A1, c1, A2, c2, A3, c3⟩ ⟨hI, hF, hkl⟩
    refine WC_seq (WC_seq (WC_region (Lq (q_move rfl) (Lq (q_move rfl) (Lq (q_len Tryd.underlying49 rfl) (Lq (q_lss rfl rfl) (Lq (q_move rfl) (WL_guard (t := 19) rfl (fun g19 => ?_) (fun g19 => ?_)))))))))
    · refine Lg rfl rfl rfl g19 (q_move rfl) (Lg rfl rfl rfl g19 (q_lss rfl rfl) (Lq (q_pickT rfl g19 rfl) (WL_nil (thenN (WC_cond rfl (fun h22 => ?_) (fun h22 => ?_))))))
      · refine WC_skip (thenN (WC_seq (WC_block (WC_seq ?_))))
        have hkm : k < ms.length := by simp only [decide_eq_true_eq] at g19; omega
        have hk20 : k < 20 := by simp only [decide_eq_true_eq] at h22; omega
        have hV := hI.vi
        have hnl := hV.len
        refine WC_elem (k := k) (.tail _ (.tail _ (.tail _ (.tail _ (.tail _ (.tail _ (.tail _ (.head _)))))))) (List.getElem?_eq_getElem hkm) (mv_open _) fun b7 q7 y7 e7 => ?_
        cases e7
        refine WC_pick (.s (.s (.s (.s (.z))))) (WC_pick (.s (.s (.s (.s (.z))))) (WC_pick (.s (.s (.s (.s (.z))))) (WC_pick (.s (.s (.s (.s (.z))))) (WC_pick (.s (.s (.s (.s (.z))))) (WC_draw _ _ [] (.c 0 0 (.c 1 0 (.c 2 0 (.c 3 0 (.c 4 0 (.c 5 0 (.c 6 0 (.c 7 0 (.c 8 0 (.c 9 0 (.c 10 0 (.c 11 2 (.c 12 0 .nil))))))))))))) mixed (fun _ _ _ _ h => h) (List.Sublist.cons_cons _ (List.Sublist.cons_cons _ (List.Sublist.cons_cons _ (List.Sublist.cons_cons _ (List.Sublist.cons_cons _ (List.Sublist.refl _)))))) (fun _ h => h) (by kernel_rfl) (by decide) fun ws Z0 => Qe rfl (q_move rfl) (Qe rfl (q_move rfl) (Qe rfl (q_idxRd Tryd.underlying49 ti51 rfl rfl (by omega) (by omega)) (Qe rfl (q_field (o' := _ + 1) Tryd.underlying51 rfl ti3 rfl rfl) ?_))))))))
        refine Qe rfl (q_loadF1 (j := 1) Tryd.underlying3 rfl rfl (.head _) rfl rfl) (Qe rfl (q_move rfl) (Qe rfl (q_nil rfl) (Qe rfl (q_field (o' := 2) Tryd.underlying61 rfl ti56 rfl rfl) (Qe rfl (q_load1 Tryd.underlying56 rfl rfl own0 rfl) (Qe rfl (q_len Tryd.underlying56 rfl) (Qe rfl (q_add rfl rfl (by rw [hnl]; exact wr64 (by omega)) (c := ((k + 1 : Nat) : Int))) (WE_main rfl rfl (OW_call0 (rest_r ms[k].i (k + 1) (by omega)) (.cons rfl (.cons rfl (.nil))) (by decide) mem0 fun u7_11 Lo fs hres => ?_))))))))
        obtain ⟨r36, hr36, hm36, rfl, rfl, rfl⟩ := hres
        refine ⟨⟨(List.Sublist.cons_cons _ (List.Sublist.cons_cons _ (List.Sublist.cons_cons _ (List.Sublist.cons_cons _ (List.Sublist.cons_cons _ (List.Sublist.refl _)))))), (.head _)⟩, ?_⟩
        refine Qe rfl (q_assign rfl) (WE_end (WF_nil (thenN (WC_seq ?_))))
        have hi : r36 ≤ k := by omega
        refine WC_region (Lq (q_move rfl) (Lq (q_move rfl) (Lq (q_move rfl) (Lq (q_move rfl) (Lq (q_move rfl) (Lq (q_idxRd Tryd.underlying49 ti51 rfl rfl (by omega) (by omega)) (Lq (q_loadFN (k := 0) (vs := [_, _, _, _, _, _]) Tryd.underlying51 rfl ti51 rfl (.tail _ (.head _)) rfl rfl rfl) (Lq (q_move rfl) (WL_main rfl (OW_call1 (makes_d k k X H v h b A1 c1 A2 c2 A3 c3 nx ms[k] r36 hV (by omega) hi) (.cons rfl (.cons rfl (.cons rfl (.nil)))) (by decide) (.z) (memc (.tail _ (.tail _ (.tail _ (.tail _ (.tail _ (.head _)))))) (memc (.tail _ (.tail _ (.tail _ (.tail _ (.tail _ (.tail _ (.head _))))))) (memc (.tail _ (.tail _ (.tail _ (.tail _ (.tail _ (.tail _ (.tail _ (.head _)))))))) mem0))) fun u8_8 Lo fs hres => ?_))))))))))
        obtain ⟨o, Ao, co, x, rfl, rfl, rfl, hoc, hox, hon, hbo, hof⟩ := hres
        have hFn : fedN ms (k + 1) = ⟨(putF H r36 o).1, applyRow (putF H r36 o).2.1 X, nxF nx o.c o.n⟩ := by
          rw [fedN_next hkm, hF]
          unfold fedStep
          rw [show (ms[k].i % ((k + 1 : Nat) : Int)).toNat = r36 from by omega]
          dsimp only
          rw [← hof]; rfl
        have hx0 := hV.nx0 x (List.mem_of_getElem? hox)
        have hocb : 1 ≤ o.c ∧ o.c ≤ 8 := by omega
        have hgood : Good H r36 o := hbo.good o.c o.n (by rw [hon]; exact hV.fresh hox hocb (by omega)) (by unfold rightF; simp; omega)
        have hV2 := hV.step hgood (by omega) (N' := ((k + 1 : Nat) : Int)) (by omega) (by omega)
        refine WL_main rfl (OW_callP (takes_1 k k X v h m b H L A cap B t A1 c1 A2 c2 A3 c3 nx r36 o Ao co hV hI.hr hI.wt hI.hX hgood (by have := hbo.text; omega)) (.cons rfl (.cons rfl (.cons rfl (.nil)))) (by decide) (List.Perm.refl _) (memc (.tail _ (.tail _ (.tail _ (.tail _ (.tail _ (.tail _ (.tail _ (.tail _ (.tail _ (.head _)))))))))) (memc (.tail _ (.tail _ (.tail _ (.head _)))) (memc (.tail _ (.tail _ (.tail _ (.tail _ (.head _))))) (memc (.tail _ (.tail _ (.tail _ (.tail _ (.tail _ (.head _)))))) (memc (.tail _ (.tail _ (.tail _ (.tail _ (.tail _ (.tail _ (.head _))))))) (memc (.tail _ (.tail _ (.tail _ (.tail _ (.tail _ (.tail _ (.tail _ (.head _)))))))) (memc (.tail _ (.tail _ (.tail _ (.tail _ (.tail _ (.tail _ (.tail _ (.tail _ (.head _))))))))) (memc (.head _) mem0)))))))) fun u8_9 Lo fs hres => ?_)
        obtain ⟨rfl, L9, A9, cap9, B9, t9, A19, c19, A29, c29, A39, c39, rfl, rfl, hr9, wt9, hX9⟩ := hres
        obtain ⟨H9, hH9⟩ : ∃ z, z = (putF H r36 o).1 := ⟨_, rfl⟩
        obtain ⟨X9, hX99⟩ : ∃ z, z = applyRow (putF H r36 o).2.1 X := ⟨_, rfl⟩
        obtain ⟨nx9, hn9⟩ : ∃ z, z = nxF nx o.c o.n := ⟨_, rfl⟩
        rw [← hH9] at hr9 hV2 hFn ⊢
        rw [← hX99] at hX9 hV2 hFn
        rw [← hn9] at hV2 hFn ⊢
        refine Lq (q_assign rfl) (WL_nil (thenN (WC_seq (WC_region (Lq (q_move rfl) (Lq (q_not rfl) (WL_nil (thenN (WC_false rfl rfl (WC_skip (blockN (thenN (WC_region (Lq (q_move rfl) (Lq (q_add rfl rfl (wr64 (by omega)) (c := ((k + 1 : Nat) : Int))) (Lq (q_assign rfl) (WL_nil (thenK ?_))))))))))))))))))
        refine ⟨(k + 1, H9, X9, nx9, L9, A9, cap9, B9, t9, A19, c19, A29, c29, A39, c39), ?_, (.cons rfl (.cons rfl (.cons rfl (.nil _)))), (List.Sublist.cons_cons _ (List.Sublist.cons_cons _ (List.Sublist.cons_cons _ (List.Sublist.cons_cons _ (List.Sublist.cons_cons _ (List.Sublist.refl _)))))), (memc (.head _) (memc (.tail _ (.head _)) (memc (.tail _ (.tail _ (.head _))) (memc (.tail _ (.tail _ (.tail _ (.head _)))) (memc (.tail _ (.tail _ (.tail _ (.tail _ (.head _))))) (memc (.tail _ (.tail _ (.tail _ (.tail _ (.tail _ (.head _)))))) (fun _ h => .tail _ (.tail _ (.tail _ (.tail _ (.tail _ (.tail _ (.tail _ (.tail _ (.tail _ (.tail _ (.tail _ (.tail _ (.tail _ (.tail _ (.tail _ h)))))))))))))))))))))⟩
        exact ⟨by show 20 - (k + 1) < 20 - k; omega, ⟨by omega, hV2, hr9, wt9, hX9⟩, hFn, by omega⟩
      · refine WC_exit (thenExit (thenExit (blockHit (thenN (WC_seq (WC_region (Lq (q_move rfl) (Lq (q_assign rfl) (Lq (q_assign rfl) (WL_nil (thenN (WC_ret ?_))))))))))))
        refine ⟨_, [_, _, _, _, _], [_, _, _, _, _, _], fun Z w hs => .tmp rfl (.tmp rfl (.nil)), ?_, fun Z w hs => hs.out (List.Sublist.cons_cons _ (List.Sublist.cons_cons _ (List.Sublist.cons_cons _ (List.Sublist.cons_cons _ (List.Sublist.cons_cons _ (List.Sublist.refl _)))))) (fun _ h => h)⟩
        exact ⟨v, h, m, b, k, H, X, nx, rfl, ⟨L, A, cap, B, t, A1, c1, A2, c2, A3, c3, rfl, rfl, hI.hr, hI.wt, hI.hX⟩, hI.vi, hI.le, by have := hI.le; try simp only [Bp, Bq] at *; omega, hF⟩
    · refine Ln rfl rfl rfl g19 (Ln rfl rfl rfl g19 (Lq (q_pickF rfl g19 rfl) (WL_nil (thenN (WC_false rfl rfl (WC_exit (thenExit (thenExit (blockHit (thenN (WC_seq (WC_region (Lq (q_move rfl) (Lq (q_assign rfl) (Lq (q_assign rfl) (WL_nil (thenN (WC_ret ?_))))))))))))))))))
      refine ⟨_, [_, _, _, _, _], [_, _, _, _, _, _], fun Z w hs => .tmp rfl (.tmp rfl (.nil)), ?_, fun Z w hs => hs.out (List.Sublist.cons_cons _ (List.Sublist.cons_cons _ (List.Sublist.cons_cons _ (List.Sublist.cons_cons _ (List.Sublist.cons_cons _ (List.Sublist.refl _)))))) (fun _ h => h)⟩
      exact ⟨v, h, m, b, k, H, X, nx, rfl, ⟨L, A, cap, B, t, A1, c1, A2, c2, A3, c3, rfl, rfl, hI.hr, hI.wt, hI.hX⟩, hI.vi, hI.le, by have := hI.le; try simp only [Bp, Bq] at *; omega, hF⟩

end Go.Proofs.YtggdddkbhigjoaaDoor
/- Moves, as_ arguments. -/
namespace Go.Proofs.YtggdddkbhigjoaaDoor
open Go Go.GW
theorem cells51 : Tryd.prog.cellsOf 51 = 6 := by kernel_rfl
theorem cells3 : Tryd.prog.cellsOf 3 = 1 := by kernel_rfl
section
variable {H : Type} {enc : TypeId × Value → H} {w : World} {base : Nat} {sp : Nat → Bool} {held : Bool}
set_option maxRecDepth 100000 in
theorem mv_elem (m : Nat) (cs : List Value) (x : DataW H × List MemPlace) (h : DataW.trod enc Tryd.prog w base sp held m 51 cs = some x) : ∃ u : Mv, cs = mvC u := by
  obtain ⟨xs, k, rfl, rfl, hl, hlen, hf⟩ := DataW.trod_struct Tryd.underlying51 h
  rw [cells51] at hl
  have hxl : xs.length = 6 := hlen
  match cs, hl with
  | [a, b, c, d, e, f], _ =>
    have key : ∀ (i : Nat) (v : Value), i < 6 → [a, b, c, d, e, f][i]? = some v → ∃ n : Int, v = .int .i64 n := by
      intro i v hi hv
      match i, hi with
      | 0, _ => have h1 := hf 0 _ rfl; rw [List.getElem?_eq_getElem (show 0 < xs.length by omega)] at h1; simp [cells3] at h1; obtain ⟨n, h2, _⟩ := DataW.trod_int Tryd.underlying3 h1; exact ⟨n, by simp at hv h2; rw [← hv]; exact h2⟩
      | 1, _ => have h1 := hf 1 _ rfl; rw [List.getElem?_eq_getElem (show 1 < xs.length by omega)] at h1; simp [cells3] at h1; obtain ⟨n, h2, _⟩ := DataW.trod_int Tryd.underlying3 h1; exact ⟨n, by simp at hv h2; rw [← hv]; exact h2⟩
      | 2, _ => have h1 := hf 2 _ rfl; rw [List.getElem?_eq_getElem (show 2 < xs.length by omega)] at h1; simp [cells3] at h1; obtain ⟨n, h2, _⟩ := DataW.trod_int Tryd.underlying3 h1; exact ⟨n, by simp at hv h2; rw [← hv]; exact h2⟩
      | 3, _ => have h1 := hf 3 _ rfl; rw [List.getElem?_eq_getElem (show 3 < xs.length by omega)] at h1; simp [cells3] at h1; obtain ⟨n, h2, _⟩ := DataW.trod_int Tryd.underlying3 h1; exact ⟨n, by simp at hv h2; rw [← hv]; exact h2⟩
      | 4, _ => have h1 := hf 4 _ rfl; rw [List.getElem?_eq_getElem (show 4 < xs.length by omega)] at h1; simp [cells3] at h1; obtain ⟨n, h2, _⟩ := DataW.trod_int Tryd.underlying3 h1; exact ⟨n, by simp at hv h2; rw [← hv]; exact h2⟩
      | 5, _ => have h1 := hf 5 _ rfl; rw [List.getElem?_eq_getElem (show 5 < xs.length by omega)] at h1; simp [cells3] at h1; obtain ⟨n, h2, _⟩ := DataW.trod_int Tryd.underlying3 h1; exact ⟨n, by simp at hv h2; rw [← hv]; exact h2⟩
    obtain ⟨n0, rfl⟩ := key 0 a (by decide) rfl
    obtain ⟨n1, rfl⟩ := key 1 b (by decide) rfl
    obtain ⟨n2, rfl⟩ := key 2 c (by decide) rfl
    obtain ⟨n3, rfl⟩ := key 3 d (by decide) rfl
    obtain ⟨n4, rfl⟩ := key 4 e (by decide) rfl
    obtain ⟨n5, rfl⟩ := key 5 f (by decide) rfl
    exact ⟨⟨n0, n1, n2, n3, n4, n5⟩, rfl⟩
set_option maxRecDepth 100000 in
theorem mvs_arg {r : Reach} {b0 : Nat} {W0 : World} {v : Value} {d : DataW H} {p : List MemPlace} (hval : Value.okWide Tryd.prog W0 r b0 49 v) (h : DataW.Trod enc Tryd.prog w 0 sp held 49 v d p) :
    ∃ (A : Option Addr) (ms : List Mv) (c : Nat), v = .slice A ms.length c ∧ (RdF mvD A c ms).holds (fun b => b < w.heap.size) w :=
  rd_slice Tryd.underlying49 cells51 (by decide) (fun m cs x hx => by obtain ⟨u, rfl⟩ := mv_elem m cs x hx; exact ⟨u, fun _ _ => rfl⟩) hval h
end
theorem same_of {W W' : World} {Z' : Nat → Prop} (h : (NearF W (fun b => b < W.heap.size)).holds Z' W') {x : MemPlace} (hx : x.block < W.heap.size) : W.sameAt W' x := by
  have hb := (h.1 x.block hx).2
  cases x with
  | cell b off =>
    have hb' : W'.heap[b]? = W.heap[b]? := hb
    show W'.cell? ⟨b, off, none⟩ = W.cell? ⟨b, off, none⟩
    unfold World.cell?
    simp only [hb']
  | map b => exact hb
theorem laidOk : laidOutB Tryd.prog = true := by kernel_rfl
end Go.Proofs.YtggdddkbhigjoaaDoor
/- Closures, calls of values, literal slices of many elements, bits, a builder's string. -/
namespace Go.GW
open Go
section
variable {P : Program} {n : Nat} {R : Post} {l : Fr} {Ps : List Part} {As : List Fact} {d : Option Tmp} {ty : TypeId} {pos : String} {aft : Array Edge} {g : Option (Nat × Bool)} {K : Nx}
theorem q_func {k : FuncId} {xs : List Operand} {vs : List Value} (hxs : Evs l xs vs) : QR P l Ps As ⟨d, .makeFunc (.func k) #[] xs.toArray, ty, pos, aft, g⟩ (.func (.func k) #[] vs.toArray) := fun Z w ρ hs hρ => by
  have h1 := hxs.map hρ
  simp only [execOp, List.map_toArray, h1, Instr.makeFunc]
  simp
/-- A call of a value that is a function of the program, with what it has captured. -/
theorem OW_callV {k : FuncId} {d : Nat} {x : Operand} {caps : List Value} {xs : List Operand} {ts : Array TypeId} {args : List Value} {Lin Ps' : List Part} {pre : List Fact} {res : Value → List Part → List Fact → Prop}
    (hx : evs l x = some (.func (.func k) #[] caps.toArray)) (hsp : Sp P k (args ++ caps) Lin pre res) (hxs : Evs l xs args) (hd : d < n) (hp : (Lin ++ Ps').flatten.Perm Ps.flatten) (hpre : ∀ A ∈ pre, A ∈ As)
    (h : ∀ v Lo fs, res v Lo fs → K ((d, v) :: l) (Lo ++ Ps') (fs ++ As)) :
    OW P n R l Ps As ⟨some d, .call ⟨.value x, xs.toArray, ts⟩, ty, pos, aft, g⟩ K := by
  intro Z w a hs ha
  have hP : St Z w (Lin ++ Ps') (pre ++ As) := (hs.permParts hp).subFacts fun A hA => by
    rcases List.mem_append.1 hA with hA | hA
    · exact hpre A hA
    · exact hA
  have hrun : (execOp a.eval ⟨some d, .call ⟨.value x, xs.toArray, ts⟩, ty, pos, aft, g⟩).run P w = .ok (.enter k (args ++ caps).toArray) w := by
    have h1 := hxs.map fun x v hx => ha.eval hx
    have h2 := run_callFunc hsp.enters (args ++ caps).toArray w
    have h3 := ha.eval hx
    simp only [execOp, resolve, Deferred.ofValue, invoke, h3, List.map_toArray, h1, Sem.run_bind, Sem.run_pure, Result.andThen_ok]
    simpa using h2
  unfold Oper.wp
  rw [hrun, Oper.upon_enter]
  refine (hsp.calls Z w Ps' As hP).mono ?_
  rintro e w' ⟨v, rfl, Z', Lo, fs, h1, h2⟩
  refine ⟨(d, v) :: l, Z', Lo ++ Ps', fs ++ As, ha.put hd v, h2.subFacts ?_, h v Lo fs h1⟩
  intro A hA
  rcases List.mem_append.1 hA with h | h
  · exact List.mem_append.2 (.inl h)
  · exact List.mem_append.2 (.inr (List.mem_append.2 (.inr h)))
/-- Parts in one. -/
theorem Sp.flat {k : FuncId} {args : List Value} {Lin : List Part} {pre : List Fact} {res : Value → List Part → List Fact → Prop} (h : Sp P k args Lin pre res) : Sp P k args [Lin.flatten] pre (fun v Lo fs => ∃ Lo', res v Lo' fs ∧ Lo = [Lo'.flatten]) := by
  refine ⟨h.enters, fun Z w Ps As hs => ?_⟩
  have hs' : St Z w (Lin ++ Ps) (pre ++ As) := by
    refine hs.permParts ?_
    simp
  refine (h.calls Z w Ps As hs').mono ?_
  rintro e w' ⟨v, he, Z', Lo, fs, h1, h2⟩
  exact ⟨v, he, Z', [Lo.flatten], fs, ⟨Lo, h1, rfl⟩, h2.permParts (by simp)⟩
/-- Parts taken one by one out of one. -/
theorem WC_unflat {c : Code} {Qs : List Part} (h : WC P n c R l (Qs ++ Ps) As) : WC P n c R l (Qs.flatten :: Ps) As := fun Z w a hs ha => h Z w a (hs.permParts (by simp)) ha
theorem WC_flat {c : Code} {Qs : List Part} (h : WC P n c R l (Qs.flatten :: Ps) As) : WC P n c R l (Qs ++ Ps) As := fun Z w a hs ha => h Z w a (hs.permParts (by simp)) ha
theorem q_shr {k yk : IntKind} {a b c : Int} {t t2 : TypeId} {x y : Operand} (hx : evs l x = some (.int k a)) (hy : evs l y = some (.int yk b)) (hb : 0 ≤ b) (hw : a.fdiv (2 ^ (min b.toNat k.bits)) = c) : QR P l Ps As ⟨d, .binOp .shr t x y t2, ty, pos, aft, g⟩ (.int k c) := fun Z w ρ hs hρ => by
  subst hw
  have h1 : ¬ b < 0 := by omega
  simp [execOp, hρ _ _ hx, hρ _ _ hy, binOp, eqGuard, Op.shift, h1]
theorem q_or {t t2 : TypeId} {x y : Operand} {k : IntKind} {a b c : Int} (hx : evs l x = some (.int k a)) (hy : evs l y = some (.int k b)) (hw : bits .or k a b = c) : QR P l Ps As ⟨d, .binOp .or t x y t2, ty, pos, aft, g⟩ (.int k c) := fun Z w ρ hs hρ => by
  subst hw; simp [execOp, hρ _ _ hx, hρ _ _ hy, go_sem]
theorem OW_quiet {d : Nat} {op : Op} {v : Value} (hq : QR P l Ps As ⟨some d, op, ty, pos, aft, g⟩ v) (hd : d < n) (h : K ((d, v) :: l) Ps As) : OW P n R l Ps As ⟨some d, op, ty, pos, aft, g⟩ K :=
  OW_value rfl hd fun Z w ρ hs hρ => ⟨v, w, Z, Ps, As, hq Z w ρ hs hρ, hs, h⟩
/-- A literal slice of many elements, by what it comes to. -/
theorem OW_sliceM {T E : TypeId} {d : Nat} {m : Nat} {xs : List (Nat × Operand)} {vs : List (Nat × Value)} {cs : List Value} (hx : EvP l xs vs) (hb : ∀ w : World, (Instr.buildSlice T m vs.toArray).run P w = .ok (.slice (some ⟨w.heap.size, 0, none⟩) m m) (w.alloc (cellsO cs E))) (hd : d < n)
    (h : ∀ b, K ((d, .slice (some ⟨b, 0, none⟩) m m) :: l) ([(b, cellsO cs E)] :: Ps) As) : OW P n R l Ps As ⟨some d, .buildSlice T m xs.toArray, ty, pos, aft, g⟩ K :=
  OW_value rfl hd fun Z w ρ hs hρ => by
    refine ⟨_, w.alloc (cellsO cs E), Z, _, As, ?_, hs.alloc _, h w.heap.size⟩
    have h1 := hx.map hρ
    simp only [execOp, List.map_toArray, h1, Sem.run_bind, hb]; rfl
theorem OW_appendM {T E : TypeId} {d : Nat} {x y : Operand} {zv : Value} {sz by_ k b c m : Nat} {v : Value} {cs news : List Value} {T' : TypeId} {p : Part} {Qs : List Part} (hu : P.underlying T = some (.slice E)) (ht : ti P E = some (some zv, sz, by_)) (hz : zv.cells.size = sz) (hsz : 0 < sz) (hx : evs l x = some v) (hy : evs l y = some (.slice (some ⟨b, 0, none⟩) m c))
    (hr : Row E sz v k cs p) (hb : OwnAt Qs b (cellsO news T')) (hl : news.length = m * sz) (h1 : news.all Value.oneCell' = true) (h63 : (k + m) * by_ ≤ 140737488355328) (hmx : k + m ≤ maxLen) (hd : d < n) (hQ : (p :: Qs).flatten.Perm Ps.flatten)
    (h : ∀ v' p', Row E sz v' (k + m) (cs ++ news) p' → K ((d, v') :: l) (p' :: Qs) As) : OW P n R l Ps As ⟨some d, .call ⟨.builtin .append, #[x, y], #[T, T]⟩, ty, pos, aft, g⟩ K :=
  OW_value rfl hd fun Z w ρ hs hρ => by
    have hs' := hs.permParts hQ
    have hc : CellsAt w b 0 news := ⟨_, _, _, hs'.block (ownS hb), fun j v hv => by simpa using hv⟩
    obtain ⟨v', w', p', g1, g2, g3⟩ := run_append (ty := ty) (c := c) hu ht hz hsz hs' hr (ad := ⟨b, 0, none⟩) (m := m) (news := news) hl (fun j u hu => by rw [add_none]; exact hc.cell hu) (fun u hu => List.all_eq_true.1 h1 u hu) h63 hmx
    exact ⟨v', w', Z, _, As, by rw [execOp_append (hρ _ _ hx) (hρ _ _ hy), Sem.run_bind, g1]; rfl, g3, h v' p' g2⟩
/-! ### A builder's string -/
theorem shape_own {Z : Nat → Prop} {w : World} (hs : St Z w Ps As) {b : Nat} {cs : List Value} {T : TypeId} (hb : OwnAt Ps b (cellsO cs T)) : w.shape? b = some (T, cs.length) := by
  have := hs.block hb
  unfold World.shape? cellsO at *
  rw [this]; simp
theorem q_toUnsafe {src dst t : TypeId} {x : Operand} {j : TypeInfo} {b T : Nat} {cs : List Value} (hs : P.underlying src = some (.pointer t)) (hd : P.underlying dst = some .unsafePointer) (ht : P.info? t = some j) (hj : j.size ≠ 0) (hx : evs l x = some (.pointer (some ⟨b, 0, none⟩))) (hb : OwnAt Ps b (cellsO cs T)) (hc : 0 < cs.length) :
    QR P l Ps As ⟨d, .convert src dst x, ty, pos, aft, g⟩ (.pointer (some ⟨b, 0, none⟩)) := fun Z w ρ hst hρ => by
  have h := Lib.run_to_unsafe (P := P) (w := w) ⟨b, 0, none⟩ hs hd ht hj (shape_own hst hb) hc
  simp only [execOp, hρ _ _ hx, Sem.run_bind, h, Result.andThen_ok, Sem.run_pure]
theorem q_fromUnsafe {src dst u : TypeId} {x : Operand} {j : TypeInfo} {b T : Nat} {cs : List Value} (hs : P.underlying src = some .unsafePointer) (hd : P.underlying dst = some (.pointer u)) (hu : P.info? u = some j) (hx : evs l x = some (.pointer (some ⟨b, 0, none⟩))) (hb : OwnAt Ps b (cellsO cs T)) (hl : liesAt P P.depth T (cs.length / P.cellsOf T) 0 u 1 = true) :
    QR P l Ps As ⟨d, .convert src dst x, ty, pos, aft, g⟩ (.pointer (some ⟨b, 0, none⟩)) := fun Z w ρ hst hρ => by
  have h := Lib.run_from_unsafe (P := P) (w := w) ⟨b, 0, none⟩ hs hd hu (shape_own hst hb) hl
  simp only [execOp, hρ _ _ hx, Sem.run_bind, h, Result.andThen_ok, Sem.run_pure]
theorem q_extern {f : FuncId} {x : Operand} {v : Value} {ts : Array TypeId} (hb : ∀ w, (callFunc f #[v]).run P w = .ok (.value v) w) (hx : evs l x = some v) : QR P l Ps As ⟨d, .call ⟨.value (.func f), #[x], ts⟩, ty, pos, aft, g⟩ v := fun Z w ρ hs hρ => by
  have h0 : ρ (.func f) = .func (.func f) #[] #[] := hρ _ _ rfl
  simp only [execOp, resolve, Deferred.ofValue, invoke, h0, List.map_toArray, List.map_cons, List.map_nil, hρ _ _ hx, Sem.run_bind, Sem.run_pure, Result.andThen_ok]
  simpa using hb w
theorem q_sliceData {T : TypeId} {x : Operand} {A : Addr} {m c : Nat} (hc : c ≠ 0) (hx : evs l x = some (.slice (some A) m c)) : QR P l Ps As ⟨d, .call ⟨.builtin .unsafeSliceData, #[x], #[T]⟩, ty, pos, aft, g⟩ (.pointer (some A)) := fun Z w ρ hs hρ => by
  simp only [execOp, resolve, invoke, List.map_toArray, List.map_cons, List.map_nil, hρ _ _ hx, Sem.run_bind, Sem.run_pure, Result.andThen_ok]
  show ((do pure (Next.value (← Builtin.unsafeSliceData_ #[T] ty #[.slice (some A) m c])) : Sem Next)).run P w = _
  rw [Sem.run_bind, Lib.run_unsafeSliceData_row _ _ _ _ _ _ hc]; rfl
theorem q_pneqSame {t e t2 : TypeId} {x y : Operand} {a : Addr} {j : TypeInfo} (hu : P.underlying t = some (.pointer e)) (hj : P.info? e = some j) (hx : evs l x = some (.pointer (some a))) (hy : evs l y = some (.pointer (some a))) : QR P l Ps As ⟨d, .binOp .neq t x y t2, ty, pos, aft, g⟩ (.bool false) := fun Z w ρ hs hρ => by
  have h := Lib.run_neq_ptr_same (P := P) w a hu hj
  simp only [execOp, hρ _ _ hx, hρ _ _ hy, eqGuard_at_pointer, Sem.run_bind, h, Result.andThen_ok, Sem.run_pure]
def By (bs : List Int) : Prop := ∀ x ∈ bs, 0 ≤ x ∧ x < 256
def bytesU (bs : List Int) : List UInt8 := bs.map fun x => UInt8.ofNat x.toNat
def strOf (bs : List Int) : ByteArray := ⟨(bytesU bs).toArray⟩
theorem OW_unsafeString {d : Nat} {pt it e : TypeId} {x y : Operand} {b T : Nat} {bs : List Int} {jk : List Value} {Ps' : List Part} (hp : P.underlying pt = some (.pointer T)) (hc : P.cellsOf T = 1) (hby : By bs) (hne : bs ≠ []) (h63 : bs.length ≤ 9223372036854775807)
    (hx : evs l x = some (.pointer (some ⟨b, 0, none⟩))) (hy : evs l y = some (.int .i64 (bs.length : Nat))) (hd : d < n) (hD : DelAt Ps [(b, cellsO (bs.map (Value.int .u8) ++ jk) T)] Ps') (h : K ((d, .string (strOf bs)) :: l) Ps' As) :
    OW P n R l Ps As ⟨some d, .call ⟨.builtin .unsafeString, #[x, y], #[pt, it]⟩, ty, pos, aft, g⟩ K :=
  OW_value rfl hd fun Z w ρ hs hρ => by
    have hs' := hs.permParts hD.perm
    have hcell := hs'.cells (b := b) own0
    have hrun := Lib.run_unsafeString_row (P := P) (w := w) pt it ty T hp hc b _ (shape_own hs' own0) (bytesU bs) (by unfold bytesU; simpa using hne) (by unfold bytesU; simp) (by unfold bytesU; simpa using h63) (fun j u hu => by
      unfold bytesU at hu
      rw [List.getElem?_map] at hu
      cases hj : bs[j]? with
      | none => rw [hj] at hu; cases hu
      | some z =>
        rw [hj] at hu
        have hz := hby z (List.mem_of_getElem? hj)
        have hlt : j < bs.length := by
          rcases Nat.lt_or_ge j bs.length with h | h
          · exact h
          · rw [List.getElem?_eq_none h] at hj; cases hj
        obtain rfl := Option.some.inj hu
        have h2 : (bs.map (Value.int .u8) ++ jk)[j]? = some (.int .u8 z) := by rw [List.getElem?_append_left (by simpa using hlt), List.getElem?_map, hj]; rfl
        have h3 := hcell.cell h2
        have h4 : ((UInt8.ofNat z.toNat).toNat : Int) = z := by rw [UInt8.toNat_ofNat']; omega
        rw [add_none, h4]
        simpa using h3)
    have hlen : (bytesU bs).length = bs.length := by unfold bytesU; simp
    rw [hlen] at hrun
    refine ⟨_, w.freeze ⟨b, 0, none⟩ bs.length, Z, Ps', As, ?_, ?_, h⟩
    · simp only [execOp, resolve, invoke, List.map_toArray, List.map_cons, List.map_nil, hρ _ _ hx, hρ _ _ hy, Sem.run_bind, Sem.run_pure, Result.andThen_ok]
      show ((do pure (Next.value (← Builtin.unsafeString_ #[pt, it] ty #[.pointer (some ⟨b, 0, none⟩), .int .i64 (bs.length : Nat)])) : Sem Next)).run P w = _
      rw [Sem.run_bind, hrun]; rfl
    · have hb := hs'.own (b, cellsO (bs.map (Value.int .u8) ++ jk) T) (by simp)
      have hnb : ∀ q ∈ Ps'.flatten, q.1 ≠ b := fun q hq e => by
        have := hs'.nodup
        rw [List.flatten_cons, List.map_append, List.nodup_append] at this
        exact this.2.2 b (by simp) q.1 (List.mem_map.2 ⟨q, hq, rfl⟩) e.symm
      have hne0 : bs.length ≠ 0 := by simpa using hne
      have hh : ∀ c, c ≠ b → (w.freeze ⟨b, 0, none⟩ bs.length).heap[c]? = w.heap[c]? := fun c hcb => by
        unfold World.freeze
        rw [if_neg hne0]
        simp only [Array.getElem?_modify]
        rw [if_neg (fun e => hcb e.symm)]
      have hos : (w.freeze ⟨b, 0, none⟩ bs.length).os = w.os ∧ (w.freeze ⟨b, 0, none⟩ bs.length).tape = w.tape ∧ (w.freeze ⟨b, 0, none⟩ bs.length).output = w.output ∧ (w.freeze ⟨b, 0, none⟩ bs.length).heap.size = w.heap.size := by
        unfold World.freeze; rw [if_neg hne0]; exact ⟨rfl, rfl, rfl, by simp⟩
      refine ⟨fun c hc => by rw [hos.2.2.2]; exact hs.zlt c hc, fun q hq => ?_, ?_, fun A hA => A.stable (fun _ h => h) (fun c hc => hh c fun e => hb.2 (e ▸ hc)) hos.1 hos.2.1 hos.2.2.1 (hs.facts A hA)⟩
      · have := hs'.own q (by rw [List.flatten_cons]; exact List.mem_append_right _ hq)
        exact ⟨by rw [hh _ (hnb q hq)]; exact this.1, this.2⟩
      · have := hs'.nodup
        rw [List.flatten_cons, List.map_append, List.nodup_append] at this
        exact this.2.1
end
end Go.GW
/- Walks: builders. -/
namespace Go.Proofs.YtggdddkbhigjoaaDoor
open Go Go.GW
def u8w (x : Int) : Int := IntKind.u8.wrap x
def encI (r : Int) : List Int :=
  if IntKind.u32.wrap r ≤ 127 then [u8w r]
  else if IntKind.u32.wrap r ≤ 2047 then [bits .or .u8 192 (u8w (r.fdiv (2 ^ 6))), bits .or .u8 128 (bits .and .u8 (u8w r) 63)]
  else if IntKind.u32.wrap r < 55296 ∨ (57343 < IntKind.u32.wrap r ∧ IntKind.u32.wrap r ≤ 65535) then [bits .or .u8 224 (u8w (r.fdiv (2 ^ 12))), bits .or .u8 128 (bits .and .u8 (u8w (r.fdiv (2 ^ 6))) 63), bits .or .u8 128 (bits .and .u8 (u8w r) 63)]
  else if IntKind.u32.wrap r > 65535 ∧ IntKind.u32.wrap r ≤ 1114111 then [bits .or .u8 240 (u8w (r.fdiv (2 ^ 18))), bits .or .u8 128 (bits .and .u8 (u8w (r.fdiv (2 ^ 12))) 63), bits .or .u8 128 (bits .and .u8 (u8w (r.fdiv (2 ^ 6))) 63), bits .or .u8 128 (bits .and .u8 (u8w r) 63)]
  else [239, 191, 189]
theorem u8_range (x : Int) : 0 ≤ IntKind.u8.wrap x ∧ IntKind.u8.wrap x < 256 := by
  have h : IntKind.u8.wrap x = x % 256 := rfl
  rw [h]; omega
theorem or_range (a b : Int) : 0 ≤ bits .or .u8 a b ∧ bits .or .u8 a b < 256 := u8_range _
theorem encI_by (r : Int) : By (encI r) := by
  have h1 := u8_range r
  intro x hx
  unfold encI at hx
  split at hx
  · simp only [List.mem_singleton] at hx; subst hx; exact h1
  · split at hx
    · simp only [List.mem_cons, List.not_mem_nil, or_false] at hx; rcases hx with rfl | rfl <;> exact or_range _ _
    · split at hx
      · simp only [List.mem_cons, List.not_mem_nil, or_false] at hx; rcases hx with rfl | rfl | rfl <;> exact or_range _ _
      · split at hx
        · simp only [List.mem_cons, List.not_mem_nil, or_false] at hx; rcases hx with rfl | rfl | rfl | rfl <;> exact or_range _ _
        · simp only [List.mem_cons, List.not_mem_nil, or_false] at hx; omega
theorem encI_len (r : Int) : 1 ≤ (encI r).length ∧ (encI r).length ≤ 4 := by
  unfold encI
  split
  · simp
  · split
    · simp
    · split
      · simp
      · split <;> simp
theorem by_append {a b : List Int} (ha : By a) (hb : By b) : By (a ++ b) := fun x hx => (List.mem_append.1 hx).elim (ha x) (hb x)
abbrev blP (b : Nat) (ad : Option Addr) (v : Value) : Part := [(b, cellsO [.pointer ad, v] 124)]
theorem cv32 (x : Int) (w : World) : (convert 21 175 (.int .i32 x)).run Tryd.prog w = .ok (.int .u32 (IntKind.u32.wrap x)) w := by kernel_rfl
theorem cv8 (x : Int) (w : World) : (convert 21 5 (.int .i32 x)).run Tryd.prog w = .ok (.int .u8 (u8w x)) w := by kernel_rfl
theorem bs122_2 (a b : Int) (w : World) : (Instr.buildSlice 122 2 #[(0, .int .u8 a), (1, .int .u8 b)]).run Tryd.prog w = .ok (.slice (some ⟨w.heap.size, 0, none⟩) 2 2) (w.alloc (cellsO [.int .u8 a, .int .u8 b] 5)) := by kernel_rfl
theorem bs122_3 (a b c : Int) (w : World) : (Instr.buildSlice 122 3 #[(0, .int .u8 a), (1, .int .u8 b), (2, .int .u8 c)]).run Tryd.prog w = .ok (.slice (some ⟨w.heap.size, 0, none⟩) 3 3) (w.alloc (cellsO [.int .u8 a, .int .u8 b, .int .u8 c] 5)) := by kernel_rfl
theorem bs122_4 (a b c d : Int) (w : World) : (Instr.buildSlice 122 4 #[(0, .int .u8 a), (1, .int .u8 b), (2, .int .u8 c), (3, .int .u8 d)]).run Tryd.prog w = .ok (.slice (some ⟨w.heap.size, 0, none⟩) 4 4) (w.alloc (cellsO [.int .u8 a, .int .u8 b, .int .u8 c, .int .u8 d] 5)) := by kernel_rfl
theorem noEsc (v : Value) (w : World) : (callFunc 95 #[v]).run Tryd.prog w = .ok (.value v) w := by kernel_rfl
/-- What a function answers that writes behind a row of bytes. -/
def BwP (us : List Int) : Value → List Part → List Fact → Prop := fun v Lo fs => ∃ p, Row 5 1 v us.length (ints .u8 us) p ∧ Lo = [p] ∧ fs = []

set_option maxRecDepth 10000 in
theorem appNon_s (v : Value) (us : List Int) (p : Part) (r : Int) (hr : Row 5 1 v us.length (ints .u8 us) p) (hb : us.length ≤ 1073741824) (hn : ¬ IntKind.u32.wrap r ≤ 127) : Sp Tryd.prog 96 [v, .int .i32 r] [p] [] (BwP (us ++ encI r)) := by
  refine Sp.of (n := 78) ⟨_, Tryd.func96, rfl, rfl, rfl, rfl⟩ (Nat.le_of_ble_eq_true rfl) fun Ps As => WC_seq (WC_region (Lq (q_assign rfl) (WL_nil (thenN (WC_seq (WC_region (Lq (q_move rfl) (Lq (q_conv rfl (cv32 _)) (Lq (q_assign rfl) (WL_nil (thenN (WC_block (WC_seq (WC_region (Lq (q_move rfl) (Lq (q_leq rfl rfl) ?_))))))))))))))))
  refine Lq (q_assign rfl) (WL_nil (thenN (WC_cond rfl (fun h11 => ?_) (fun h11 => ?_))))
  · refine WC_seq (WC_region (Lq (q_move rfl) (Lq (q_move rfl) (Lq (q_shr rfl rfl (by decide) rfl) (Lq (q_conv rfl (cv8 _)) (Lq (q_or rfl rfl rfl) (Lq (q_move rfl) (Lq (q_conv rfl (cv8 _)) (Lq (q_and rfl rfl rfl) (Lq (q_or rfl rfl rfl) ?_))))))))))
    refine WL_main rfl (OW_sliceM (cs := [_, _]) (.cons rfl (.cons rfl (.nil))) (fun w => bs122_2 _ _  w) (by decide) fun b23 => WL_main rfl (OW_appendM (m := 2) (news := [_, _]) Tryd.underlying122 ti5 rfl (by decide) rfl rfl hr own0 rfl rfl (by omega) (by unfold maxLen; omega) (by decide) (DelAt.perm (.s (.z))) fun v24 p24 hr24 => Lq (q_assign rfl) (WL_nil (thenN (WC_ret (blockRet ?_))))))
    refine ⟨_, [_], [], fun Z w hs => .tmp rfl (.nil), ?_, fun Z w hs => hs.out (List.Sublist.cons_cons _ (List.Sublist.cons _ (List.Sublist.refl _))) (fun _ h => h)⟩
    try simp only [Bp, Bq] at *
    refine ⟨_, ?_, rfl, rfl⟩
    unfold encI
    rw [if_neg (by omega), if_pos (by omega)]
    rw [List.length_append, ints_append]
    exact hr24
  · refine WC_seq (WC_seq (WC_region (Lq (q_move rfl) (Lq (q_lss rfl rfl) (Lq (q_assign rfl) (WL_nil (thenN (WC_cond rfl (fun h25 => ?_) (fun h25 => ?_)))))))))
    · refine WC_skip (thenN (WC_true rfl h25 (WC_seq (WC_region (Lq (q_move rfl) (Lq (q_move rfl) (Lq (q_shr rfl rfl (by decide) rfl) (Lq (q_conv rfl (cv8 _)) (Lq (q_or rfl rfl rfl) (Lq (q_move rfl) (Lq (q_shr rfl rfl (by decide) rfl) ?_)))))))))))
      refine Lq (q_conv rfl (cv8 _)) (Lq (q_and rfl rfl rfl) (Lq (q_or rfl rfl rfl) (Lq (q_move rfl) (Lq (q_conv rfl (cv8 _)) (Lq (q_and rfl rfl rfl) (Lq (q_or rfl rfl rfl) (WL_main rfl (OW_sliceM (cs := [_, _, _]) (.cons rfl (.cons rfl (.cons rfl (.nil)))) (fun w => bs122_3 _ _ _  w) (by decide) fun b48 => WL_main rfl (OW_appendM (m := 3) (news := [_, _, _]) Tryd.underlying122 ti5 rfl (by decide) rfl rfl hr own0 rfl rfl (by omega) (by unfold maxLen; omega) (by decide) (DelAt.perm (.s (.z))) fun v49 p49 hr49 => Lq (q_assign rfl) ?_)))))))))
      refine WL_nil (thenN (WC_ret (blockRet ?_)))
      refine ⟨_, [_], [], fun Z w hs => .tmp rfl (.nil), ?_, fun Z w hs => hs.out (List.Sublist.cons_cons _ (List.Sublist.cons _ (List.Sublist.refl _))) (fun _ h => h)⟩
      try simp only [Bp, Bq] at *
      refine ⟨_, ?_, rfl, rfl⟩
      unfold encI
      rw [if_neg (by omega), if_neg (by omega), if_pos (by omega)]
      rw [List.length_append, ints_append]
      exact hr49
    · refine WC_region (Lq (q_move rfl) (Lq (q_lss rfl rfl) (Lq (q_move rfl) (WL_guard (t := 30) rfl (fun g30 => ?_) (fun g30 => ?_)))))
      · refine Lg rfl rfl rfl g30 (q_move rfl) (Lg rfl rfl rfl g30 (q_leq rfl rfl) (Lq (q_pickT rfl g30 rfl) (Lq (q_assign rfl) (WL_nil (thenN (WC_cond rfl (fun h25 => ?_) (fun h25 => ?_)))))))
        · refine WC_seq (WC_region (Lq (q_move rfl) (Lq (q_move rfl) (Lq (q_shr rfl rfl (by decide) rfl) (Lq (q_conv rfl (cv8 _)) (Lq (q_or rfl rfl rfl) (Lq (q_move rfl) (Lq (q_shr rfl rfl (by decide) rfl) (Lq (q_conv rfl (cv8 _)) (Lq (q_and rfl rfl rfl) ?_))))))))))
          refine Lq (q_or rfl rfl rfl) (Lq (q_move rfl) (Lq (q_conv rfl (cv8 _)) (Lq (q_and rfl rfl rfl) (Lq (q_or rfl rfl rfl) (WL_main rfl (OW_sliceM (cs := [_, _, _]) (.cons rfl (.cons rfl (.cons rfl (.nil)))) (fun w => bs122_3 _ _ _  w) (by decide) fun b48 => WL_main rfl (OW_appendM (m := 3) (news := [_, _, _]) Tryd.underlying122 ti5 rfl (by decide) rfl rfl hr own0 rfl rfl (by omega) (by unfold maxLen; omega) (by decide) (DelAt.perm (.s (.z))) fun v49 p49 hr49 => Lq (q_assign rfl) (WL_nil (thenN (WC_ret (blockRet ?_)))))))))))
          refine ⟨_, [_], [], fun Z w hs => .tmp rfl (.nil), ?_, fun Z w hs => hs.out (List.Sublist.cons_cons _ (List.Sublist.cons _ (List.Sublist.refl _))) (fun _ h => h)⟩
          try simp only [Bp, Bq] at *
          refine ⟨_, ?_, rfl, rfl⟩
          unfold encI
          rw [if_neg (by omega), if_neg (by omega), if_pos (by omega)]
          rw [List.length_append, ints_append]
          exact hr49
        · refine WC_seq (WC_region (Lq (q_move rfl) (Lq (q_gtr rfl rfl) (Lq (q_move rfl) (WL_guard (t := 53) rfl (fun g53 => ?_) (fun g53 => ?_))))))
          · refine Lg rfl rfl rfl g53 (q_move rfl) (Lg rfl rfl rfl g53 (q_leq rfl rfl) (Lq (q_pickT rfl g53 rfl) (Lq (q_assign rfl) (WL_nil (thenN (WC_cond rfl (fun h50 => ?_) (fun h50 => ?_)))))))
            · refine WC_seq (WC_region (Lq (q_move rfl) (Lq (q_move rfl) (Lq (q_shr rfl rfl (by decide) rfl) (Lq (q_conv rfl (cv8 _)) (Lq (q_or rfl rfl rfl) (Lq (q_move rfl) (Lq (q_shr rfl rfl (by decide) rfl) (Lq (q_conv rfl (cv8 _)) (Lq (q_and rfl rfl rfl) ?_))))))))))
              refine Lq (q_or rfl rfl rfl) (Lq (q_move rfl) (Lq (q_shr rfl rfl (by decide) rfl) (Lq (q_conv rfl (cv8 _)) (Lq (q_and rfl rfl rfl) (Lq (q_or rfl rfl rfl) (Lq (q_move rfl) (Lq (q_conv rfl (cv8 _)) (Lq (q_and rfl rfl rfl) (Lq (q_or rfl rfl rfl) ?_)))))))))
              refine WL_main rfl (OW_sliceM (cs := [_, _, _, _]) (.cons rfl (.cons rfl (.cons rfl (.cons rfl (.nil))))) (fun w => bs122_4 _ _ _ _  w) (by decide) fun b76 => WL_main rfl (OW_appendM (m := 4) (news := [_, _, _, _]) Tryd.underlying122 ti5 rfl (by decide) rfl rfl hr own0 rfl rfl (by omega) (by unfold maxLen; omega) (by decide) (DelAt.perm (.s (.z))) fun v77 p77 hr77 => Lq (q_assign rfl) (WL_nil (thenN (WC_ret (blockRet ?_))))))
              refine ⟨_, [_], [], fun Z w hs => .tmp rfl (.nil), ?_, fun Z w hs => hs.out (List.Sublist.cons_cons _ (List.Sublist.cons _ (List.Sublist.refl _))) (fun _ h => h)⟩
              try simp only [Bp, Bq] at *
              refine ⟨_, ?_, rfl, rfl⟩
              unfold encI
              rw [if_neg (by omega), if_neg (by omega), if_neg (by omega), if_pos (by omega)]
              rw [List.length_append, ints_append]
              exact hr77
            · refine WC_seq (WC_region (Lq (q_move rfl) (WL_main rfl (OW_sliceM (cs := [_, _, _]) (.cons rfl (.cons rfl (.cons rfl (.nil)))) (fun w => bs122_3 _ _ _  w) (by decide) fun b9 => WL_main rfl (OW_appendM (m := 3) (news := [_, _, _]) Tryd.underlying122 ti5 rfl (by decide) rfl rfl hr own0 rfl rfl (by omega) (by unfold maxLen; omega) (by decide) (DelAt.perm (.s (.z))) fun v10 p10 hr10 => Lq (q_assign rfl) (WL_nil (thenN (WC_ret (blockRet ?_)))))))))
              refine ⟨_, [_], [], fun Z w hs => .tmp rfl (.nil), ?_, fun Z w hs => hs.out (List.Sublist.cons_cons _ (List.Sublist.cons _ (List.Sublist.refl _))) (fun _ h => h)⟩
              try simp only [Bp, Bq] at *
              refine ⟨_, ?_, rfl, rfl⟩
              unfold encI
              rw [if_neg (by omega), if_neg (by omega), if_neg (by omega), if_neg (by omega)]
              rw [List.length_append, ints_append]
              exact hr10
          · refine Ln rfl rfl rfl g53 (Ln rfl rfl rfl g53 (Lq (q_pickF rfl g53 rfl) (Lq (q_assign rfl) (WL_nil (thenN (WC_false rfl rfl (WC_seq (WC_region (Lq (q_move rfl) (WL_main rfl (OW_sliceM (cs := [_, _, _]) (.cons rfl (.cons rfl (.cons rfl (.nil)))) (fun w => bs122_3 _ _ _  w) (by decide) fun b9 => WL_main rfl (OW_appendM (m := 3) (news := [_, _, _]) Tryd.underlying122 ti5 rfl (by decide) rfl rfl hr own0 rfl rfl (by omega) (by unfold maxLen; omega) (by decide) (DelAt.perm (.s (.z))) fun v10 p10 hr10 => Lq (q_assign rfl) (WL_nil (thenN (WC_ret (blockRet ?_))))))))))))))))
            refine ⟨_, [_], [], fun Z w hs => .tmp rfl (.nil), ?_, fun Z w hs => hs.out (List.Sublist.cons_cons _ (List.Sublist.cons _ (List.Sublist.refl _))) (fun _ h => h)⟩
            try simp only [Bp, Bq] at *
            refine ⟨_, ?_, rfl, rfl⟩
            unfold encI
            rw [if_neg (by omega), if_neg (by omega), if_neg (by omega), if_neg (by omega)]
            rw [List.length_append, ints_append]
            exact hr10
      · refine Ln rfl rfl rfl g30 (Ln rfl rfl rfl g30 (Lq (q_pickF rfl g30 rfl) (Lq (q_assign rfl) (WL_nil (thenN (WC_false rfl rfl (WC_seq (WC_region (Lq (q_move rfl) (Lq (q_gtr rfl rfl) (Lq (q_move rfl) (WL_guard (t := 53) rfl (fun g53 => ?_) (fun g53 => ?_)))))))))))))
        · refine Lg rfl rfl rfl g53 (q_move rfl) (Lg rfl rfl rfl g53 (q_leq rfl rfl) (Lq (q_pickT rfl g53 rfl) (Lq (q_assign rfl) (WL_nil (thenN (WC_cond rfl (fun h50 => ?_) (fun h50 => ?_)))))))
          · refine WC_seq (WC_region (Lq (q_move rfl) (Lq (q_move rfl) (Lq (q_shr rfl rfl (by decide) rfl) (Lq (q_conv rfl (cv8 _)) (Lq (q_or rfl rfl rfl) (Lq (q_move rfl) (Lq (q_shr rfl rfl (by decide) rfl) (Lq (q_conv rfl (cv8 _)) (Lq (q_and rfl rfl rfl) ?_))))))))))
            refine Lq (q_or rfl rfl rfl) (Lq (q_move rfl) (Lq (q_shr rfl rfl (by decide) rfl) (Lq (q_conv rfl (cv8 _)) (Lq (q_and rfl rfl rfl) (Lq (q_or rfl rfl rfl) (Lq (q_move rfl) (Lq (q_conv rfl (cv8 _)) (Lq (q_and rfl rfl rfl) (Lq (q_or rfl rfl rfl) ?_)))))))))
            refine WL_main rfl (OW_sliceM (cs := [_, _, _, _]) (.cons rfl (.cons rfl (.cons rfl (.cons rfl (.nil))))) (fun w => bs122_4 _ _ _ _  w) (by decide) fun b76 => WL_main rfl (OW_appendM (m := 4) (news := [_, _, _, _]) Tryd.underlying122 ti5 rfl (by decide) rfl rfl hr own0 rfl rfl (by omega) (by unfold maxLen; omega) (by decide) (DelAt.perm (.s (.z))) fun v77 p77 hr77 => Lq (q_assign rfl) (WL_nil (thenN (WC_ret (blockRet ?_))))))
            refine ⟨_, [_], [], fun Z w hs => .tmp rfl (.nil), ?_, fun Z w hs => hs.out (List.Sublist.cons_cons _ (List.Sublist.cons _ (List.Sublist.refl _))) (fun _ h => h)⟩
            try simp only [Bp, Bq] at *
            refine ⟨_, ?_, rfl, rfl⟩
            unfold encI
            rw [if_neg (by omega), if_neg (by omega), if_neg (by omega), if_pos (by omega)]
            rw [List.length_append, ints_append]
            exact hr77
          · refine WC_seq (WC_region (Lq (q_move rfl) (WL_main rfl (OW_sliceM (cs := [_, _, _]) (.cons rfl (.cons rfl (.cons rfl (.nil)))) (fun w => bs122_3 _ _ _  w) (by decide) fun b9 => WL_main rfl (OW_appendM (m := 3) (news := [_, _, _]) Tryd.underlying122 ti5 rfl (by decide) rfl rfl hr own0 rfl rfl (by omega) (by unfold maxLen; omega) (by decide) (DelAt.perm (.s (.z))) fun v10 p10 hr10 => Lq (q_assign rfl) (WL_nil (thenN (WC_ret (blockRet ?_)))))))))
            refine ⟨_, [_], [], fun Z w hs => .tmp rfl (.nil), ?_, fun Z w hs => hs.out (List.Sublist.cons_cons _ (List.Sublist.cons _ (List.Sublist.refl _))) (fun _ h => h)⟩
            try simp only [Bp, Bq] at *
            refine ⟨_, ?_, rfl, rfl⟩
            unfold encI
            rw [if_neg (by omega), if_neg (by omega), if_neg (by omega), if_neg (by omega)]
            rw [List.length_append, ints_append]
            exact hr10
        · refine Ln rfl rfl rfl g53 (Ln rfl rfl rfl g53 (Lq (q_pickF rfl g53 rfl) (Lq (q_assign rfl) (WL_nil (thenN (WC_false rfl rfl (WC_seq (WC_region (Lq (q_move rfl) (WL_main rfl (OW_sliceM (cs := [_, _, _]) (.cons rfl (.cons rfl (.cons rfl (.nil)))) (fun w => bs122_3 _ _ _  w) (by decide) fun b9 => WL_main rfl (OW_appendM (m := 3) (news := [_, _, _]) Tryd.underlying122 ti5 rfl (by decide) rfl rfl hr own0 rfl rfl (by omega) (by unfold maxLen; omega) (by decide) (DelAt.perm (.s (.z))) fun v10 p10 hr10 => Lq (q_assign rfl) (WL_nil (thenN (WC_ret (blockRet ?_))))))))))))))))
          refine ⟨_, [_], [], fun Z w hs => .tmp rfl (.nil), ?_, fun Z w hs => hs.out (List.Sublist.cons_cons _ (List.Sublist.cons _ (List.Sublist.refl _))) (fun _ h => h)⟩
          try simp only [Bp, Bq] at *
          refine ⟨_, ?_, rfl, rfl⟩
          unfold encI
          rw [if_neg (by omega), if_neg (by omega), if_neg (by omega), if_neg (by omega)]
          rw [List.length_append, ints_append]
          exact hr10


set_option maxRecDepth 10000 in
theorem appRune_s (v : Value) (us : List Int) (p : Part) (r : Int) (hr : Row 5 1 v us.length (ints .u8 us) p) (hb : us.length ≤ 1073741824) : Sp Tryd.prog 75 [v, .int .i32 r] [p] [] (BwP (us ++ encI r)) := by
  refine Sp.of (n := 16) ⟨_, Tryd.func75, rfl, rfl, rfl, rfl⟩ (Nat.le_of_ble_eq_true rfl) fun Ps As => WC_seq (WC_region (Lq (q_assign rfl) (WL_nil (thenN (WC_seq (WC_seq (WC_region (Lq (q_move rfl) (Lq (q_conv rfl (cv32 _)) (Lq (q_leq rfl rfl) (WL_nil (thenN (WC_cond rfl (fun h7 => ?_) (fun h7 => ?_))))))))))))))
  · refine WC_seq (WC_region (Lq (q_move rfl) (Lq (q_move rfl) (Lq (q_conv rfl (cv8 _)) (WL_main rfl (OW_slice1 (cs := [_]) Tryd.underlying122 ti5 (by decide) (by decide) rfl rfl rfl rfl (by decide) fun b11 => WL_main rfl (OW_append1 (news := [_]) Tryd.underlying122 ti5 rfl (by decide) rfl rfl hr own0 rfl rfl (by omega) (by unfold maxLen; omega) (by decide) (DelAt.perm (.s (.z))) fun v12 p12 hr12 => Lq (q_assign rfl) (WL_nil (thenN (WC_ret (thenRet ?_)))))))))))
    refine ⟨_, [_], [], fun Z w hs => .tmp rfl (.nil), ?_, fun Z w hs => hs.out (List.Sublist.cons_cons _ (List.Sublist.cons _ (List.Sublist.refl _))) (fun _ h => h)⟩
    try simp only [Bp, Bq] at *
    refine ⟨_, ?_, rfl, rfl⟩
    unfold encI
    rw [if_pos (by omega)]
    rw [List.length_append, ints_append]
    exact hr12
  · refine WC_skip (thenN (WC_seq (WC_region (Lq (q_move rfl) (Lq (q_move rfl) (WL_main rfl (OW_call1 (appNon_s v us p r hr hb (by simpa using h7)) (.cons rfl (.cons rfl (.nil))) (by decide) (.z) mem0 fun u3_2 Lo fs hres => ?_)))))))
    obtain ⟨p15, hr15, rfl, rfl⟩ := hres
    refine Lq (q_assign rfl) (WL_nil (thenN (WC_ret ?_)))
    refine ⟨_, [_], [], fun Z w hs => .tmp rfl (.nil), ?_, fun Z w hs => hs.out (List.Sublist.cons_cons _ (List.Sublist.refl _)) (fun _ h => h)⟩
    exact ⟨_, hr15, rfl, rfl⟩


set_option maxRecDepth 10000 in
theorem blen_s (b : Nat) (ad A : Option Addr) (n c : Nat) : Sp Tryd.prog 52 [.pointer (some ⟨b, 0, none⟩)] [blP b ad (.slice A n c)] [] (fun v Lo fs => v = .int .i64 n ∧ Lo = [blP b ad (.slice A n c)] ∧ fs = []) := by
  refine Sp.of (n := 8) ⟨_, Tryd.func52, rfl, rfl, rfl, rfl⟩ (Nat.le_of_ble_eq_true rfl) fun Ps As => WC_seq (WC_region (Lq (q_assign rfl) (WL_nil (thenN (WC_seq (WC_region (Lq (q_move rfl) (Lq (q_nil rfl) (Lq (q_field (o' := 1) Tryd.underlying124 rfl ti122 rfl rfl) (Lq (q_load1 Tryd.underlying122 rfl rfl own0 rfl) (Lq (q_len Tryd.underlying122 rfl) (Lq (q_assign rfl) ?_))))))))))))
  refine WL_nil (thenN (WC_ret ?_))
  refine ⟨_, [_], [], fun Z w hs => .tmp rfl (.nil), ?_, fun Z w hs => hs.out (List.Sublist.cons_cons _ (List.Sublist.refl _)) (fun _ h => h)⟩
  exact ⟨rfl, rfl, rfl⟩


set_option maxRecDepth 10000 in
theorem breset_s (b : Nat) (ad : Option Addr) (v : Value) : Sp Tryd.prog 54 [.pointer (some ⟨b, 0, none⟩)] [blP b ad v] [] (fun u Lo fs => u = .tuple #[] ∧ Lo = [blP b none (.slice none 0 0)] ∧ fs = []) := by
  refine Sp.of (n := 8) ⟨_, Tryd.func54, rfl, rfl, rfl, rfl⟩ (Nat.le_of_ble_eq_true rfl) fun Ps As => WC_seq (WC_region (Lq (q_move rfl) (Lq (q_nil rfl) (Lq (q_field (o' := 0) Tryd.underlying124 rfl ti121 rfl rfl) (WL_main rfl (OW_store1 ti121 rfl rfl rfl (.z) (.z) (WL_nil (thenN (WC_region (Lq (q_move rfl) (Lq (q_nil rfl) (Lq (q_field (o' := 1) Tryd.underlying124 rfl ti122 rfl rfl) ?_))))))))))))
  refine WL_main rfl (OW_store1 ti122 rfl rfl rfl (.s (.z)) (.z) (WL_nil ?_))
  refine ⟨_, [_], [], fun Z w hs => .nil, ?_, fun Z w hs => hs.out (List.Sublist.cons_cons _ (List.Sublist.refl _)) (fun _ h => h)⟩
  exact ⟨rfl, rfl, rfl⟩


set_option maxRecDepth 10000 in
theorem bcopy_0 (b : Nat) (v : Value) : Sp Tryd.prog 74 [.pointer (some ⟨b, 0, none⟩)] [blP b none v] [] (fun u Lo fs => u = .tuple #[] ∧ Lo = [blP b (some ⟨b, 0, none⟩) v] ∧ fs = []) := by
  refine Sp.of (n := 20) ⟨_, Tryd.func74, rfl, rfl, rfl, rfl⟩ (Nat.le_of_ble_eq_true rfl) fun Ps As => WC_seq (WC_region (Lq (q_move rfl) (Lq (q_nil rfl) (Lq (q_field (o' := 0) Tryd.underlying124 rfl ti121 rfl rfl) (Lq (q_load1 Tryd.underlying121 rfl rfl own0 rfl) (Lq (q_peql Tryd.underlying121 rfl rfl (by simp)) (WL_nil (thenN (WC_true rfl rfl (WC_region (Lq (q_move rfl) (Lq (q_move rfl) ?_))))))))))))
  refine Lq (q_toUnsafe (j := _) Tryd.underlying121 Tryd.underlying173 rfl (by decide) rfl own0 (Nat.succ_pos _)) (Lq (q_extern (noEsc _) rfl) (Lq (q_fromUnsafe (j := _) Tryd.underlying173 Tryd.underlying121 rfl rfl own0 (by kernel_rfl)) (Lq (q_nil rfl) (Lq (q_field (o' := 0) Tryd.underlying124 rfl ti121 rfl rfl) (WL_main rfl (OW_store1 ti121 rfl rfl rfl (.z) (.z) (WL_nil ?_)))))))
  refine ⟨_, [_], [], fun Z w hs => .nil, ?_, fun Z w hs => hs.out (List.Sublist.cons_cons _ (List.Sublist.refl _)) (fun _ h => h)⟩
  exact ⟨rfl, rfl, rfl⟩


set_option maxRecDepth 10000 in
theorem bcopy_1 (b : Nat) (v : Value) : Sp Tryd.prog 74 [.pointer (some ⟨b, 0, none⟩)] [blP b (some ⟨b, 0, none⟩) v] [] (fun u Lo fs => u = .tuple #[] ∧ Lo = [blP b (some ⟨b, 0, none⟩) v] ∧ fs = []) := by
  refine Sp.of (n := 20) ⟨_, Tryd.func74, rfl, rfl, rfl, rfl⟩ (Nat.le_of_ble_eq_true rfl) fun Ps As => WC_seq (WC_region (Lq (q_move rfl) (Lq (q_nil rfl) (Lq (q_field (o' := 0) Tryd.underlying124 rfl ti121 rfl rfl) (Lq (q_load1 Tryd.underlying121 rfl rfl own0 rfl) (Lq (q_peql Tryd.underlying121 rfl rfl (by simp)) (WL_nil (thenN (WC_false rfl rfl (WC_seq (WC_region (Lq (q_move rfl) (Lq (q_nil rfl) ?_)))))))))))))
  refine Lq (q_field (o' := 0) Tryd.underlying124 rfl ti121 rfl rfl) (Lq (q_load1 Tryd.underlying121 rfl rfl own0 rfl) (Lq (q_move rfl) (Lq (q_pneqSame (j := _) Tryd.underlying121 rfl rfl rfl) (WL_nil (thenN (WC_false rfl rfl (WC_skip ?_)))))))
  refine ⟨_, [_], [], fun Z w hs => .nil, ?_, fun Z w hs => hs.out (List.Sublist.cons_cons _ (List.Sublist.refl _)) (fun _ h => h)⟩
  exact ⟨rfl, rfl, rfl⟩

theorem bcopy_s (b : Nat) (ad : Option Addr) (v : Value) (h : ad = none ∨ ad = some ⟨b, 0, none⟩) : Sp Tryd.prog 74 [.pointer (some ⟨b, 0, none⟩)] [blP b ad v] [] (fun u Lo fs => u = .tuple #[] ∧ Lo = [blP b (some ⟨b, 0, none⟩) v] ∧ fs = []) := by
  rcases h with rfl | rfl
  · exact bcopy_0 b v
  · exact bcopy_1 b v

set_option maxRecDepth 10000 in
theorem bwrite_s (b : Nat) (ad : Option Addr) (v : Value) (us : List Int) (p : Part) (r : Int) (had : ad = none ∨ ad = some ⟨b, 0, none⟩) (hr : Row 5 1 v us.length (ints .u8 us) p) (hb : us.length ≤ 1073741824) : Sp Tryd.prog 57 [.pointer (some ⟨b, 0, none⟩), .int .i32 r] [blP b ad v, p] [] (fun u Lo fs => ∃ v' p', Row 5 1 v' (us ++ encI r).length (ints .u8 (us ++ encI r)) p' ∧ Lo = [blP b (some ⟨b, 0, none⟩) v', p'] ∧ fs = []) := by
  have hel := encI_len r
  obtain ⟨Av, cv, rfl⟩ := hr.slice
  refine Sp.of (n := 30) ⟨_, Tryd.func57, rfl, rfl, rfl, rfl⟩ (Nat.le_of_ble_eq_true rfl) fun Ps As => WC_seq (WC_region (Lq (q_assign rfl) (Lq (q_assign rfl) (WL_nil (thenN (WC_seq (WC_region (Lq (q_move rfl) (WL_main rfl (OW_call1 (bcopy_s b ad _ had) (.cons rfl (.nil)) (by decide) (.z) mem0 fun u1_1 Lo fs hres => ?_))))))))))
  obtain ⟨rfl, rfl, rfl⟩ := hres
  refine WL_nil (thenN (WC_seq (WC_region (Lq (q_move rfl) (Lq (q_nil rfl) (Lq (q_field (o' := 1) Tryd.underlying124 rfl ti122 rfl rfl) (Lq (q_load1 Tryd.underlying122 rfl rfl own0 rfl) (Lq (q_len Tryd.underlying122 rfl) (Lq (q_assign rfl) (WL_nil (thenN (WC_seq (WC_region (Lq (q_move rfl) (Lq (q_move rfl) ?_)))))))))))))))
  refine Lq (q_nil rfl) (Lq (q_field (o' := 1) Tryd.underlying124 rfl ti122 rfl rfl) (Lq (q_load1 Tryd.underlying122 rfl rfl own0 rfl) (Lq (q_move rfl) (WL_main rfl (OW_call1 (appRune_s _ us p r hr hb) (.cons rfl (.cons rfl (.nil))) (by decide) (.s (.z)) mem0 fun u3_6 Lo fs hres => ?_)))))
  obtain ⟨p2, hr2, rfl, rfl⟩ := hres
  obtain ⟨A2, c2, rfl⟩ := hr2.slice
  refine Lq (q_nil rfl) (Lq (q_field (o' := 1) Tryd.underlying124 rfl ti122 rfl rfl) (WL_main rfl (OW_store1 ti122 rfl rfl rfl (.s (.z)) (.s (.z)) (WL_nil (thenN (WC_fr [(6, _), (5, _), (4, _), (0, _)] (.cons rfl (.cons rfl (.cons rfl (.cons rfl (.nil _))))) (WC_seq (WC_pick (.z) (WC_pick (.s (.z)) (WC_region (Lq (q_move rfl) ?_)))))))))))
  refine Lq (q_nil rfl) (Lq (q_field (o' := 1) Tryd.underlying124 rfl ti122 rfl rfl) (Lq (q_load1 Tryd.underlying122 rfl rfl own0 rfl) (Lq (q_len Tryd.underlying122 rfl) (Lq (q_move rfl) (Lq (q_sub rfl rfl rfl) (Lq (q_assign rfl) (Lq (q_assign rfl) (WL_nil (thenN (WC_ret ?_))))))))))
  refine ⟨_, [_, _], [], fun Z w hs => .tmp rfl (.tmp rfl (.nil)), ?_, fun Z w hs => hs.out (List.Sublist.cons_cons _ (List.Sublist.cons_cons _ (List.Sublist.refl _))) (fun _ h => h)⟩
  exact ⟨_, _, hr2, rfl, rfl⟩


set_option maxRecDepth 10000 in
theorem bstr_s (b : Nat) (ad : Option Addr) (v : Value) (us : List Int) (p : Part) (hr : Row 5 1 v us.length (ints .u8 us) p) (hb : us.length ≤ 1073741824) (hby : By us) (hne : us ≠ []) : Sp Tryd.prog 53 [.pointer (some ⟨b, 0, none⟩)] [blP b ad v, p] [] (fun u Lo fs => u = .string (strOf us) ∧ Lo = [blP b ad v] ∧ fs = []) := by
  have hl0 := List.length_pos_iff.2 hne
  obtain ⟨hl, ⟨_, h0, _⟩ | ⟨bb, cap, jk, rfl, rfl, h1, h2, h3⟩⟩ := hr
  · omega
  refine Sp.of (n := 14) ⟨_, Tryd.func53, rfl, rfl, rfl, rfl⟩ (Nat.le_of_ble_eq_true rfl) fun Ps As => WC_seq (WC_region (Lq (q_assign rfl) (WL_nil (thenN (WC_seq (WC_draw _ _ [] (.c 0 0 (.c 1 0 (.c 2 0 (.c 3 0 (.c 4 0 (.c 5 0 (.c 6 0 (.c 7 0 (.c 8 0 (.c 9 0 (.c 10 2 (.c 11 0 .nil)))))))))))) mixed (fun _ _ _ _ h => h) (List.Sublist.cons_cons _ (List.Sublist.cons _ (List.Sublist.refl _))) (fun _ h => h) (by kernel_rfl) (by decide) fun ws Z0 => Qe rfl (q_move rfl) (Qe rfl (q_nil rfl) (Qe rfl (q_field (o' := 1) Tryd.underlying124 rfl ti122 rfl rfl) (Qe rfl (q_load1 Tryd.underlying122 rfl rfl own0 rfl) (Qe rfl (q_sliceData (by omega) rfl) ?_))))))))))
  refine Qe rfl (q_move rfl) (Qe rfl (q_nil rfl) (Qe rfl (q_field (o' := 1) Tryd.underlying124 rfl ti122 rfl rfl) (Qe rfl (q_load1 Tryd.underlying122 rfl rfl own0 rfl) (Qe rfl (q_len Tryd.underlying122 rfl) (WE_main rfl rfl (OW_unsafeString (e := 5) (T := 5) Tryd.underlying152 rfl hby hne (by omega) rfl rfl (by decide) (.s (.z)) ?_))))))
  refine ⟨⟨(List.Sublist.cons_cons _ (List.Sublist.refl _)), (.head _)⟩, ?_⟩
  refine Qe rfl (q_assign rfl) (WE_end (WF_nil (thenN (WC_ret ?_))))
  refine ⟨_, [_], [], fun Z w hs => .tmp rfl (.nil), ?_, fun Z w hs => hs.out (List.Sublist.cons_cons _ (List.Sublist.refl _)) (fun _ h => .tail _ h)⟩
  exact ⟨rfl, rfl, rfl⟩

end Go.Proofs.YtggdddkbhigjoaaDoor
/- Runs of a row of cells, plain. -/
namespace Go.Proofs.YtggdddkbhigjoaaDoor
open Go Go.GW
abbrev Rn := ByteArray × Int
def runC (x : Rn) : List Value := [.string x.1, .int .i64 x.2]
def runD : De Rn where
  sz := 2
  rep _ _ x cs := cs = runC x
  len h := by subst h; rfl
  one h := by subst h; rfl
  stable _ _ _ _ _ h := h
theorem run_open (u : Rn) : ∀ Z w cs, runD.rep Z w u cs → ∃ y : Unit, cs = runC u ∧ ∀ B ∈ ([] : List Fact), B.holds Z w := fun _ _ _ h => ⟨(), h, fun _ h => by cases h⟩
structure RS where
  rs : List Rn
  hid : Int
  bs : List Int
def flushF (s : RS) : RS := if s.bs = [] then s else ⟨s.rs ++ [(strOf s.bs, s.hid)], s.hid, []⟩
def turnR (s : RS) (hid : Int) : RS := if hid = s.hid then s else { flushF s with hid := hid }
def pieceF (s : RS) (rs : List Int) (hid : Int) : RS := { turnR s hid with bs := (turnR s hid).bs ++ rs.flatMap encI }
def cellF (s : RS) (c : Ce) : RS := pieceF s [c.1] c.2
theorem flush_bs (s : RS) : (flushF s).bs = [] := by
  unfold flushF; split
  · assumption
  · rfl
theorem turnR_hid (s : RS) (hid : Int) : (turnR s hid).hid = hid := by
  unfold turnR; split
  · rename_i h; exact h.symm
  · rfl
theorem turnR_same {s : RS} {hid : Int} (h : s.hid = hid) : turnR s hid = s := by unfold turnR; rw [if_pos h.symm]
theorem pieceF_hid (s : RS) (rs : List Int) (hid : Int) : (pieceF s rs hid).hid = hid := turnR_hid s hid
theorem pieceF_append (s : RS) (a b : List Int) (hid : Int) : pieceF (pieceF s a hid) b hid = pieceF s (a ++ b) hid := by
  have h := pieceF_hid s a hid
  unfold pieceF at h ⊢
  rw [turnR_same h]
  simp [List.flatMap_append]
theorem piece_cells (hid : Int) : ∀ (rs : List Int) (s : RS), rs ≠ [] → pieceF s rs hid = (cellsOf rs hid).foldl cellF s
  | [], s, h => absurd rfl h
  | [r], s, _ => rfl
  | r :: r2 :: rs, s, _ => by
    have ih := piece_cells hid (r2 :: rs) (cellF s (r, hid)) (by simp)
    show _ = (cellsOf (r2 :: rs) hid).foldl cellF (cellF s (r, hid))
    rw [← ih]
    show _ = pieceF (pieceF s [r] hid) (r2 :: rs) hid
    rw [pieceF_append]; rfl
def rowF (X : List Ce) : RS := X.foldl cellF ⟨[], 0, []⟩
theorem rowF_piece (X : List Ce) {rs : List Int} (hid : Int) (h : rs ≠ []) : rowF (X ++ cellsOf rs hid) = pieceF (rowF X) rs hid := by
  unfold rowF; rw [List.foldl_append, piece_cells hid rs _ h]
def runsF (X : List Ce) : List Rn := (flushF (rowF X)).rs
theorem by_nil : By [] := fun x hx => by cases hx
/-- How much a row's runs hold. -/
structure RsB (s : RS) (n : Nat) : Prop where
  by_ : By s.bs
  bl : s.bs.length ≤ 4 * n
  rl : s.rs.length + (if s.bs = [] then 0 else 1) ≤ n
theorem RsB.flush {s : RS} {n : Nat} (h : RsB s n) : RsB (flushF s) n ∧ (flushF s).rs.length ≤ n := by
  have hr := h.rl
  unfold flushF
  split
  · rename_i hb
    exact ⟨h, by rw [if_pos hb] at hr; omega⟩
  · rename_i hb
    rw [if_neg hb] at hr
    exact ⟨⟨by_nil, by simp, by simpa using hr⟩, by simpa using hr⟩
theorem RsB.turn {s : RS} {n : Nat} (h : RsB s n) (hid : Int) : RsB (turnR s hid) n := by
  unfold turnR
  split
  · exact h
  · exact ⟨h.flush.1.by_, h.flush.1.bl, h.flush.1.rl⟩
theorem flat_by : ∀ rs : List Int, By (rs.flatMap encI)
  | [] => by_nil
  | r :: rs => by rw [List.flatMap_cons]; exact by_append (encI_by r) (flat_by rs)
theorem flat_len4 : ∀ rs : List Int, (rs.flatMap encI).length ≤ 4 * rs.length
  | [] => by simp
  | r :: rs => by
    have := flat_len4 rs; have := encI_len r
    rw [List.flatMap_cons, List.length_append, List.length_cons]; omega
theorem RsB.piece {s : RS} {n : Nat} (h : RsB s n) {rs : List Int} (hid : Int) (hne : rs ≠ []) : RsB (pieceF s rs hid) (n + rs.length) := by
  have ht := h.turn hid
  have h4 := flat_len4 rs
  have hl := List.length_pos_iff.2 hne
  have hb := ht.bl
  have hr := ht.rl
  refine ⟨by_append ht.by_ (flat_by rs), ?_, ?_⟩
  · show ((turnR s hid).bs ++ rs.flatMap encI).length ≤ _
    rw [List.length_append]; omega
  · show (turnR s hid).rs.length + _ ≤ _
    split at hr <;> split <;> omega
theorem rowF_ok (X : List Ce) : RsB (rowF X) X.length := by
  have key : ∀ (X : List Ce) (s : RS) (n : Nat), RsB s n → RsB (X.foldl cellF s) (n + X.length) := by
    intro X
    induction X with
    | nil => intro s n h; exact h
    | cons c X ih =>
      intro s n h
      have := ih (cellF s c) (n + 1) (h.piece c.2 (by simp))
      rw [List.foldl_cons, List.length_cons, show n + (X.length + 1) = n + 1 + X.length from by omega]
      exact this
  have := key X ⟨[], 0, []⟩ 0 ⟨by_nil, by simp, by simp⟩
  rw [Nat.zero_add] at this
  exact this
/-! ### In memory -/
abbrev rcP (b : Nat) (v : Value) : Part := [(b, cellsO [v] 84)]
abbrev hcP (b : Nat) (x : Int) : Part := [(b, cellsO [.int .i64 x] 3)]
def clR (bB bR bH : Nat) : Value := .func (.func 51) #[] #[.pointer (some ⟨bB, 0, none⟩), .pointer (some ⟨bR, 0, none⟩), .pointer (some ⟨bH, 0, none⟩)]
abbrev fcP (bF bB bR bH : Nat) : Part := [(bF, cellsO [clR bB bR bH] 1)]
def rnL (bB bR bH bF : Nat) (ad : Option Addr) (v : Value) (p : Part) (rv : Value) (rp : Part) (x : Int) : List Part := [blP bB ad v, p, rcP bR rv, rp, hcP bH x, fcP bF bB bR bH]
structure RunS (bB : Nat) (s : RS) (ad : Option Addr) (v : Value) (p : Part) (rv : Value) (rp : Part) : Prop where
  ad : ad = none ∨ ad = some ⟨bB, 0, none⟩
  row : Row 5 1 v s.bs.length (ints .u8 s.bs) p
  rr : Row 127 2 rv s.rs.length (flatC runC s.rs) rp
def RunI (bB bR bH bF : Nat) (X : List Ce) (q : Part) : Prop := ∃ ad v p rv rp, RunS bB (rowF X) ad v p rv rp ∧ q = (rnL bB bR bH bF ad v p rv rp (rowF X).hid).flatten
end Go.Proofs.YtggdddkbhigjoaaDoor
/- The text of a row: the visible cells' runes, plain. -/
namespace Go.Proofs.YtggdddkbhigjoaaDoor
open Go Go.GW
def visF (X : List Ce) : List Int := (X.filter fun c => decide (c.2 = 0)).map (·.1)
def visN (X : List Ce) : Nat := X.countP fun c => decide (c.2 = 0)
def vbs (X : List Ce) : List Int := (visF X).flatMap encI
def textF (X : List Ce) : ByteArray := strOf (vbs X)
theorem visF_length (X : List Ce) : (visF X).length = visN X := by unfold visF visN; rw [List.length_map, List.countP_eq_length_filter]
theorem visF_append (X Y : List Ce) : visF (X ++ Y) = visF X ++ visF Y := by unfold visF; simp
theorem visN_append (X Y : List Ce) : visN (X ++ Y) = visN X + visN Y := by unfold visN; rw [List.countP_append]
theorem visN_le (X : List Ce) : visN X ≤ X.length := List.countP_le_length
theorem vbs_append (X Y : List Ce) : vbs (X ++ Y) = vbs X ++ vbs Y := by unfold vbs; rw [visF_append, List.flatMap_append]
theorem visF_cells (rs : List Int) : visF (cellsOf rs 0) = rs := by
  unfold visF cellsOf
  rw [List.filter_eq_self.2 (by simp), List.map_map]
  exact List.map_id _
theorem visF_hid {X : List Ce} (h : ∀ c ∈ X, c.2 ≠ 0) : visF X = [] := by
  unfold visF
  rw [List.filter_eq_nil_iff.2 (by simpa using h)]; rfl
theorem visN_hid {X : List Ce} (h : ∀ c ∈ X, c.2 ≠ 0) : visN X = 0 := by rw [← visF_length, visF_hid h]; rfl
theorem cells_hid (rs : List Int) {hid : Int} (h : hid ≠ 0) : ∀ c ∈ cellsOf rs hid, c.2 ≠ 0 := fun c hc => by
  unfold cellsOf at hc
  obtain ⟨x, _, rfl⟩ := List.mem_map.1 hc
  exact h
theorem vbs_by (X : List Ce) : By (vbs X) := flat_by _
theorem vbs_len (X : List Ce) : (vbs X).length ≤ 4 * X.length := by
  have h1 := flat_len4 (visF X)
  have h2 := visN_le X
  rw [← visF_length] at h2
  unfold vbs; omega
theorem visN_pre {X R : List Ce} (h : X <+: R) : visN X ≤ visN R := by
  obtain ⟨Y, rfl⟩ := h
  rw [visN_append]; omega
theorem visF_full {X R : List Ce} (h : X <+: R) (e : visN R ≤ visN X) : visF R = visF X := by
  obtain ⟨Y, rfl⟩ := h
  rw [visN_append] at e
  rw [visF_append, show visF Y = [] from List.length_eq_zero_iff.1 (by rw [visF_length]; omega), List.append_nil]
/-- What a tree's sums tell of it. -/
def shownF (s : Sm) : Int := if s.mn = 0 then s.am else 0
theorem Wf.shown {t : Tr} (h : Wf t) : shownF (allF t) = visN t.row := by
  cases t with
  | nil => rfl
  | nd s l rs hid r plus =>
    obtain ⟨h1, h2, h3, h4, h5, h6, h7⟩ := h
    obtain ⟨g1, g2, g3, g4, g5, g6⟩ := h5
    show shownF s = visN (up plus (l.row ++ (cellsOf rs hid ++ r.row)))
    unfold shownF
    by_cases hm : s.mn = 0
    · rw [if_pos hm, g4, hm]; rfl
    · rw [if_neg hm, visN_hid]; rfl
      intro c hc
      have := g2 c hc
      have := (h7 c hc).1
      obtain ⟨d, hd, e⟩ := g3
      have := (h7 d hd).1
      omega
theorem hid_of_shown {X : List Ce} (h : visN X = 0) : ∀ c ∈ X, c.2 ≠ 0 := fun c hc => by
  have := List.countP_eq_zero.1 h c hc
  simpa using this
/-- The first visible cell's place: all cells ahead of it are hidden. -/
structure Fst (X : List Ce) (k : Nat) : Prop where
  le : k ≤ X.length
  hid : ∀ c ∈ X.take k, c.2 ≠ 0
/-- Going down to it. -/
structure GoI (R : List Ce) (t : Tr) (k : Nat) : Prop where
  wf : Wf t
  pos : 0 < visN t.row
  at_ : ∃ B, R.drop k = t.row ++ B
  le : k ≤ R.length
  hid : ∀ c ∈ R.take k, c.2 ≠ 0
theorem GoI.zero {t : Tr} (wt : Wf t) (h : 0 < visN t.row) : GoI t.row t 0 := ⟨wt, h, ⟨[], by simp⟩, Nat.zero_le _, fun c hc => by simp at hc⟩
theorem GoI.ne {R : List Ce} {t : Tr} {k : Nat} (h : GoI R t k) : t ≠ .nil := fun e => by
  have := h.pos
  rw [e] at this
  exact absurd this (by simp [Tr.row, visN])
theorem GoI.bd {R : List Ce} {t : Tr} {k : Nat} (h : GoI R t k) : k + t.row.length ≤ R.length := by
  obtain ⟨B, hB⟩ := h.at_
  have := congrArg List.length hB
  rw [List.length_drop, List.length_append] at this
  have := h.le
  omega
theorem take_more {R A C : List Ce} {k : Nat} (hk : k ≤ R.length) (h : R.drop k = A ++ C) : R.take (k + A.length) = R.take k ++ A ∧ R.drop (k + A.length) = C ∧ k + A.length ≤ R.length := by
  have e : R = R.take k ++ (A ++ C) := by rw [← h, List.take_append_drop]
  have hl : (R.take k).length = k := by rw [List.length_take]; omega
  have h3 := congrArg List.length h
  rw [List.length_drop, List.length_append] at h3
  refine ⟨?_, ?_, by omega⟩
  · conv => lhs; rw [e]
    rw [show k + A.length = (R.take k).length + A.length from by rw [hl], List.take_length_add_append, List.take_left]
  · conv => lhs; rw [e]
    rw [show k + A.length = (R.take k).length + A.length from by rw [hl], List.drop_length_add_append, List.drop_left]
theorem GoI.left {R : List Ce} {t l : Tr} {k : Nat} {C : List Ce} (h : GoI R t k) (wl : Wf l) (e : t.row = l.row ++ C) (hp : 0 < visN l.row) : GoI R l k := by
  obtain ⟨B, hB⟩ := h.at_
  exact ⟨wl, hp, ⟨C ++ B, by rw [hB, e, List.append_assoc]⟩, h.le, h.hid⟩
theorem GoI.own {R : List Ce} {t : Tr} {k : Nat} {L C : List Ce} (h : GoI R t k) (e : t.row = L ++ C) (hz : visN L = 0) : Fst R (k + L.length) := by
  obtain ⟨B, hB⟩ := h.at_
  obtain ⟨t1, t2, t3⟩ := take_more (A := L) (C := C ++ B) h.le (by rw [hB, e, List.append_assoc])
  refine ⟨t3, fun c hc => ?_⟩
  rw [t1] at hc
  rcases List.mem_append.1 hc with hc | hc
  · exact h.hid c hc
  · exact hid_of_shown hz c hc
theorem GoI.right {R : List Ce} {t r : Tr} {k : Nat} {L M : List Ce} (h : GoI R t k) (wr : Wf r) (e : t.row = L ++ (M ++ r.row)) (hz : visN L = 0) (hm : ∀ c ∈ M, c.2 ≠ 0) : GoI R r (k + L.length + M.length) := by
  obtain ⟨B, hB⟩ := h.at_
  have hp := h.pos
  rw [e, visN_append, visN_append, hz, visN_hid hm] at hp
  obtain ⟨t1, t2, t3⟩ := take_more (A := L ++ M) (C := r.row ++ B) h.le (by rw [hB, e]; simp)
  rw [List.length_append, ← Nat.add_assoc] at t1 t2 t3
  refine ⟨wr, by omega, ⟨B, t2⟩, t3, fun c hc => ?_⟩
  rw [t1] at hc
  rcases List.mem_append.1 hc with hc | hc
  · exact h.hid c hc
  · rcases List.mem_append.1 hc with hc | hc
    · exact hid_of_shown hz c hc
    · exact hm c hc
/-- A visible piece lies behind. -/
theorem Fst.vis {R X : List Ce} {k : Nat} {rs : List Int} (h : Fst R k) (hne : rs ≠ []) (hp : X ++ cellsOf rs 0 <+: R) : k ≤ X.length := by
  rcases Nat.lt_or_ge X.length k with hlt | hge
  · exfalso
    obtain ⟨Y, rfl⟩ := hp
    obtain ⟨r, rs, rfl⟩ := List.exists_cons_of_ne_nil hne
    refine h.hid (r, 0) ?_ rfl
    refine List.mem_of_getElem? (i := X.length) ?_
    rw [List.getElem?_take, if_pos hlt, List.append_assoc, List.getElem?_append_right (Nat.le_refl _), Nat.sub_self]; rfl
  · exact hge
theorem Fst.skip {R X : List Ce} {k : Nat} (h : Fst R k) (hp : X <+: R) (hl : X.length ≤ k) : visF X = [] := by
  refine visF_hid fun c hc => h.hid c ?_
  obtain ⟨Y, rfl⟩ := hp
  rw [List.take_append, List.take_of_length_le hl]
  exact List.mem_append_left _ hc
end Go.Proofs.YtggdddkbhigjoaaDoor
/- Walks: Runs. -/
namespace Go.Proofs.YtggdddkbhigjoaaDoor
open Go Go.GW
theorem bd127_0_1Xw47 (x0_ : ByteArray) (x1_ : Int) (w : World) : (Instr.build 127 #[(0, .string x0_), (1, .int .i64 x1_)]).run Tryd.prog w = .ok (.agg #[.string x0_, .int .i64 x1_]) w := by kernel_rfl

set_option maxRecDepth 10000 in
theorem flush_s (bB bR bH : Nat) (s : RS) (ad : Option Addr) (v : Value) (p : Part) (rv : Value) (rp : Part) (hs : RunS bB s ad v p rv rp) (hby : By s.bs) (hbl : s.bs.length ≤ 1073741824) (hrl : s.rs.length ≤ 1073741824) : Sp Tryd.prog 51 [.pointer (some ⟨bB, 0, none⟩), .pointer (some ⟨bR, 0, none⟩), .pointer (some ⟨bH, 0, none⟩)] [blP bB ad v, p, rcP bR rv, rp, hcP bH s.hid] [] (fun u Lo fs => u = .tuple #[] ∧ fs = [] ∧ ∃ rv' rp', Row 127 2 rv' (flushF s).rs.length (flatC runC (flushF s).rs) rp' ∧ Lo = [blP bB none (.slice none 0 0), rcP bR rv', rp', hcP bH s.hid]) := by
  obtain ⟨Av, cv, rfl⟩ := hs.row.slice
  obtain ⟨Ar, cr, rfl⟩ := hs.rr.slice
  refine Sp.of (n := 12) ⟨_, Tryd.func51, rfl, rfl, rfl, rfl⟩ (Nat.le_of_ble_eq_true rfl) fun Ps As => WC_seq (WC_seq (WC_region (WL_main rfl (OW_call1 (blen_s bB ad Av s.bs.length cv) (.cons rfl (.nil)) (by decide) (.z) mem0 fun u0_0 Lo fs hres => ?_))))
  obtain ⟨rfl, rfl, rfl⟩ := hres
  refine Lq (q_gtr rfl rfl) (WL_nil (thenN (WC_cond rfl (fun h4 => ?_) (fun h4 => ?_))))
  · refine WC_draw _ _ [6] (.c 0 0 (.c 2 0 (.c 1 2 (.c 3 0 (.c 4 2 (.c 5 2 (.c 6 3 .nil))))))) mixed (fun _ _ _ _ h => h) (List.Sublist.cons _ (List.Sublist.cons _ (List.Sublist.cons_cons _ (List.Sublist.cons _ (List.Sublist.cons_cons _ (List.Sublist.refl _)))))) (fun _ h => h) (by kernel_rfl) (by decide) fun ws Z0 => Qe rfl (q_load1 Tryd.underlying84 rfl rfl own0 rfl) (Qe rfl (q_load1 Tryd.underlying3 rfl rfl (ownS (own0)) rfl) (WE_main rfl rfl (OW_call2 (bstr_s bB ad _ s.bs p hs.row (by omega) hby (by intro e; rw [e] at h4; simp at h4)) (.cons rfl (.nil)) (by decide) (.z) (.z) mem0 fun u1_1 Lo fs hres => ?_)))
    obtain ⟨rfl, rfl, rfl⟩ := hres
    refine ⟨⟨(List.Sublist.cons _ (List.Sublist.cons_cons _ (List.Sublist.cons _ (List.Sublist.cons_cons _ (List.Sublist.refl _))))), (.head _)⟩, ?_⟩
    refine Qe rfl (q_build (.cons rfl (.cons rfl (.nil))) (bd127_0_1Xw47 _ _)) (WE_main rfl rfl (OW_slice1 (cs := [_, _]) Tryd.underlying84 ti127 (by decide) (by decide) rfl rfl rfl rfl (by decide) fun b9 => ?_))
    refine ⟨⟨(List.Sublist.cons _ (List.Sublist.cons _ (List.Sublist.cons_cons _ (List.Sublist.cons _ (List.Sublist.cons_cons _ (List.Sublist.refl _)))))), (.head _)⟩, ?_⟩
    refine WE_main rfl rfl (OW_append1 (news := [_, _]) Tryd.underlying84 ti127 rfl (by decide) rfl rfl hs.rr own0 rfl rfl (by omega) (by unfold maxLen; omega) (by decide) (DelAt.perm (.s (.s (.s (.z))))) fun v10 p10 hr10 => ?_)
    obtain ⟨A10, c10, rfl⟩ := hr10.slice
    refine ⟨⟨(List.Sublist.cons _ (List.Sublist.cons _ (List.Sublist.cons _ (List.Sublist.cons_cons _ (List.Sublist.cons_cons _ (List.Sublist.refl _)))))), (.head _)⟩, ?_⟩
    refine WE_end (WF_last rfl rfl (OW_store1 ti84 rfl rfl rfl (.z) (.s (.s (.s (.z)))) (WF_nil (thenN (WC_region (WL_main rfl (OW_call1 (breset_s bB ad _) (.cons rfl (.nil)) (by decide) (.s (.s (.z))) mem0 fun u2_0 Lo fs hres => ?_)))))))
    obtain ⟨rfl, rfl, rfl⟩ := hres
    refine WL_nil ?_
    refine ⟨_, [_, _, _, _], [], fun Z w hs => .nil, ?_, fun Z w hs => ((((hs.pick (.s (.s (.s (.s (.z)))))).pick (.s (.s (.z)))).pick (.s (.s (.s (.s (.z)))))).pick (.s (.s (.s (.z))))).out (List.Sublist.cons_cons _ (List.Sublist.cons_cons _ (List.Sublist.cons_cons _ (List.Sublist.cons_cons _ (List.Sublist.cons _ (List.Sublist.refl _)))))) (fun _ h => .tail _ h)⟩
    have hf : flushF s = ⟨s.rs ++ [(strOf s.bs, s.hid)], s.hid, []⟩ := by unfold flushF; rw [if_neg (by intro e; rw [e] at h4; simp at h4)]
    refine ⟨rfl, rfl, _, _, ?_, rfl⟩
    rw [hf]
    simp only [List.length_append, flatC_append, flatC_one]
    exact hr10
  · refine WC_skip (thenN (WC_region (WL_main rfl (OW_call1 (breset_s bB ad _) (.cons rfl (.nil)) (by decide) (.z) mem0 fun u2_0 Lo fs hres => ?_))))
    obtain ⟨rfl, rfl, rfl⟩ := hres
    refine WL_nil ?_
    refine ⟨_, [_, _, _, _], [], fun Z w hs => .nil, ?_, fun Z w hs => hs.out (List.Sublist.cons_cons _ (List.Sublist.cons _ (List.Sublist.cons_cons _ (List.Sublist.cons_cons _ (List.Sublist.cons_cons _ (List.Sublist.refl _)))))) (fun _ h => h)⟩
    have hb0 : s.bs = [] := by simpa using h4
    have hf : flushF s = s := by unfold flushF; rw [if_pos hb0]
    refine ⟨rfl, rfl, _, _, ?_, rfl⟩
    rw [hf]; exact hs.rr

theorem rune_open (u : Int) : ∀ Z w cs, runeD.rep Z w u cs → ∃ y : Unit, cs = [.int .i32 u] ∧ ∀ B ∈ ([] : List Fact), B.holds Z w := fun _ _ _ h => ⟨(), h, fun _ h => by cases h⟩

set_option maxRecDepth 10000 in
theorem rcb_s (bB bR bH bF : Nat) (s : RS) (ad : Option Addr) (v : Value) (p : Part) (rv : Value) (rp : Part) (hs : RunS bB s ad v p rv rp) (n : Nat) (hB : RsB s n) (hn : n ≤ 2097152) (x : Int) (rs : List Int) (hid : Int) (A : Option Addr) (c : Nat) (hl : rs.length ≤ 2097152) : Sp Tryd.prog 56 [.int .i64 x, pcV rs hid A c, .pointer (some ⟨bH, 0, none⟩), .pointer (some ⟨bF, 0, none⟩), .pointer (some ⟨bB, 0, none⟩)] [blP bB ad v, p, rcP bR rv, rp, hcP bH s.hid, fcP bF bB bR bH] [RdF runeD A c rs] (fun u Lo fs => u = .bool true ∧ fs = [] ∧ ∃ ad' v' p' rv' rp', RunS bB (pieceF s rs hid) ad' v' p' rv' rp' ∧ Lo = rnL bB bR bH bF ad' v' p' rv' rp' hid) := by
  have hbt := hB.turn hid
  have hbl := hbt.bl
  refine Sp.of (n := 28) ⟨_, Tryd.func56, rfl, rfl, rfl, rfl⟩ (Nat.le_of_ble_eq_true rfl) fun Ps As => WC_seq (WC_region (WL_main rfl (OW_box (cs := [_, _]) rfl rfl (by decide) fun b6 => Lq (q_assign rfl) (WL_nil (thenN ?_)))))
  refine WC_meet (α := RS × Option Addr × Value × Part × Value × Part)
    (fun (t, ad4, v4, p4, rv4, rp4) => [(4, .pointer (some ⟨bB, 0, none⟩)), (6, .pointer (some ⟨b6, 0, none⟩))])
    (fun (t, ad4, v4, p4, rv4, rp4) => ([(b6, cellsO (pcC rs hid A c) 118)] :: blP bB ad4 v4 :: p4 :: rcP bR rv4 :: rp4 :: hcP bH hid :: fcP bF bB bR bH :: Ps))
    (fun (t, ad4, v4, p4, rv4, rp4) => (RdF runeD A c rs :: As))
    (fun (t, ad4, v4, p4, rv4, rp4) => RunS bB t ad4 v4 p4 rv4 rp4 ∧ t = turnR s hid) ?_ ?_
  · refine WC_seq (WC_region (Lq (q_field (o' := 1) Tryd.underlying118 rfl ti3 rfl rfl) (Lq (q_load1 Tryd.underlying3 rfl rfl own0 rfl) (Lq (q_load1 Tryd.underlying3 rfl rfl (ownS (ownS (ownS (ownS (ownS (own0)))))) rfl) (Lq (q_neq rfl rfl) (WL_nil (thenN (WC_cond rfl (fun h13 => ?_) (fun h13 => ?_)))))))))
    · refine WC_seq (WC_pick (.s (.s (.s (.s (.s (.z)))))) (WC_pick (.s (.s (.s (.s (.s (.z)))))) (WC_pick (.s (.s (.s (.s (.s (.z)))))) (WC_pick (.s (.s (.s (.s (.s (.z)))))) (WC_pick (.s (.s (.s (.s (.s (.z)))))) (WC_region (Lq (q_load1 Tryd.underlying1 rfl rfl (ownS (ownS (ownS (ownS (ownS (ownS (own0))))))) rfl) (WL_main rfl (OW_callV (caps := [_, _, _]) rfl (flush_s bB bR bH s ad v p rv rp hs hB.by_ (by have := hB.bl; omega) (by have := hB.rl; omega)) .nil (by decide) (List.Perm.refl _) mem0 fun u2 Lo fs hres => ?_)))))))))
      obtain ⟨rfl, rfl, rv2, rp2, hr2, rfl⟩ := hres
      refine WL_nil (thenN (WC_nilPart (WC_pick (.s (.s (.s (.s (.z))))) (WC_pick (.s (.s (.s (.s (.z))))) (WC_pick (.s (.s (.s (.s (.z))))) (WC_pick (.s (.s (.s (.z)))) (WC_pick (.s (.s (.s (.s (.z))))) (WC_pick (.s (.s (.s (.s (.s (.z)))))) (WC_region (Lq (q_field (o' := 1) Tryd.underlying118 rfl ti3 rfl rfl) ?_))))))))))
      refine Lq (q_load1 Tryd.underlying3 rfl rfl own0 rfl) (WL_main rfl (OW_store1 ti3 rfl rfl rfl (.z) (.s (.s (.s (.s (.s (.z)))))) (WL_nil (thenK ?_))))
      refine ⟨({ flushF s with hid := hid }, none, .slice none 0 0, [], rv2, rp2), ?_, (.cons rfl (.cons rfl (.nil _))), (List.Sublist.cons_cons _ (List.Sublist.cons_cons _ (List.Sublist.cons_cons _ (List.Sublist.cons_cons _ (List.Sublist.cons_cons _ (List.Sublist.cons_cons _ (List.Sublist.cons_cons _ (List.Sublist.refl _)))))))), (fun _ h => h)⟩
      refine ⟨⟨.inl rfl, ?_, hr2⟩, ?_⟩
      · show Row 5 1 _ (flushF s).bs.length (ints .u8 (flushF s).bs) _
        rw [flush_bs]; exact Row.nil 5 1
      · unfold turnR; rw [if_neg (by simpa using h13)]
    · refine WC_skip (thenK ?_)
      obtain rfl : hid = s.hid := by simpa using h13
      refine ⟨(s, ad, v, p, rv, rp), ?_, (.cons rfl (.cons rfl (.nil _))), (List.Sublist.cons_cons _ (List.Sublist.cons_cons _ (List.Sublist.cons_cons _ (List.Sublist.cons_cons _ (List.Sublist.cons_cons _ (List.Sublist.cons_cons _ (List.Sublist.cons_cons _ (List.Sublist.refl _)))))))), (fun _ h => h)⟩
      exact ⟨hs, (turnR_same rfl).symm⟩
  · rintro ⟨t, ad4, v4, p4, rv4, rp4⟩ hM
    have htb : t.bs.length ≤ 4 * n := by rw [hM.2]; exact hbl
    refine WC_seq (WC_seq (WC_region (Lq (q_field (o' := 0) Tryd.underlying118 rfl ti73 rfl rfl) (Lq (q_load1 Tryd.underlying73 rfl rfl own0 rfl) (Lq (q_len Tryd.underlying73 rfl) (Lq (q_move rfl) (WL_nil (thenN (WC_block ?_)))))))))
    refine WC_loopE (α := Nat × Option Addr × Value × Part) (fun (k, ad5, v5, p5) => rs.length - k)
      (fun (k, ad5, v5, p5) => [(4, .pointer (some ⟨bB, 0, none⟩)), (19, .slice A rs.length c), (20, .int .i64 rs.length), (21, .int .i64 k)])
      (fun (k, ad5, v5, p5) => (blP bB ad5 v5 :: p5 :: rcP bR rv4 :: rp4 :: hcP bH hid :: fcP bF bB bR bH :: Ps))
      (fun (k, ad5, v5, p5) => (RdF runeD A c rs :: As))
      (fun (k, ad5, v5, p5) => k ≤ rs.length ∧ (ad5 = none ∨ ad5 = some ⟨bB, 0, none⟩) ∧ Row 5 1 v5 (t.bs ++ (rs.take k).flatMap encI).length (ints .u8 (t.bs ++ (rs.take k).flatMap encI)) p5)
      (0, ad4, v4, p4) ?_ (.cons rfl (.cons rfl (.cons rfl (.cons rfl (.nil _))))) (List.Sublist.cons _ (List.Sublist.cons_cons _ (List.Sublist.cons_cons _ (List.Sublist.cons_cons _ (List.Sublist.cons_cons _ (List.Sublist.cons_cons _ (List.Sublist.cons_cons _ (List.Sublist.refl _)))))))) (fun _ h => h) ?_
    · refine ⟨Nat.zero_le _, hM.1.ad, ?_⟩
      rw [List.take_zero, List.flatMap_nil, List.append_nil]; exact hM.1.row
    · rintro ⟨k, ad5, v5, p5⟩ hI
      have hle := hI.1
      have hlb : (t.bs ++ (rs.take k).flatMap encI).length ≤ 1073741824 := by
        have h4 := flat_len4 (rs.take k)
        rw [List.length_take] at h4
        rw [List.length_append]; omega
      refine WC_seq (WC_region (Lq (q_lss rfl rfl) (WL_nil (thenN (WC_seq (WC_cond rfl (fun h22 => ?_) (fun h22 => ?_)))))))
      · refine WC_skip (thenN (WC_seq (WC_block (WC_seq ?_))))
        try simp only [Bp, Bq] at *
        have hk : k < rs.length := by omega
        refine WC_elem (k := k) (.head _) (List.getElem?_eq_getElem hk) (rune_open _) fun bx qx yx ex => ?_
        cases ex
        refine WC_region (Lq (q_idxRd Tryd.underlying73 ti21 rfl rfl (by omega) (by omega)) (Lq (q_loadF1 (j := 0) Tryd.underlying21 rfl rfl (.head _) rfl rfl) (Lq (q_assign rfl) (WL_nil (thenN (WC_region (Lq (q_move rfl) (WL_main rfl (OW_call2 (bwrite_s bB ad5 v5 (t.bs ++ (rs.take k).flatMap encI) p5 rs[k] hI.2.1 hI.2.2 hlb) (.cons rfl (.cons rfl (.nil))) (by decide) (.z) (.z) mem0 fun u7_1 Lo fs hres => ?_)))))))))
        obtain ⟨v6, p6, hr6, rfl, rfl⟩ := hres
        refine WL_nil (blockN (thenN (WC_region (Lq (q_add rfl rfl (wr64 (by omega)) (c := ((k + 1 : Nat) : Int))) (Lq (q_move rfl) (WL_nil (thenK ?_)))))))
        refine ⟨(k + 1, some ⟨bB, 0, none⟩, v6, p6), ?_, (.cons rfl (.cons rfl (.cons rfl (.cons rfl (.nil _))))), (List.Sublist.cons_cons _ (List.Sublist.cons_cons _ (List.Sublist.cons_cons _ (List.Sublist.cons_cons _ (List.Sublist.cons_cons _ (List.Sublist.cons_cons _ (List.Sublist.refl _))))))), (fun _ h => .tail _ h)⟩
        refine ⟨by show rs.length - (k + 1) < rs.length - k; omega, by omega, .inr rfl, ?_⟩
        have e : t.bs ++ (rs.take (k + 1)).flatMap encI = t.bs ++ (rs.take k).flatMap encI ++ encI rs[k] := by rw [List.take_succ_eq_append_getElem hk, List.flatMap_append, List.append_assoc]; simp
        rw [e]; exact hr6
      · refine WC_exit (thenExit (thenExit (blockHit (thenN (WC_seq (WC_region (Lq (q_assign rfl) (WL_nil (thenN (WC_ret ?_))))))))))
        refine ⟨_, [_, _, _, _, _, _], [], fun Z w hs => .tmp rfl (.nil), ?_, fun Z w hs => hs.out (List.Sublist.cons_cons _ (List.Sublist.cons_cons _ (List.Sublist.cons_cons _ (List.Sublist.cons_cons _ (List.Sublist.cons_cons _ (List.Sublist.cons_cons _ (List.Sublist.refl _))))))) (fun _ h => h)⟩
        simp only [decide_eq_false_iff_not] at h22
        obtain rfl : k = rs.length := by omega
        have hrow := hI.2.2
        rw [List.take_length] at hrow
        refine ⟨rfl, rfl, ad5, v5, p5, rv4, rp4, ⟨hI.2.1, ?_, ?_⟩, rfl⟩
        · show Row 5 1 v5 ((turnR s hid).bs ++ rs.flatMap encI).length (ints .u8 ((turnR s hid).bs ++ rs.flatMap encI)) p5
          rw [← hM.2]; exact hrow
        · show Row 127 2 rv4 (turnR s hid).rs.length (flatC runC (turnR s hid).rs) rp4
          rw [← hM.2]; exact hM.1.rr

end Go.Proofs.YtggdddkbhigjoaaDoor
/- Walks: rope.walk. -/
namespace Go.Proofs.YtggdddkbhigjoaaDoor
open Go Go.GW
theorem WC_nodeT {P : Program} {n : Nat} {R : Post} {l : Fr} {Ps : List Part} {As : List Fact} {c : Code} {A : Option Addr} {t : Tr} (hA : TrF A t ∈ As) (ht : t ≠ .nil)
    (h : ∀ (b : Nat) (Al Ar Ac : Option Addr) (rs : List Int) (cc : Nat) (hid plus : Int), A = some ⟨b, 0, none⟩ → WC P n c R l Ps (FzA b 0 (ndC (allF t) Al Ar Ac rs cc hid plus) :: As)) : WC P n c R l Ps As := by
  cases t with
  | nil => exact absurd rfl ht
  | nd s lt rs hid rt plus =>
    intro Z w a hs ha
    obtain ⟨b, Al, Ar, Ac, cc, e, g1, g2, g3, g4, g5⟩ : trRep Z w (.nd s lt rs hid rt plus) A := hs.facts _ hA
    exact h b Al Ar Ac rs cc hid plus e Z w a (hs.addFact (A := FzA b 0 (ndC s Al Ar Ac rs cc hid plus)) ⟨g1, g2⟩) ha
theorem wf_pos {t : Tr} (hw : Wf t) (ht : t ≠ .nil) : 0 < t.row.length := by
  cases t with
  | nil => exact absurd rfl ht
  | nd s l rs hid r plus =>
    have h := List.length_pos_iff.2 hw.opened.ne
    simp only [Tr.row, up_length, List.length_append, cellsOf_length]; omega
/-- What a walk's callback does. -/
def CbOk (fn : FuncId) (caps : List Value) (I : List Ce → Part → Prop) (B : Nat) : Prop := ∀ (X : List Ce) (q : Part) (x : Int) (rs : List Int) (hid : Int) (A : Option Addr) (c : Nat), I X q → rs ≠ [] → X.length + rs.length ≤ B → Sp Tryd.prog fn ([.int .i64 x, pcV rs hid A c] ++ caps) [q] [RdF runeD A c rs] (fun v Lo fs => v = .bool true ∧ fs = [] ∧ ∃ q', Lo = [q'] ∧ I (X ++ cellsOf rs hid) q')
def WkP (I : List Ce → Part → Prop) (X : List Ce) : Value → List Part → List Fact → Prop := fun v Lo fs => v = .bool true ∧ fs = [] ∧ ∃ q', Lo = [q'] ∧ I X q'

set_option maxRecDepth 10000 in
theorem walk_0 (fn : FuncId) (caps : List Value) (I : List Ce → Part → Prop) (X : List Ce) (q : Part) (x : Int) (hI : I X q) : Sp Tryd.prog 55 [.pointer none, .int .i64 x, .int .i64 0, .func (.func fn) #[] caps.toArray] [q] [TrF none .nil] (WkP I X) := by
  refine Sp.of (n := 66) ⟨_, Tryd.func55, rfl, rfl, rfl, rfl⟩ (Nat.le_of_ble_eq_true rfl) fun Ps As => WC_seq (WC_region (Lq (q_assign rfl) (WL_nil (thenN (WC_seq (WC_seq (WC_region (Lq (q_move rfl) (Lq (q_peql Tryd.underlying113 rfl rfl (by simp)) (Lq (q_move rfl) (Ln rfl rfl rfl rfl (Ln rfl rfl rfl rfl (Ln rfl rfl rfl rfl ?_)))))))))))))
  refine Ln rfl rfl rfl rfl (Ln rfl rfl rfl rfl (Ln rfl rfl rfl rfl (Ln rfl rfl rfl rfl (Ln rfl rfl rfl rfl (Ln rfl rfl rfl rfl (Lq (q_pickT rfl rfl rfl) (WL_nil (thenN (WC_fr [(25, _), (8, _), (0, _), (1, _), (2, _), (3, _)] (.cons rfl (.cons rfl (.cons rfl (.cons rfl (.cons rfl (.cons rfl (.nil _))))))) (WC_true rfl rfl (WC_seq (WC_region ?_))))))))))))
  refine Lq (q_assign rfl) (WL_nil (thenN (WC_ret (thenRet ?_))))
  refine ⟨_, [_], [], fun Z w hs => .tmp rfl (.nil), ?_, fun Z w hs => hs.out (List.Sublist.cons_cons _ (List.Sublist.refl _)) (fun _ h => h)⟩
  exact ⟨rfl, rfl, _, rfl, hI⟩

theorem fd112_0Xw48 (x0 : Int) (x1 : Int) (x2 : Int) (x3 : Int) (x4 : Int) (x5 : Int) (w : World) : (Instr.field 112 (.agg #[.int .i64 x0, .int .i64 x1, .int .i64 x2, .int .i64 x3, .int .i64 x4, .int .i64 x5]) 0).run Tryd.prog w = .ok (.int .i64 x0) w := by kernel_rfl

set_option maxRecDepth 10000 in
theorem walk_n (fn : FuncId) (caps : List Value) (I : List Ce → Part → Prop) (B : Nat) (hB : B ≤ 1073741824) (hcb : CbOk fn caps I B) (N : Nat) : ∀ (A : Option Addr) (t : Tr) (X : List Ce) (q : Part) (wt : Wf t), t.size ≤ N → X.length + t.row.length ≤ B → I X q → Sp Tryd.prog 55 [.pointer A, .int .i64 X.length, .int .i64 0, .func (.func fn) #[] caps.toArray] [q] [TrF A t] (WkP I (X ++ t.row)) := by
  induction N using Nat.strongRecOn
  rename_i N ih
  intro A t X q wt hN hb hI
  by_cases nt : t = .nil
  · subst nt
    have h0 := walk_0 fn caps I (X ++ []) q X.length (by rw [List.append_nil]; exact hI)
    refine ⟨h0.enters, fun Z w Ps As hs => ?_⟩
    obtain rfl : A = none := hs.facts _ (by simp : TrF A .nil ∈ [TrF A .nil] ++ As)
    exact h0.calls Z w Ps As hs
  have hpos := wf_pos wt nt
  refine Sp.of (n := 66) ⟨_, Tryd.func55, rfl, rfl, rfl, rfl⟩ (Nat.le_of_ble_eq_true rfl) fun Ps As => WC_nodeT (.head _) nt fun b Al Ar Ac rs0 cc hid0 plus0 e => ?_
  cases e
  refine WC_seq (WC_region (Lq (q_assign rfl) (WL_nil (thenN (WC_seq (WC_seq (WC_region (Lq (q_move rfl) (Lq (q_peql Tryd.underlying113 rfl rfl (by simp)) (Lq (q_move rfl) (Lg rfl rfl rfl rfl (q_move rfl) (Lg rfl rfl rfl rfl (q_move rfl) (Lg rfl rfl rfl rfl (q_nil rfl) (Lg rfl rfl rfl rfl (q_field (o' := _ + 0) Tryd.underlying150 rfl ti112 rfl rfl) ?_))))))))))))))
  refine Lg rfl rfl rfl rfl (q_field (o' := _ + 0) Tryd.underlying112 rfl ti3 rfl rfl) (Lg rfl rfl rfl rfl (q_loadF1 (j := 0) Tryd.underlying3 rfl rfl (.head _) rfl rfl) (Lg rfl rfl rfl rfl (q_add rfl rfl (by rw [wt.tot]; exact wr64 (by omega)) (c := ((X.length + t.row.length : Nat) : Int))) (Lg rfl rfl rfl rfl (q_move rfl) (Lg rfl rfl rfl rfl (q_leq rfl rfl) (Lq (q_pickF rfl rfl rfl) (WL_nil (thenN (WC_false rfl (by simp; omega) (WC_skip (thenN (WC_seq (WC_region (Lq (q_move rfl) ?_)))))))))))))
  refine WL_main rfl (OW_call0 (open_r (some ⟨b, 0, none⟩) t wt nt (by omega)) (.cons rfl (.nil)) (by decide) (memc (.tail _ (.head _)) mem0) fun u3_1 Lo fs hres => ?_)
  obtain ⟨B1, l1, s1, k1, C1, d1, D1, m1, rfl, rfl, rfl, wl1, wm1, n1, h1, r1, zl1, zm1⟩ := hres
  have e1 := congrArg List.length r1
  simp only [List.length_append, cellsOf_length] at e1
  have n1p := List.length_pos_iff.2 n1
  refine Lq (q_move rfl) (Lq (q_extract (vs := [_, _, _]) rfl rfl) (Lq (q_extract (vs := [_, _, _]) rfl rfl) (Lq (q_extract (vs := [_, _, _]) rfl rfl) (WL_main rfl (OW_alloc (cs := [_, _]) ti118 rfl (by decide) fun b10 => Lq (q_assign rfl) (WL_main rfl (OW_storeN (cs' := [_, _]) (vs := [_, _]) ti118 rfl rfl rfl rfl rfl (Nat.le_of_ble_eq_true rfl) (.z) (Lq (q_assign rfl) (WL_nil (thenN (WC_seq (WC_seq (WC_region (Lq (q_move rfl) ?_))))))))))))))
  refine Lq (q_move rfl) (Lq (q_move rfl) (Lq (q_move rfl) (WL_main rfl (OW_call1 (ih l1.size (by omega) B1 l1 X q wl1 (Nat.le_refl _) (by omega) hI) (.cons rfl (.cons rfl (.cons rfl (.cons rfl (.nil))))) (by decide) (.s (.z)) (memc (.head _) mem0) fun u4_4 Lo fs hres => ?_))))
  obtain ⟨rfl, rfl, q1, rfl, hI1⟩ := hres
  refine Lq (q_not rfl) (WL_nil (thenN (WC_false rfl rfl (WC_skip (thenN (WC_seq (WC_region (Lq (q_move rfl) (Lq (q_move rfl) (WL_main rfl (OW_call0 (all_s B1 l1) (.cons rfl (.nil)) (by decide) (memc (.head _) mem0) fun u6_2 Lo fs hres => ?_)))))))))))
  obtain ⟨rfl, rfl, rfl⟩ := hres
  refine Lq (q_part rfl (fd112_0Xw48 _ _ _ _ _ _)) (Lq (q_add rfl rfl (by rw [wl1.tot]; exact wr64 (by omega)) (c := ((X.length + l1.row.length : Nat) : Int))) (Lq (q_assign rfl) (WL_nil (thenN (WC_seq (WC_seq (WC_pick (.z) (WC_region (Lq (q_move rfl) (Lq (q_field (o' := 0) Tryd.underlying118 rfl ti73 rfl rfl) (Lq (q_load1 Tryd.underlying73 rfl rfl (ownS (own0)) rfl) (Lq (q_len Tryd.underlying73 rfl) ?_))))))))))))
  refine Lq (q_add rfl rfl (wr64 (by omega)) (c := ((X.length + l1.row.length + s1.length : Nat) : Int))) (Lq (q_move rfl) (Lq (q_gtr rfl rfl) (Lq (q_move rfl) (Lg rfl rfl rfl (by simp; omega) (q_move rfl) (Lg rfl rfl rfl (by simp; omega) (q_move rfl) (Lg rfl rfl rfl (by simp; omega) (q_loadN (vs := [_, _]) Tryd.underlying118 rfl ti118 rfl (ownS (own0)) rfl rfl) (WL_gmain rfl rfl rfl (by simp; omega) (OW_callV (caps := caps) rfl (hcb (X ++ l1.row) q1 _ s1 k1 C1 d1 hI1 n1 (by rw [List.length_append]; omega)) (.cons rfl (.cons rfl .nil)) (by decide) (List.Perm.refl _) (memc (.tail _ (.head _)) mem0) fun u7 Lo fs hres => ?_))))))))
  obtain ⟨rfl, rfl, q2, rfl, hI2⟩ := hres
  refine Lg rfl rfl rfl (by simp; omega) (q_not rfl) (Lq (q_pickT rfl (by simp; omega) rfl) (WL_nil (thenN (WC_fr [(56, _), (12, _), (11, _), (10, _), (8, _), (2, _), (3, _)] (.cons rfl (.cons rfl (.cons rfl (.cons rfl (.cons rfl (.cons rfl (.cons rfl (.nil _)))))))) (WC_false rfl rfl (WC_skip (thenN (WC_seq (WC_region (Lq (q_move rfl) (Lq (q_move rfl) (Lq (q_field (o' := 0) Tryd.underlying118 rfl ti73 rfl rfl) (Lq (q_load1 Tryd.underlying73 rfl rfl (ownS (own0)) rfl) (Lq (q_len Tryd.underlying73 rfl) ?_))))))))))))))
  refine Lq (q_add rfl rfl (by rw [show (X ++ l1.row ++ cellsOf s1 k1).length = X.length + l1.row.length + s1.length from by rw [List.length_append, List.length_append, cellsOf_length]]; exact wr64 (by omega)) (c := (((X ++ l1.row ++ cellsOf s1 k1).length : Nat) : Int))) (Lq (q_move rfl) (Lq (q_move rfl) (WL_main rfl (OW_call1 (ih m1.size (by omega) D1 m1 (X ++ l1.row ++ cellsOf s1 k1) q2 wm1 (Nat.le_refl _) (by rw [List.length_append, List.length_append, cellsOf_length]; omega) hI2) (.cons rfl (.cons rfl (.cons rfl (.cons rfl (.nil))))) (by decide) (.z) (memc (.tail _ (.tail _ (.head _))) mem0) fun u9_8 Lo fs hres => ?_))))
  obtain ⟨rfl, rfl, q3, rfl, hI3⟩ := hres
  refine Lq (q_assign rfl) (WL_nil (thenN (WC_ret ?_)))
  refine ⟨_, [_], [], fun Z w hs => .tmp rfl (.nil), ?_, fun Z w hs => hs.out (List.Sublist.cons_cons _ (List.Sublist.cons _ (List.Sublist.refl _))) (fun _ h => .tail _ (.tail _ (.tail _ (.tail _ h))))⟩
  refine ⟨rfl, rfl, q3, rfl, ?_⟩
  rw [r1, ← List.append_assoc, ← List.append_assoc]; exact hI3

end Go.Proofs.YtggdddkbhigjoaaDoor
/- Walks: what Text calls. -/
namespace Go.Proofs.YtggdddkbhigjoaaDoor
open Go Go.GW
set_option maxRecDepth 10000 in
theorem shown_s (s : Sm) : Sp Tryd.prog 104 [smV s] [] [] (Is (.int .i64 (shownF s))) := by
  refine Sp.of (n := 8) ⟨_, Tryd.func104, rfl, rfl, rfl, rfl⟩ (Nat.le_of_ble_eq_true rfl) fun Ps As => WC_seq (WC_region (WL_main rfl (OW_box (cs := [_, _, _, _, _, _]) rfl rfl (by decide) fun b1 => Lq (q_assign rfl) (WL_nil (thenN (WC_seq (WC_seq (WC_region (Lq (q_field (o' := 3) Tryd.underlying112 rfl ti3 rfl rfl) (Lq (q_load1 Tryd.underlying3 rfl rfl own0 rfl) (Lq (q_eql rfl rfl) (WL_nil (thenN (WC_cond rfl (fun h5 => ?_) (fun h5 => ?_)))))))))))))))
  · refine WC_seq (WC_region (Lq (q_field (o' := 4) Tryd.underlying112 rfl ti3 rfl rfl) (Lq (q_load1 Tryd.underlying3 rfl rfl own0 rfl) (Lq (q_assign rfl) (WL_nil (thenN (WC_ret (thenRet ?_))))))))
    refine ⟨_, [], [], fun Z w hs => .tmp rfl (.nil), ?_, fun Z w hs => hs.out (List.Sublist.cons _ (List.Sublist.refl _)) (fun _ h => h)⟩
    try simp only [Bp, Bq] at *
    exact ⟨congrArg (Value.int .i64) (by unfold shownF; first | rw [if_pos h5] | rw [if_neg h5]), rfl, rfl⟩
  · refine WC_skip (thenN (WC_seq (WC_region (Lq (q_assign rfl) (WL_nil (thenN (WC_ret ?_)))))))
    refine ⟨_, [], [], fun Z w hs => .tmp rfl (.nil), ?_, fun Z w hs => hs.out (List.Sublist.cons _ (List.Sublist.refl _)) (fun _ h => h)⟩
    try simp only [Bp, Bq] at *
    exact ⟨congrArg (Value.int .i64) (by unfold shownF; first | rw [if_pos h5] | rw [if_neg h5]), rfl, rfl⟩


set_option maxRecDepth 10000 in
theorem rshown_s (b : Nat) (A : Option Addr) (t : Tr) (wt : Wf t) : Sp Tryd.prog 88 [.pointer (some ⟨b, 0, none⟩)] [rpP b A] [TrF A t] (fun v Lo fs => v = .int .i64 (visN t.row : Nat) ∧ Lo = [rpP b A] ∧ fs = []) := by
  refine Sp.of (n := 9) ⟨_, Tryd.func88, rfl, rfl, rfl, rfl⟩ (Nat.le_of_ble_eq_true rfl) fun Ps As => WC_seq (WC_region (Lq (q_assign rfl) (WL_nil (thenN (WC_seq (WC_region (Lq (q_move rfl) (Lq (q_nil rfl) (Lq (q_field (o' := 0) Tryd.underlying115 rfl ti113 rfl rfl) (Lq (q_load1 Tryd.underlying113 rfl rfl own0 rfl) (WL_main rfl (OW_call0 (all_s A t) (.cons rfl (.nil)) (by decide) (memc (.head _) mem0) fun u1_4 Lo fs hres => ?_))))))))))))
  obtain ⟨rfl, rfl, rfl⟩ := hres
  refine WL_main rfl (OW_call0 (shown_s (allF t)) (.cons rfl (.nil)) (by decide) mem0 fun u1_5 Lo fs hres => ?_)
  obtain ⟨rfl, rfl, rfl⟩ := hres
  refine Lq (q_assign rfl) (WL_nil (thenN (WC_ret ?_)))
  refine ⟨_, [_], [], fun Z w hs => .tmp rfl (.nil), ?_, fun Z w hs => hs.out (List.Sublist.cons_cons _ (List.Sublist.refl _)) (fun _ h => h)⟩
  exact ⟨congrArg (Value.int .i64) wt.shown, rfl, rfl⟩

theorem fd112_0Xw53 (x0 : Int) (x1 : Int) (x2 : Int) (x3 : Int) (x4 : Int) (x5 : Int) (w : World) : (Instr.field 112 (.agg #[.int .i64 x0, .int .i64 x1, .int .i64 x2, .int .i64 x3, .int .i64 x4, .int .i64 x5]) 0).run Tryd.prog w = .ok (.int .i64 x0) w := by kernel_rfl

set_option maxRecDepth 10000 in
theorem totalOf_s (b : Nat) (A : Option Addr) (t : Tr) (wt : Wf t) (hb : t.row.length ≤ 1048576) (h0 : 0 < visN t.row) : Sp Tryd.prog 108 [.pointer (some ⟨b, 0, none⟩), .int .i64 0] [rpP b A] [TrF A t] (fun v Lo fs => ∃ k : Nat, Fst t.row k ∧ v = .tuple #[.int .i64 k, .int .i64 0] ∧ Lo = [rpP b A] ∧ fs = []) := by
  refine Sp.of (n := 73) ⟨_, Tryd.func108, rfl, rfl, rfl, rfl⟩ (Nat.le_of_ble_eq_true rfl) fun Ps As => WC_seq (WC_region (Lq (q_assign rfl) (Lq (q_assign rfl) (WL_nil (thenN (WC_seq (WC_seq (WC_region (Lq (q_move rfl) (Lq (q_lss rfl rfl) (Lq (q_move rfl) (Lg rfl rfl rfl rfl (q_move rfl) (Lg rfl rfl rfl rfl (q_move rfl) ?_)))))))))))))
  refine WL_gmain rfl rfl rfl rfl (OW_call1 (rshown_s b A t wt) (.cons rfl (.nil)) (by decide) (.z) (memc (.head _) mem0) fun u1_5 Lo fs hres => ?_)
  obtain ⟨rfl, rfl, rfl⟩ := hres
  refine Lg rfl rfl rfl rfl (q_gtr rfl rfl) (Lq (q_pickF rfl rfl rfl) (WL_nil (thenN (WC_false rfl (by simp) (WC_skip (thenN (WC_seq (WC_seq (WC_region (Lq (q_move rfl) (Lq (q_move rfl) (WL_main rfl (OW_call1 (rshown_s b A t wt) (.cons rfl (.nil)) (by decide) (.z) (memc (.head _) mem0) fun u3_2 Lo fs hres => ?_)))))))))))))
  obtain ⟨rfl, rfl, rfl⟩ := hres
  refine Lq (q_eql rfl rfl) (WL_nil (thenN (WC_false rfl (by simp; omega) (WC_skip (thenN (WC_seq (WC_region (Lq (q_assign rfl) (WL_nil (thenN (WC_seq (WC_region (Lq (q_move rfl) (Lq (q_nil rfl) (Lq (q_field (o' := 0) Tryd.underlying115 rfl ti113 rfl rfl) (Lq (q_load1 Tryd.underlying113 rfl rfl own0 rfl) ?_))))))))))))))))
  refine Lq (q_assign rfl) (WL_nil (thenN (WC_block ?_)))
  refine WC_loopE (α := Nat × Option Addr × Tr) (fun (k, D, z) => z.size)
    (fun (k, D, z) => [(0, .pointer (some ⟨b, 0, none⟩)), (1, .int .i64 0), (6, .int .i64 k), (7, .pointer D)])
    (fun (k, D, z) => (rpP b A :: Ps))
    (fun (k, D, z) => (TrF D z :: TrF A t :: As))
    (fun (k, D, z) => GoI t.row z k)
    (0, A, t) ?_ (.cons rfl (.cons rfl (.cons rfl (.cons rfl (.nil _))))) (List.Sublist.cons_cons _ (List.Sublist.refl _)) (memc (.head _) (fun _ h => h)) ?_
  · exact GoI.zero wt h0
  · rintro ⟨k, D, z⟩ hI
    have hbd := hI.bd
    refine WC_block (WC_seq (WC_region (Lq (q_move rfl) (WL_main rfl (OW_call0 (open_r D z hI.wf hI.ne (by omega)) (.cons rfl (.nil)) (by decide) (memc (.head _) mem0) fun u7_1 Lo fs hres => ?_)))))
    obtain ⟨B1, l1, s1, k1, C1, d1, D1, m1, rfl, rfl, rfl, wl1, wm1, n1, h1, r1, zl1, zm1⟩ := hres
    have e1 := congrArg List.length r1
    simp only [List.length_append, cellsOf_length] at e1
    have n1p := List.length_pos_iff.2 n1
    refine Lq (q_move rfl) (Lq (q_extract (vs := [_, _, _]) rfl rfl) (Lq (q_extract (vs := [_, _, _]) rfl rfl) (Lq (q_extract (vs := [_, _, _]) rfl rfl) (WL_main rfl (OW_alloc (cs := [_, _]) ti118 rfl (by decide) fun b9 => Lq (q_assign rfl) (WL_main rfl (OW_storeN (cs' := [_, _]) (vs := [_, _]) ti118 rfl rfl rfl rfl rfl (Nat.le_of_ble_eq_true rfl) (.z) (Lq (q_assign rfl) (WL_nil (thenN (WC_seq (WC_region (Lq (q_move rfl) ?_)))))))))))))
    refine WL_main rfl (OW_call0 (all_s B1 l1) (.cons rfl (.nil)) (by decide) (memc (.head _) mem0) fun u8_1 Lo fs hres => ?_)
    obtain ⟨rfl, rfl, rfl⟩ := hres
    refine WL_main rfl (OW_call0 (shown_s (allF l1)) (.cons rfl (.nil)) (by decide) mem0 fun u8_2 Lo fs hres => ?_)
    obtain ⟨rfl, rfl, rfl⟩ := hres
    rw [wl1.shown]
    refine Lq (q_assign rfl) (WL_nil (thenN (WC_seq (WC_seq (WC_region (Lq (q_move rfl) (Lq (q_move rfl) (Lq (q_lss rfl rfl) (WL_nil (thenN (WC_cond rfl (fun h41 => ?_) (fun h41 => ?_))))))))))))
    · refine WC_seq (WC_region (Lq (q_move rfl) (Lq (q_assign rfl) (WL_nil (thenN (WC_exit (thenExit (blockHit (thenK ?_)))))))))
      refine ⟨(k, B1, l1), ?_, (.cons rfl (.cons rfl (.cons rfl (.cons rfl (.nil _))))), (List.Sublist.cons _ (List.Sublist.cons_cons _ (List.Sublist.refl _))), (memc (.head _) (fun _ h => .tail _ (.tail _ (.tail _ (.tail _ h)))))⟩
      simp only [decide_eq_true_eq] at h41
      exact ⟨zl1, hI.left wl1 r1 (by omega)⟩
    · have hz : visN l1.row = 0 := by simp only [decide_eq_false_iff_not] at h41; omega
      refine WC_skip (thenN (WC_seq (WC_region (Lq (q_move rfl) (Lq (q_move rfl) (Lq (q_sub rfl rfl (by rw [hz]; exact wr64 (by omega)) (c := 0)) (Lq (q_assign rfl) (WL_nil (thenN (WC_seq (WC_region (Lq (q_move rfl) (Lq (q_move rfl) (WL_main rfl (OW_call0 (all_s B1 l1) (.cons rfl (.nil)) (by decide) (memc (.head _) mem0) fun u12_2 Lo fs hres => ?_)))))))))))))))
      obtain ⟨rfl, rfl, rfl⟩ := hres
      refine Lq (q_part rfl (fd112_0Xw53 _ _ _ _ _ _)) (Lq (q_add rfl rfl (by rw [wl1.tot]; exact wr64 (by omega)) (c := ((k + l1.row.length : Nat) : Int))) (Lq (q_assign rfl) (WL_nil (thenN (WC_seq (WC_seq (WC_region (Lq (q_field (o' := 1) Tryd.underlying118 rfl ti3 rfl rfl) (Lq (q_load1 Tryd.underlying3 rfl rfl own0 rfl) (Lq (q_eql rfl rfl) (WL_nil (thenN (WC_cond rfl (fun h53 => ?_) (fun h53 => ?_))))))))))))))
      · refine WC_seq (WC_seq (WC_region (Lq (q_move rfl) (Lq (q_field (o' := 0) Tryd.underlying118 rfl ti73 rfl rfl) (Lq (q_load1 Tryd.underlying73 rfl rfl own0 rfl) (Lq (q_len Tryd.underlying73 rfl) (Lq (q_lss rfl rfl) (WL_nil (thenN (WC_true rfl (by simp; omega) (WC_seq (WC_region (Lq (q_move rfl) ?_)))))))))))))
        refine Lq (q_move rfl) (Lq (q_add rfl rfl (wr64 (by omega)) (c := ((k + l1.row.length : Nat) : Int))) (Lq (q_assign rfl) (Lq (q_assign rfl) (WL_nil (thenN (WC_ret (thenRet (thenRet (blockRet (thenRet (blockRet ?_)))))))))))
        refine ⟨_, [_], [], fun Z w hs => .tmp rfl (.tmp rfl (.nil)), ?_, fun Z w hs => hs.out (List.Sublist.cons _ (List.Sublist.cons_cons _ (List.Sublist.refl _))) (fun _ h => .tail _ (.tail _ (.tail _ (.tail _ h))))⟩
        have hg := hI.own r1 hz
        exact ⟨_, hg, rfl, rfl, rfl⟩
      · refine WC_skip (thenN (WC_seq (WC_region (Lq (q_move rfl) (Lq (q_field (o' := 0) Tryd.underlying118 rfl ti73 rfl rfl) (Lq (q_load1 Tryd.underlying73 rfl rfl own0 rfl) (Lq (q_len Tryd.underlying73 rfl) (Lq (q_add rfl rfl (wr64 (by omega)) (c := ((k + l1.row.length + s1.length : Nat) : Int))) (Lq (q_assign rfl) (WL_nil (thenN (WC_region (Lq (q_move rfl) (Lq (q_assign rfl) ?_))))))))))))))
        refine WL_nil (blockN (thenK ?_))
        refine ⟨(k + l1.row.length + s1.length, D1, m1), ?_, (.cons rfl (.cons rfl (.cons rfl (.cons rfl (.nil _))))), (List.Sublist.cons _ (List.Sublist.cons_cons _ (List.Sublist.refl _))), (memc (.tail _ (.tail _ (.head _))) (fun _ h => .tail _ (.tail _ (.tail _ (.tail _ h)))))⟩
        have hk0 : k1 ≠ 0 := by simpa using h53
        have hg := hI.right wm1 r1 hz (cells_hid s1 hk0)
        rw [cellsOf_length] at hg
        exact ⟨zm1, hg⟩


set_option maxRecDepth 10000 in
theorem slice1_s (bB : Nat) (us : List Int) (ad : Option Addr) (v : Value) (p : Part) (had : ad = none ∨ ad = some ⟨bB, 0, none⟩) (hr : Row 5 1 v us.length (ints .u8 us) p) (hu : us.length ≤ 8388608) (x : Int) (rs : List Int) (A : Option Addr) (c : Nat) (hl : rs.length ≤ 2097152) : Sp Tryd.prog 103 [.int .i64 x, .slice A rs.length c, .pointer (some ⟨bB, 0, none⟩)] [blP bB ad v, p] [RdF runeD A c rs] (fun u Lo fs => u = .tuple #[] ∧ fs = [] ∧ ∃ ad' v' p', (ad' = none ∨ ad' = some ⟨bB, 0, none⟩) ∧ Row 5 1 v' (us ++ rs.flatMap encI).length (ints .u8 (us ++ rs.flatMap encI)) p' ∧ Lo = [blP bB ad' v', p']) := by
  refine Sp.of (n := 16) ⟨_, Tryd.func103, rfl, rfl, rfl, rfl⟩ (Nat.le_of_ble_eq_true rfl) fun Ps As => WC_seq (WC_region (Lq (q_move rfl) (Lq (q_len Tryd.underlying73 rfl) (Lq (q_move rfl) (WL_nil (thenN (WC_block ?_)))))))
  refine WC_loopE (α := Nat × Option Addr × Value × Part) (fun (k, ad5, v5, p5) => rs.length - k)
    (fun (k, ad5, v5, p5) => [(2, .pointer (some ⟨bB, 0, none⟩)), (7, .slice A rs.length c), (8, .int .i64 rs.length), (9, .int .i64 k)])
    (fun (k, ad5, v5, p5) => (blP bB ad5 v5 :: p5 :: Ps))
    (fun (k, ad5, v5, p5) => (RdF runeD A c rs :: As))
    (fun (k, ad5, v5, p5) => k ≤ rs.length ∧ (ad5 = none ∨ ad5 = some ⟨bB, 0, none⟩) ∧ Row 5 1 v5 (us ++ (rs.take k).flatMap encI).length (ints .u8 (us ++ (rs.take k).flatMap encI)) p5)
    (0, ad, v, p) ?_ (.cons rfl (.cons rfl (.cons rfl (.cons rfl (.nil _))))) (List.Sublist.cons_cons _ (List.Sublist.cons_cons _ (List.Sublist.refl _))) (fun _ h => h) ?_
  · refine ⟨Nat.zero_le _, had, ?_⟩
    rw [List.take_zero, List.flatMap_nil, List.append_nil]; exact hr
  · rintro ⟨k, ad5, v5, p5⟩ hI
    have hle := hI.1
    have hlb : (us ++ (rs.take k).flatMap encI).length ≤ 1073741824 := by
      have h4 := flat_len4 (rs.take k)
      rw [List.length_take] at h4
      rw [List.length_append]; omega
    refine WC_seq (WC_region (Lq (q_lss rfl rfl) (WL_nil (thenN (WC_seq (WC_cond rfl (fun h10 => ?_) (fun h10 => ?_)))))))
    · refine WC_skip (thenN (WC_seq (WC_block (WC_seq ?_))))
      try simp only [Bp, Bq] at *
      have hk : k < rs.length := by omega
      refine WC_elem (k := k) (.head _) (List.getElem?_eq_getElem hk) (rune_open _) fun bx qx yx ex => ?_
      cases ex
      refine WC_region (Lq (q_idxRd Tryd.underlying73 ti21 rfl rfl (by omega) (by omega)) (Lq (q_loadF1 (j := 0) Tryd.underlying21 rfl rfl (.head _) rfl rfl) (Lq (q_assign rfl) (WL_nil (thenN (WC_region (Lq (q_move rfl) (WL_main rfl (OW_call2 (bwrite_s bB ad5 v5 (us ++ (rs.take k).flatMap encI) p5 rs[k] hI.2.1 hI.2.2 hlb) (.cons rfl (.cons rfl (.nil))) (by decide) (.z) (.z) mem0 fun u3_1 Lo fs hres => ?_)))))))))
      obtain ⟨v6, p6, hr6, rfl, rfl⟩ := hres
      refine WL_nil (blockN (thenN (WC_region (Lq (q_add rfl rfl (wr64 (by omega)) (c := ((k + 1 : Nat) : Int))) (Lq (q_move rfl) (WL_nil (thenK ?_)))))))
      refine ⟨(k + 1, some ⟨bB, 0, none⟩, v6, p6), ?_, (.cons rfl (.cons rfl (.cons rfl (.cons rfl (.nil _))))), (List.Sublist.cons_cons _ (List.Sublist.cons_cons _ (List.Sublist.refl _))), (fun _ h => .tail _ h)⟩
      refine ⟨by show rs.length - (k + 1) < rs.length - k; omega, by omega, .inr rfl, ?_⟩
      have e : us ++ (rs.take (k + 1)).flatMap encI = us ++ (rs.take k).flatMap encI ++ encI rs[k] := by rw [List.take_succ_eq_append_getElem hk, List.flatMap_append, List.append_assoc]; simp
      rw [e]; exact hr6
    · refine WC_exit (thenExit (thenExit (blockHit ?_)))
      refine ⟨_, [_, _], [], fun Z w hs => .nil, ?_, fun Z w hs => hs.out (List.Sublist.cons_cons _ (List.Sublist.cons_cons _ (List.Sublist.refl _))) (fun _ h => h)⟩
      simp only [decide_eq_false_iff_not] at h10
      obtain rfl : k = rs.length := by omega
      have hrow := hI.2.2
      rw [List.take_length] at hrow
      exact ⟨rfl, rfl, ad5, v5, p5, hI.2.1, hrow, rfl⟩

end Go.Proofs.YtggdddkbhigjoaaDoor
/- Walks: rope.walk from a place on, and what between calls. -/
namespace Go.Proofs.YtggdddkbhigjoaaDoor
open Go Go.GW
theorem WC_cutAll {α : Type} {e : De α} {P : Program} {n : Nat} {R : Post} {l : Fr} {Ps : List Part} {As : List Fact} {c : Code} {A : Option Addr} {cap : Nat} {xs : List α} (hA : RdF e A cap xs ∈ As) (h : WC P n c R l Ps (RdF e (cutA A 0 cap e.sz) cap xs :: As)) : WC P n c R l Ps As := by
  have := fun h' => WC_cutHi (P := P) (n := n) (R := R) (l := l) (Ps := Ps) (c := c) xs.length hA (Nat.le_refl _) h'
  rw [List.take_length] at this
  exact this h
def clT (bB : Nat) : Value := .func (.func 103) #[] #[.pointer (some ⟨bB, 0, none⟩)]
abbrev seP (bS bB : Nat) : Part := [(bS, cellsO [clT bB] 183)]
def txtL (bF bL bS bB : Nat) (F : Nat) (left : Int) (ad : Option Addr) (v : Value) (p : Part) : List Part := [hcP bF F, hcP bL left, seP bS bB, blP bB ad v, p]
structure TxS (bB : Nat) (us : List Int) (ad : Option Addr) (v : Value) (p : Part) : Prop where
  ad : ad = none ∨ ad = some ⟨bB, 0, none⟩
  row : Row 5 1 v us.length (ints .u8 us) p
/-- While Text walks: X is behind us. -/
def TxI (bF bL bS bB : Nat) (F : Nat) (R X : List Ce) (q : Part) : Prop := ∃ ad v p, TxS bB (vbs X) ad v p ∧ q = (txtL bF bL bS bB F ((visN R : Int) - visN X) ad v p).flatten
def TxJ (bF bL bS bB : Nat) (F : Nat) (R : List Ce) (q : Part) : Prop := ∃ left ad v p, TxS bB (vbs R) ad v p ∧ q = (txtL bF bL bS bB F left ad v p).flatten

set_option maxRecDepth 10000 in
theorem btw_h (bF bL bS bB F : Nat) (left : Int) (ad : Option Addr) (v : Value) (p : Part) (x : Int) (rs : List Int) (hid : Int) (A : Option Addr) (c : Nat) (hh : 0 < hid) : Sp Tryd.prog 109 [.int .i64 x, pcV rs hid A c, .pointer (some ⟨bF, 0, none⟩), .pointer (some ⟨bL, 0, none⟩), .pointer (some ⟨bS, 0, none⟩)] (txtL bF bL bS bB F left ad v p) [RdF runeD A c rs] (fun u Lo fs => u = .bool true ∧ fs = [] ∧ Lo = txtL bF bL bS bB F left ad v p) := by
  refine Sp.of (n := 39) ⟨_, Tryd.func109, rfl, rfl, rfl, rfl⟩ (Nat.le_of_ble_eq_true rfl) fun Ps As => WC_seq (WC_region (WL_main rfl (OW_box (cs := [_, _]) rfl rfl (by decide) fun b6 => Lq (q_assign rfl) (WL_nil (thenN (WC_seq (WC_seq (WC_region (Lq (q_field (o' := 1) Tryd.underlying118 rfl ti3 rfl rfl) (Lq (q_load1 Tryd.underlying3 rfl rfl own0 rfl) (Lq (q_gtr rfl rfl) (WL_nil (thenN (WC_true rfl (by simpa using hh) ?_))))))))))))))
  refine WC_seq (WC_region (Lq (q_assign rfl) (WL_nil (thenN (WC_ret (thenRet ?_))))))
  refine ⟨_, [_, _, _, _, _], [], fun Z w hs => .tmp rfl (.nil), ?_, fun Z w hs => hs.out (List.Sublist.cons _ (List.Sublist.cons_cons _ (List.Sublist.cons_cons _ (List.Sublist.cons_cons _ (List.Sublist.cons_cons _ (List.Sublist.cons_cons _ (List.Sublist.refl _))))))) (fun _ h => h)⟩
  exact ⟨rfl, rfl, rfl⟩


set_option maxRecDepth 10000 in
theorem btw_v (bF bL bS bB F : Nat) (left : Int) (us : List Int) (ad : Option Addr) (v : Value) (p : Part) (hs : TxS bB us ad v p) (hu : us.length ≤ 8388608) (x : Nat) (rs : List Int) (A : Option Addr) (c : Nat) (hF : F ≤ x) (hx : x ≤ 1048576) (hl : rs.length ≤ 1048576) (hl2 : (rs.length : Int) ≤ left) (hl3 : left ≤ 1048576) : Sp Tryd.prog 109 [.int .i64 x, pcV rs 0 A c, .pointer (some ⟨bF, 0, none⟩), .pointer (some ⟨bL, 0, none⟩), .pointer (some ⟨bS, 0, none⟩)] (txtL bF bL bS bB F left ad v p) [RdF runeD A c rs] (fun u Lo fs => u = .bool (decide (left - rs.length > 0)) ∧ fs = [] ∧ ∃ ad' v' p', TxS bB (us ++ rs.flatMap encI) ad' v' p' ∧ Lo = txtL bF bL bS bB F (left - rs.length) ad' v' p') := by
  refine Sp.of (n := 39) ⟨_, Tryd.func109, rfl, rfl, rfl, rfl⟩ (Nat.le_of_ble_eq_true rfl) fun Ps As => WC_seq (WC_region (WL_main rfl (OW_box (cs := [_, _]) rfl rfl (by decide) fun b6 => Lq (q_assign rfl) (WL_nil (thenN (WC_seq (WC_seq (WC_region (Lq (q_field (o' := 1) Tryd.underlying118 rfl ti3 rfl rfl) (Lq (q_load1 Tryd.underlying3 rfl rfl own0 rfl) (Lq (q_gtr rfl rfl) (WL_nil (thenN (WC_false rfl rfl (WC_skip (thenN (WC_seq (WC_region (Lq (q_load1 Tryd.underlying3 rfl rfl (ownS (own0)) rfl) ?_)))))))))))))))))))
  refine Lq (q_move rfl) (Lq (q_sub rfl rfl (wr64 (by omega))) (Lq (q_max rfl rfl) (Lq (q_assign rfl) (WL_nil (thenN (WC_seq (WC_cap (.head _) fun hcap => WC_cutLo 0 (.head _) (Nat.zero_le _) ?_)))))))
  have hm0 : max (0 : Int) ((F : Int) - x) = 0 := by omega
  refine WC_region (Lq (q_field (o' := 0) Tryd.underlying118 rfl ti73 rfl rfl) (Lq (q_load1 Tryd.underlying73 rfl rfl own0 rfl) (Lq (q_move rfl) (Lq (q_cutLoE (j := 0) (m := rs.length) (by omega) (by omega) Tryd.underlying73 ti21 rfl rfl (by omega) (by omega)) (Lq (q_assign rfl) (WL_nil (thenN (WC_seq (WC_cutAll (.head _) ?_)))))))))
  have hmn : min left (rs.length : Int) = rs.length := by omega
  refine WC_region (Lq (q_move rfl) (Lq (q_load1 Tryd.underlying3 rfl rfl (ownS (ownS (own0))) rfl) (Lq (q_move rfl) (Lq (q_len Tryd.underlying73 rfl) (Lq (q_min rfl rfl) (Lq (q_cutHiE (m := rs.length) (by omega) Tryd.underlying73 ti21 rfl rfl (by omega) (by omega)) (Lq (q_assign rfl) (WL_nil (thenN (WC_seq (WC_pick (.s (.s (.s (.s (.s (.z)))))) ?_)))))))))))
  refine WC_pick (.s (.s (.s (.s (.s (.z)))))) (WC_region (Lq (q_load1 Tryd.underlying183 rfl rfl (ownS (ownS (ownS (ownS (ownS (own0)))))) rfl) (Lq (q_move rfl) (Lq (q_move rfl) (Lq (q_add rfl rfl (wr64 (by omega))) (Lq (q_move rfl) (WL_main rfl (OW_callV (caps := [_]) rfl (slice1_s bB us ad v p hs.ad hs.row hu _ rs _ _ (by omega)) (.cons rfl (.cons rfl .nil)) (by decide) (List.Perm.refl _) (memc (.head _) mem0) fun u6 Lo fs hres => ?_))))))))
  obtain ⟨rfl, rfl, ad2, v2, p2, had2, hr2, rfl⟩ := hres
  refine WL_nil (thenN (WC_seq (WC_region (Lq (q_load1 Tryd.underlying3 rfl rfl (ownS (ownS (ownS (ownS (own0))))) rfl) (Lq (q_move rfl) (Lq (q_len Tryd.underlying73 rfl) (Lq (q_sub rfl rfl (wr64 (by omega))) (WL_main rfl (OW_store1 ti3 rfl rfl rfl (.z) (.s (.s (.s (.s (.z))))) (WL_nil (thenN (WC_seq (WC_region (Lq (q_load1 Tryd.underlying3 rfl rfl (ownS (ownS (ownS (ownS (own0))))) rfl) (Lq (q_gtr rfl rfl) (Lq (q_assign rfl) ?_))))))))))))))))
  refine WL_nil (thenN (WC_ret ?_))
  refine ⟨_, [_, _, _, _, _], [], fun Z w hs => .tmp rfl (.nil), ?_, fun Z w hs => (((((hs.pick (.s (.z))).pick (.s (.z))).pick (.s (.s (.s (.s (.s (.z))))))).pick (.s (.s (.s (.s (.s (.z))))))).pick (.s (.s (.s (.s (.s (.z))))))).out (List.Sublist.cons_cons _ (List.Sublist.cons_cons _ (List.Sublist.cons_cons _ (List.Sublist.cons_cons _ (List.Sublist.cons_cons _ (List.Sublist.cons _ (List.Sublist.refl _))))))) (fun _ h => .tail _ (.tail _ h))⟩
  exact ⟨rfl, rfl, ad2, v2, p2, ⟨had2, hr2⟩, rfl⟩

def CbF (fn : FuncId) (caps : List Value) (I : List Ce → Part → Prop) (J : Part → Prop) (R : List Ce) (lo : Nat) : Prop := ∀ (X : List Ce) (q : Part) (rs : List Int) (hid : Int) (A : Option Addr) (c : Nat), I X q → rs ≠ [] → 0 ≤ hid → X ++ cellsOf rs hid <+: R → lo < X.length + rs.length → Sp Tryd.prog fn ([.int .i64 X.length, pcV rs hid A c] ++ caps) [q] [RdF runeD A c rs] (fun v Lo fs => fs = [] ∧ ∃ q', Lo = [q'] ∧ ((v = .bool true ∧ I (X ++ cellsOf rs hid) q') ∨ (v = .bool false ∧ J q')))
def WkF (I : List Ce → Part → Prop) (J : Part → Prop) (X : List Ce) : Value → List Part → List Fact → Prop := fun v Lo fs => fs = [] ∧ ∃ q', Lo = [q'] ∧ ((v = .bool true ∧ I X q') ∨ (v = .bool false ∧ J q'))

set_option maxRecDepth 10000 in
theorem walkf_0 (fn : FuncId) (caps : List Value) (I : List Ce → Part → Prop) (J : Part → Prop) (X : List Ce) (q : Part) (x y : Int) (hI : I X q) : Sp Tryd.prog 55 [.pointer none, .int .i64 x, .int .i64 y, .func (.func fn) #[] caps.toArray] [q] [TrF none .nil] (WkF I J X) := by
  refine Sp.of (n := 66) ⟨_, Tryd.func55, rfl, rfl, rfl, rfl⟩ (Nat.le_of_ble_eq_true rfl) fun Ps As => WC_seq (WC_region (Lq (q_assign rfl) (WL_nil (thenN (WC_seq (WC_seq (WC_region (Lq (q_move rfl) (Lq (q_peql Tryd.underlying113 rfl rfl (by simp)) (Lq (q_move rfl) (Ln rfl rfl rfl rfl (Ln rfl rfl rfl rfl (Ln rfl rfl rfl rfl ?_)))))))))))))
  refine Ln rfl rfl rfl rfl (Ln rfl rfl rfl rfl (Ln rfl rfl rfl rfl (Ln rfl rfl rfl rfl (Ln rfl rfl rfl rfl (Ln rfl rfl rfl rfl (Lq (q_pickT rfl rfl rfl) (WL_nil (thenN (WC_fr [(25, _), (8, _), (0, _), (1, _), (2, _), (3, _)] (.cons rfl (.cons rfl (.cons rfl (.cons rfl (.cons rfl (.cons rfl (.nil _))))))) (WC_true rfl rfl (WC_seq (WC_region ?_))))))))))))
  refine Lq (q_assign rfl) (WL_nil (thenN (WC_ret (thenRet ?_))))
  refine ⟨_, [_], [], fun Z w hs => .tmp rfl (.nil), ?_, fun Z w hs => hs.out (List.Sublist.cons_cons _ (List.Sublist.refl _)) (fun _ h => h)⟩
  exact ⟨rfl, _, rfl, .inl ⟨rfl, hI⟩⟩

theorem fd112_0Xw54 (x0 : Int) (x1 : Int) (x2 : Int) (x3 : Int) (x4 : Int) (x5 : Int) (w : World) : (Instr.field 112 (.agg #[.int .i64 x0, .int .i64 x1, .int .i64 x2, .int .i64 x3, .int .i64 x4, .int .i64 x5]) 0).run Tryd.prog w = .ok (.int .i64 x0) w := by kernel_rfl

set_option maxRecDepth 10000 in
theorem walk_f (fn : FuncId) (caps : List Value) (I : List Ce → Part → Prop) (J : Part → Prop) (R : List Ce) (lo : Nat) (hR : R.length ≤ 1048576) (hlo : lo ≤ R.length) (hcb : CbF fn caps I J R lo) (hskip : ∀ X Y q, I X q → X ++ Y <+: R → (X ++ Y).length ≤ lo → I (X ++ Y) q) (N : Nat) : ∀ (A : Option Addr) (t : Tr) (X : List Ce) (q : Part) (wt : Wf t), t.size ≤ N → X ++ t.row <+: R → I X q → Sp Tryd.prog 55 [.pointer A, .int .i64 X.length, .int .i64 lo, .func (.func fn) #[] caps.toArray] [q] [TrF A t] (WkF I J (X ++ t.row)) := by
  induction N using Nat.strongRecOn
  rename_i N ih
  intro A t X q wt hN hpre hI
  by_cases nt : t = .nil
  · subst nt
    have h0 := walkf_0 fn caps I J (X ++ []) q X.length lo (by rw [List.append_nil]; exact hI)
    refine ⟨h0.enters, fun Z w Ps As hs => ?_⟩
    obtain rfl : A = none := hs.facts _ (by simp : TrF A .nil ∈ [TrF A .nil] ++ As)
    exact h0.calls Z w Ps As hs
  have hpos := wf_pos wt nt
  have hpl := hpre.length_le
  rw [List.length_append] at hpl
  refine Sp.of (n := 66) ⟨_, Tryd.func55, rfl, rfl, rfl, rfl⟩ (Nat.le_of_ble_eq_true rfl) fun Ps As => WC_nodeT (.head _) nt fun b Al Ar Ac rs0 cc hid0 plus0 e => ?_
  cases e
  refine WC_seq (WC_region (Lq (q_assign rfl) (WL_nil (thenN (WC_seq (WC_seq (WC_region (Lq (q_move rfl) (Lq (q_peql Tryd.underlying113 rfl rfl (by simp)) (Lq (q_move rfl) (Lg rfl rfl rfl rfl (q_move rfl) (Lg rfl rfl rfl rfl (q_move rfl) (Lg rfl rfl rfl rfl (q_nil rfl) (Lg rfl rfl rfl rfl (q_field (o' := _ + 0) Tryd.underlying150 rfl ti112 rfl rfl) ?_))))))))))))))
  refine Lg rfl rfl rfl rfl (q_field (o' := _ + 0) Tryd.underlying112 rfl ti3 rfl rfl) (Lg rfl rfl rfl rfl (q_loadF1 (j := 0) Tryd.underlying3 rfl rfl (.head _) rfl rfl) (Lg rfl rfl rfl rfl (q_add rfl rfl (by rw [wt.tot]; exact wr64 (by omega)) (c := ((X.length + t.row.length : Nat) : Int))) (Lg rfl rfl rfl rfl (q_move rfl) (Lg rfl rfl rfl rfl (q_leq rfl rfl) (Lq (q_pickF rfl rfl rfl) (WL_nil (thenN (WC_cond rfl (fun h25 => ?_) (fun h25 => ?_)))))))))
  · refine WC_seq (WC_region (Lq (q_assign rfl) (WL_nil (thenN (WC_ret (thenRet ?_))))))
    refine ⟨_, [_], [], fun Z w hs => .tmp rfl (.nil), ?_, fun Z w hs => hs.out (List.Sublist.cons_cons _ (List.Sublist.refl _)) (fun _ h => .tail _ h)⟩
    exact ⟨rfl, _, rfl, .inl ⟨rfl, hskip X t.row q hI hpre (by rw [List.length_append]; simp only [decide_eq_true_eq] at h25; omega)⟩⟩
  · refine WC_skip (thenN (WC_seq (WC_region (Lq (q_move rfl) (WL_main rfl (OW_call0 (open_r (some ⟨b, 0, none⟩) t wt nt (by omega)) (.cons rfl (.nil)) (by decide) (memc (.tail _ (.head _)) mem0) fun u3_1 Lo fs hres => ?_))))))
    obtain ⟨B1, l1, s1, k1, C1, d1, D1, m1, rfl, rfl, rfl, wl1, wm1, n1, h1, r1, zl1, zm1⟩ := hres
    have e1 := congrArg List.length r1
    simp only [List.length_append, cellsOf_length] at e1
    have n1p := List.length_pos_iff.2 n1
    have hp3 : X ++ l1.row ++ cellsOf s1 k1 ++ m1.row <+: R := by have := hpre; rw [r1, ← List.append_assoc, ← List.append_assoc] at this; exact this
    have hp2 : X ++ l1.row ++ cellsOf s1 k1 <+: R := (List.prefix_append _ _).trans hp3
    have hp1 : X ++ l1.row <+: R := (List.prefix_append _ _).trans hp2
    have eX1 : (X ++ l1.row).length = X.length + l1.row.length := List.length_append
    have eX2 : (X ++ l1.row ++ cellsOf s1 k1).length = X.length + l1.row.length + s1.length := by rw [List.length_append, eX1, cellsOf_length]
    refine Lq (q_move rfl) (Lq (q_extract (vs := [_, _, _]) rfl rfl) (Lq (q_extract (vs := [_, _, _]) rfl rfl) (Lq (q_extract (vs := [_, _, _]) rfl rfl) (WL_main rfl (OW_alloc (cs := [_, _]) ti118 rfl (by decide) fun b10 => Lq (q_assign rfl) (WL_main rfl (OW_storeN (cs' := [_, _]) (vs := [_, _]) ti118 rfl rfl rfl rfl rfl (Nat.le_of_ble_eq_true rfl) (.z) (Lq (q_assign rfl) (WL_nil (thenN (WC_seq (WC_seq (WC_pick (.s (.z)) ?_)))))))))))))
    refine WC_region (Lq (q_move rfl) (Lq (q_move rfl) (Lq (q_move rfl) (Lq (q_move rfl) (WL_main rfl (OW_callP (ih l1.size (by omega) B1 l1 X q wl1 (Nat.le_refl _) hp1 hI) (.cons rfl (.cons rfl (.cons rfl (.cons rfl .nil)))) (by decide) (List.Perm.refl _) (memc (.head _) mem0) fun u4 Lo fs hres => ?_))))))
    obtain ⟨rfl, q1, rfl, hv⟩ := hres
    rcases hv with ⟨rfl, hI1⟩ | ⟨rfl, hJ⟩
    · refine Lq (q_not rfl) (WL_nil (thenN (WC_false rfl rfl (WC_skip (thenN (WC_seq (WC_region (Lq (q_move rfl) (Lq (q_move rfl) (WL_main rfl (OW_call0 (all_s B1 l1) (.cons rfl (.nil)) (by decide) (memc (.head _) mem0) fun u6_2 Lo fs hres => ?_)))))))))))
      obtain ⟨rfl, rfl, rfl⟩ := hres
      refine Lq (q_part rfl (fd112_0Xw54 _ _ _ _ _ _)) (Lq (q_add rfl rfl (by rw [wl1.tot, eX1]; exact wr64 (by omega)) (c := (((X ++ l1.row).length : Nat) : Int))) (Lq (q_assign rfl) (WL_nil (thenN (WC_seq (WC_seq (WC_pick (.z) (WC_region (Lq (q_move rfl) (Lq (q_field (o' := 0) Tryd.underlying118 rfl ti73 rfl rfl) (Lq (q_load1 Tryd.underlying73 rfl rfl (ownS (own0)) rfl) (Lq (q_len Tryd.underlying73 rfl) ?_))))))))))))
      refine Lq (q_add rfl rfl (by rw [eX1]; exact wr64 (by omega)) (c := ((X.length + l1.row.length + s1.length : Nat) : Int))) (Lq (q_move rfl) (Lq (q_gtr rfl rfl) (Lq (q_move rfl) (WL_guard (t := 50) rfl (fun g50 => ?_) (fun g50 => ?_)))))
      · refine Lg rfl rfl rfl g50 (q_move rfl) (Lg rfl rfl rfl g50 (q_move rfl) (Lg rfl rfl rfl g50 (q_loadN (vs := [_, _]) Tryd.underlying118 rfl ti118 rfl (ownS (own0)) rfl rfl) (WL_gmain rfl rfl rfl g50 (OW_callV (caps := caps) rfl (hcb (X ++ l1.row) q1 s1 k1 C1 d1 hI1 n1 h1.1 hp2 (by simp only [decide_eq_true_eq] at g50; omega)) (.cons rfl (.cons rfl .nil)) (by decide) (List.Perm.refl _) (memc (.tail _ (.head _)) mem0) fun u7 Lo fs hres => ?_))))
        obtain ⟨rfl, q2, rfl, hv⟩ := hres
        rcases hv with ⟨rfl, hI2⟩ | ⟨rfl, hJ⟩
        · refine Lg rfl rfl rfl g50 (q_not rfl) (Lq (q_pickT rfl g50 rfl) (WL_nil (thenN (WC_fr [(56, _), (12, _), (11, _), (10, _), (8, _), (2, _), (3, _)] (.cons rfl (.cons rfl (.cons rfl (.cons rfl (.cons rfl (.cons rfl (.cons rfl (.nil _)))))))) (WC_false rfl rfl (WC_skip (thenN (WC_seq (WC_pick (.z) (WC_region (Lq (q_move rfl) (Lq (q_move rfl) (Lq (q_field (o' := 0) Tryd.underlying118 rfl ti73 rfl rfl) ?_)))))))))))))
          refine Lq (q_load1 Tryd.underlying73 rfl rfl (ownS (own0)) rfl) (Lq (q_len Tryd.underlying73 rfl) (Lq (q_add rfl rfl (by rw [eX1, eX2]; exact wr64 (by omega)) (c := (((X ++ l1.row ++ cellsOf s1 k1).length : Nat) : Int))) (Lq (q_move rfl) (Lq (q_move rfl) (WL_main rfl (OW_callP (ih m1.size (by omega) D1 m1 (X ++ l1.row ++ cellsOf s1 k1) q2 wm1 (Nat.le_refl _) hp3 hI2) (.cons rfl (.cons rfl (.cons rfl (.cons rfl (.nil))))) (by decide) (List.Perm.refl _) (memc (.tail _ (.tail _ (.head _))) mem0) fun u9_8 Lo fs hres => ?_))))))
          obtain ⟨rfl, q3, rfl, hv3⟩ := hres
          refine Lq (q_assign rfl) (WL_nil (thenN (WC_ret ?_)))
          refine ⟨_, [_], [], fun Z w hs => .tmp rfl (.nil), ?_, fun Z w hs => hs.out (List.Sublist.cons_cons _ (List.Sublist.cons _ (List.Sublist.refl _))) (fun _ h => .tail _ (.tail _ (.tail _ (.tail _ h))))⟩
          refine ⟨rfl, q3, rfl, ?_⟩
          rw [r1, ← List.append_assoc, ← List.append_assoc]; exact hv3
        · refine Lg rfl rfl rfl g50 (q_not rfl) (Lq (q_pickT rfl g50 rfl) (WL_nil (thenN (WC_fr [(56, _), (12, _), (11, _), (10, _), (8, _), (2, _), (3, _)] (.cons rfl (.cons rfl (.cons rfl (.cons rfl (.cons rfl (.cons rfl (.cons rfl (.nil _)))))))) (WC_true rfl rfl (WC_seq (WC_region (Lq (q_assign rfl) (WL_nil (thenN (WC_ret (thenRet ?_))))))))))))
          refine ⟨_, [_], [], fun Z w hs => .tmp rfl (.nil), ?_, fun Z w hs => hs.out (List.Sublist.cons_cons _ (List.Sublist.cons _ (List.Sublist.refl _))) (fun _ h => .tail _ (.tail _ (.tail _ (.tail _ h))))⟩
          exact ⟨rfl, _, rfl, .inr ⟨rfl, hJ⟩⟩
      · refine Ln rfl rfl rfl g50 (Ln rfl rfl rfl g50 (Ln rfl rfl rfl g50 (Ln rfl rfl rfl g50 (Ln rfl rfl rfl g50 (Lq (q_pickF rfl g50 rfl) (WL_nil (thenN (WC_fr [(56, _), (12, _), (11, _), (10, _), (8, _), (2, _), (3, _)] (.cons rfl (.cons rfl (.cons rfl (.cons rfl (.cons rfl (.cons rfl (.cons rfl (.nil _)))))))) (WC_false rfl rfl (WC_skip (thenN (WC_seq ?_))))))))))))
        have hI2 := hskip (X ++ l1.row) (cellsOf s1 k1) q1 hI1 hp2 (by simp only [decide_eq_false_iff_not] at g50; omega)
        refine WC_pick (.z) (WC_region (Lq (q_move rfl) (Lq (q_move rfl) (Lq (q_field (o' := 0) Tryd.underlying118 rfl ti73 rfl rfl) (Lq (q_load1 Tryd.underlying73 rfl rfl (ownS (own0)) rfl) (Lq (q_len Tryd.underlying73 rfl) (Lq (q_add rfl rfl (by rw [eX1, eX2]; exact wr64 (by omega)) (c := (((X ++ l1.row ++ cellsOf s1 k1).length : Nat) : Int))) (Lq (q_move rfl) (Lq (q_move rfl) ?_)))))))))
        refine WL_main rfl (OW_callP (ih m1.size (by omega) D1 m1 (X ++ l1.row ++ cellsOf s1 k1) q1 wm1 (Nat.le_refl _) hp3 hI2) (.cons rfl (.cons rfl (.cons rfl (.cons rfl (.nil))))) (by decide) (List.Perm.refl _) (memc (.tail _ (.tail _ (.head _))) mem0) fun u9_8 Lo fs hres => ?_)
        obtain ⟨rfl, q3, rfl, hv3⟩ := hres
        refine Lq (q_assign rfl) (WL_nil (thenN (WC_ret ?_)))
        refine ⟨_, [_], [], fun Z w hs => .tmp rfl (.nil), ?_, fun Z w hs => hs.out (List.Sublist.cons_cons _ (List.Sublist.cons _ (List.Sublist.refl _))) (fun _ h => .tail _ (.tail _ (.tail _ (.tail _ h))))⟩
        refine ⟨rfl, q3, rfl, ?_⟩
        rw [r1, ← List.append_assoc, ← List.append_assoc]; exact hv3
    · refine Lq (q_not rfl) (WL_nil (thenN (WC_true rfl rfl (WC_seq (WC_region (Lq (q_assign rfl) (WL_nil (thenN (WC_ret (thenRet ?_))))))))))
      refine ⟨_, [_], [], fun Z w hs => .tmp rfl (.nil), ?_, fun Z w hs => hs.out (List.Sublist.cons_cons _ (List.Sublist.cons _ (List.Sublist.refl _))) (fun _ h => .tail _ (.tail _ (.tail _ (.tail _ h))))⟩
      exact ⟨rfl, _, rfl, .inr ⟨rfl, hJ⟩⟩

end Go.Proofs.YtggdddkbhigjoaaDoor
