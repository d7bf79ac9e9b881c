/- Walks: xform.Cross. -/
import Derived.Test.YtggdddkbhigjoaaDoorWj
set_option linter.unusedVariables false
set_option linter.unusedSimpArgs false
namespace Go.Proofs.YtggdddkbhigjoaaDoor
open Go Go.GW

set_option maxRecDepth 10000 in
theorem cross_s (A B : Option Addr) (c d : Nat) (xs ys : List GOp) (hx : ∀ o ∈ xs, Fit o) (hy : ∀ o ∈ ys, Fit o) (hlx : xs.length ≤ 1000000000) (hly : ys.length ≤ 1000000000) : Sp Tryd.prog 21 [.slice A xs.length c, .slice B ys.length d] [] [barF, RdF opD A c xs, RdF opD B d ys] (CrP (crossF xs ys)) := by
  refine Sp.of (n := 71) ⟨_, Tryd.func21, rfl, rfl, rfl, rfl⟩ (Nat.le_of_ble_eq_true rfl) fun Ps As => ?_
  refine WC_seq ?_
  refine WC_region ?_
  refine WL_q (q_assign rfl) (by decide) ?_
  refine WL_q (q_assign rfl) (by decide) ?_
  refine WL_q (q_assign rfl) (by decide) ?_
  refine WL_nil ?_
  refine thenN ?_
  refine WC_seq ?_
  refine WC_seq ?_
  refine WC_fact (A := RdF opD none 0 []) (fun Z w hs => RdS.nil _ _ _) ?_
  refine WC_region ?_
  refine WL_q (q_move rfl) (by decide) ?_
  refine WL_main rfl (OW_call0 (owns_s A c xs hx (by omega)) (.cons rfl (.nil)) (by decide) (memc (.tail _ (.head _)) (memc (.tail _ (.tail _ (.head _))) mem0)) fun u1_1 Lo fs hres => ?_)
  obtain ⟨rfl, rfl, rfl⟩ := hres
  refine WL_q (q_assign rfl) (by decide) ?_
  refine WL_nil ?_
  refine thenN ?_
  refine WC_seq ?_
  refine WC_region ?_
  refine WL_q (q_move rfl) (by decide) ?_
  refine WL_q (q_neq rfl rfl) (by decide) ?_
  refine WL_nil ?_
  refine thenN ?_
  refine WC_cond rfl (fun h14 => ?_) (fun h14 => ?_)
  · refine WC_seq ?_
    refine WC_region ?_
    refine WL_q (q_move rfl) (by decide) ?_
    refine WL_q (q_assign rfl) (by decide) ?_
    refine WL_q (q_assign rfl) (by decide) ?_
    refine WL_q (q_assign rfl) (by decide) ?_
    refine WL_nil ?_
    refine thenN ?_
    refine WC_ret ?_
    refine thenRet ?_
    refine ⟨_, [], [RdF opD none 0 [], RdF opD none 0 []], fun Z w hs => .tmp rfl (.tmp rfl (.tmp rfl (.nil))), ?_, fun Z w hs => hs.out (List.Sublist.refl _) (memc (.head _) (memc (.head _) (fun _ h => .tail _ h)))⟩
    try simp only [decide_eq_true_eq, decide_eq_false_iff_not, beq_iff_eq, bne_iff_ne, beq_eq_false_iff_ne, ne_eq, Bool.and_eq_true, Bool.not_eq_true', Bool.not_eq_false', Bool.not_eq_true, Bool.not_eq_false, bne_eq_false_iff_eq, Bool.and_eq_false_iff] at *
    have hF : crossF xs ys = _ := crossF_1 (by omega)
    exact ⟨none, 0, none, 0, by rw [hF]; rfl, rfl, by rw [hF]⟩
  · refine WC_skip ?_
    refine thenN ?_
    refine WC_seq ?_
    refine WC_seq ?_
    refine WC_region ?_
    refine WL_q (q_move rfl) (by decide) ?_
    refine WL_main rfl (OW_call0 (owns_s B d ys hy (by omega)) (.cons rfl (.nil)) (by decide) (memc (.tail _ (.head _)) (memc (.tail _ (.tail _ (.tail _ (.head _)))) mem0)) fun u4_1 Lo fs hres => ?_)
    obtain ⟨rfl, rfl, rfl⟩ := hres
    refine WL_q (q_assign rfl) (by decide) ?_
    refine WL_nil ?_
    refine thenN ?_
    refine WC_seq ?_
    refine WC_region ?_
    refine WL_q (q_move rfl) (by decide) ?_
    refine WL_q (q_neq rfl rfl) (by decide) ?_
    refine WL_nil ?_
    refine thenN ?_
    refine WC_cond rfl (fun h19 => ?_) (fun h19 => ?_)
    · refine WC_seq ?_
      refine WC_region ?_
      refine WL_q (q_move rfl) (by decide) ?_
      refine WL_q (q_assign rfl) (by decide) ?_
      refine WL_q (q_assign rfl) (by decide) ?_
      refine WL_q (q_assign rfl) (by decide) ?_
      refine WL_nil ?_
      refine thenN ?_
      refine WC_fr [(6, _), (5, _), (4, _), (0, _), (1, _)] (.cons rfl (.cons rfl (.cons rfl (.cons rfl (.cons rfl (.nil _)))))) ?_
      refine WC_ret ?_
      refine thenRet ?_
      refine ⟨_, [], [RdF opD none 0 [], RdF opD none 0 []], fun Z w hs => .tmp rfl (.tmp rfl (.tmp rfl (.nil))), ?_, fun Z w hs => hs.out (List.Sublist.refl _) (memc (.head _) (memc (.head _) (fun _ h => .tail _ h)))⟩
      try simp only [decide_eq_true_eq, decide_eq_false_iff_not, beq_iff_eq, bne_iff_ne, beq_eq_false_iff_ne, ne_eq, Bool.and_eq_true, Bool.not_eq_true', Bool.not_eq_false', Bool.not_eq_true, Bool.not_eq_false, bne_eq_false_iff_eq, Bool.and_eq_false_iff] at *
      have hF : crossF xs ys = _ := crossF_2 (by omega) (by omega)
      exact ⟨none, 0, none, 0, by rw [hF]; rfl, rfl, by rw [hF]⟩
    · refine WC_skip ?_
      refine thenN ?_
      refine WC_seq ?_
      refine WC_region ?_
      refine WL_q (q_move rfl) (by decide) ?_
      refine WL_main rfl (OW_call0 (clones_s A c xs hx hlx) (.cons rfl (.nil)) (by decide) (memc (.tail _ (.tail _ (.head _))) mem0) fun u7_1 Lo fs hres => ?_)
      obtain ⟨pF0, cssF0, hF0, rfl, rfl⟩ := hres
      refine WL_q (q_assign rfl) (by decide) ?_
      refine WL_nil ?_
      refine thenN ?_
      refine WC_fr [(4, _), (6, _), (5, _), (1, _)] (.cons rfl (.cons rfl (.cons rfl (.cons rfl (.nil _))))) ?_
      refine WC_seq ?_
      refine WC_region ?_
      refine WL_q (q_move rfl) (by decide) ?_
      refine WL_main rfl (OW_call0 (clones_s B d ys hy hly) (.cons rfl (.nil)) (by decide) (memc (.tail _ (.tail _ (.tail _ (.tail _ (.head _))))) mem0) fun u8_1 Lo fs hres => ?_)
      obtain ⟨pL0, cssL0, hL0, rfl, rfl⟩ := hres
      refine WL_q (q_assign rfl) (by decide) ?_
      refine WL_nil ?_
      refine thenN ?_
      refine WC_seq ?_
      refine WC_seq ?_
      try simp only [decide_eq_true_eq, decide_eq_false_iff_not, beq_iff_eq, bne_iff_ne, beq_eq_false_iff_ne, ne_eq, Bool.and_eq_true, Bool.not_eq_true', Bool.not_eq_false', Bool.not_eq_true, Bool.not_eq_false, bne_eq_false_iff_eq, Bool.and_eq_false_iff] at *
      obtain ⟨hF1, bF, cF, jF, rfl, rfl, hF2, hF3, hF4⟩ := hF0
      obtain ⟨hL1, bL, cL, jL, rfl, rfl, hL2, hL3, hL4⟩ := hL0
      refine WC_region ?_
      refine WL_q (q_move rfl) (by decide) ?_
      refine WL_q (q_len Tryd.underlying45 rfl) (by decide) ?_
      refine WL_q (q_move rfl) (by decide) ?_
      refine WL_nil ?_
      refine thenN ?_
      refine WC_block ?_
      refine WC_loopE (α := Nat × List GOp × List GOp × List (List Value) × List (List Value)) (fun (i, F, L, cssF, cssL) => ys.length - i)
        (fun (i, F, L, cssF, cssL) => [(4, .slice (some ⟨bF, 0, none⟩) xs.length cF), (5, .slice (some ⟨bL, 0, none⟩) ys.length cL), (26, .int .i64 ys.length), (27, .int .i64 i)])
        (fun (i, F, L, cssF, cssL) => ([(bL, cellsO (cssL.flatten ++ jL) 31)] :: [(bF, cellsO (cssF.flatten ++ jF) 31)] :: Ps))
        (fun (i, F, L, cssF, cssL) => (RepsF opD L cssL :: RepsF opD F cssF :: RdF opD none 0 [] :: barF :: RdF opD A c xs :: RdF opD B d ys :: As))
        (fun (i, F, L, cssF, cssL) => CoI xs ys F L i)
        (0, xs, ys, cssF0, cssL0) ?_ (.cons rfl (.cons rfl (.cons rfl (.cons rfl (.nil _))))) (List.Sublist.cons_cons _ (List.Sublist.cons_cons _ (List.Sublist.refl _))) (fun _ h => h) ?_
      · exact CoI.zero hx hy
      · rintro ⟨i, F, L, cssF, cssL⟩ hI
        refine WC_seq ?_
        refine WC_region ?_
        refine WL_q (q_lss rfl rfl) (by decide) ?_
        refine WL_nil ?_
        refine thenN ?_
        refine WC_seq ?_
        refine WC_cond rfl (fun h28 => ?_) (fun h28 => ?_)
        · refine WC_skip ?_
          refine thenN ?_
          refine WC_seq ?_
          refine WC_block ?_
          refine WC_seq ?_
          refine WC_region ?_
          refine WL_q (q_move rfl) (by decide) ?_
          refine WL_q (q_assign rfl) (by decide) ?_
          refine WL_nil ?_
          refine thenN ?_
          refine WC_seq ?_
          refine WC_region ?_
          refine WL_q (q_move rfl) (by decide) ?_
          refine WL_q (q_len Tryd.underlying45 rfl) (by decide) ?_
          refine WL_q (q_move rfl) (by decide) ?_
          refine WL_nil ?_
          refine thenN ?_
          refine WC_block ?_
          have hi : i < L.length := by simp only [decide_eq_true_eq] at h28; have := hI.lenL; omega
          refine WC_fact (A := RepsF opD (L.set i L[i]) cssL) (fun Z w hs => by rw [List.set_getElem_self]; exact hs.facts _ (.head _)) ?_
          refine WC_loopE (α := Nat × List GOp × GOp × List (List Value) × List (List Value)) (fun (k, G, l, cssG, cssM) => xs.length - k)
            (fun (k, G, l, cssG, cssM) => [(4, .slice (some ⟨bF, 0, none⟩) xs.length cF), (5, .slice (some ⟨bL, 0, none⟩) ys.length cL), (26, .int .i64 ys.length), (27, .int .i64 i), (7, .int .i64 i), (31, .int .i64 xs.length), (32, .int .i64 k)])
            (fun (k, G, l, cssG, cssM) => ([(bL, cellsO (cssM.flatten ++ jL) 31)] :: [(bF, cellsO (cssG.flatten ++ jF) 31)] :: Ps))
            (fun (k, G, l, cssG, cssM) => (RepsF opD (L.set i l) cssM :: RepsF opD G cssG :: RdF opD none 0 [] :: barF :: RdF opD A c xs :: RdF opD B d ys :: As))
            (fun (k, G, l, cssG, cssM) => CiI L[i] F G l k)
            (0, F, L[i], cssF, cssL) ?_ (.cons rfl (.cons rfl (.cons rfl (.cons rfl (.cons rfl (.cons rfl (.cons rfl (.nil _)))))))) (List.Sublist.cons_cons _ (List.Sublist.cons_cons _ (List.Sublist.refl _))) (memc (.head _) (fun _ h => .tail _ (.tail _ h))) ?_
          · exact CiI.zero hI.fitF (hI.fitL _ (List.getElem_mem hi))
          · rintro ⟨k, G, l, cssG, cssM⟩ hI2
            refine WC_seq ?_
            refine WC_region ?_
            refine WL_q (q_lss rfl rfl) (by decide) ?_
            refine WL_nil ?_
            refine thenN ?_
            refine WC_seq ?_
            refine WC_cond rfl (fun h33 => ?_) (fun h33 => ?_)
            · refine WC_skip ?_
              refine thenN ?_
              refine WC_seq ?_
              refine WC_block ?_
              refine WC_seq ?_
              refine WC_region ?_
              refine WL_q (q_move rfl) (by decide) ?_
              refine WL_q (q_assign rfl) (by decide) ?_
              refine WL_nil ?_
              refine thenN ?_
              refine WC_seq ?_
              have hk : k < G.length := by simp only [decide_eq_true_eq] at h33; have := hI.lenF; have := hI2.len; omega
              have hi2 : i < ys.length := by have := hI.lenL; omega
              have hk2 : k < xs.length := by have := hI.lenF; have := hI2.len; omega
              refine WC_reps (k := i) (u := l) (.head _) (by simp [hi]) (op_open _) fun yl hyl => ?_
              refine WC_reps (k := k) (.tail _ (.tail _ (.head _))) (List.getElem?_eq_getElem hk) (op_open _) fun yf hyf => ?_
              refine WC_repsLen (.tail _ (.tail _ (.head _))) fun hlM hlsM => ?_
              refine WC_repsLen (.tail _ (.tail _ (.tail _ (.head _)))) fun hlG hlsG => ?_
              rw [List.length_set] at hlM
              refine WC_draw _ _ [11] [(0, 0), (1, 0), (2, 0), (3, 0), (4, 0), (5, 0), (6, 0), (7, 0), (8, 4), (9, 4), (10, 2), (11, 3)] mixed (fun _ _ _ _ h => h) (List.Sublist.cons_cons _ (List.Sublist.cons_cons _ (List.Sublist.refl _))) (fun _ h => h) (by kernel_rfl) (by decide) fun ws Z0 => ?_
              refine WE_q rfl (q_move rfl) (by decide) ?_
              refine WE_q rfl (q_move rfl) (by decide) ?_
              refine WE_q rfl (q_idxOwn Tryd.underlying45 ti31 rfl rfl (by omega) (by omega)) (by decide) ?_
              refine WE_q rfl (q_loadR (i := i) Tryd.underlying31 rfl ti31 rfl (by simp) own0 hlsM hyl) (by decide) ?_
              refine WE_q rfl (q_move rfl) (by decide) ?_
              refine WE_q rfl (q_move rfl) (by decide) ?_
              refine WE_q rfl (q_idxOwn Tryd.underlying45 ti31 rfl rfl (by omega) (by omega)) (by decide) ?_
              refine WE_q rfl (q_loadR (i := k) Tryd.underlying31 rfl ti31 rfl (by simp) (ownS (own0)) hlsG hyf) (by decide) ?_
              refine WE_alloc2 rfl rfl (cs1 := [_, _, _, _, _, _, _, _, _]) (cs2 := [_, _, _, _, _, _, _, _, _]) ti31 rfl ti31 rfl (by decide) (by decide) (by decide) (List.Sublist.cons_cons _ (List.Sublist.cons_cons _ (List.Sublist.refl _))) (.head _) fun b9 b10 => ?_
              refine WE_main rfl rfl (OW_storeN (cs' := [_, _, _, _, _, _, _, _, _]) (vs := [_, _, _, _, _, _, _, _, _]) ti31 rfl rfl rfl rfl rfl (Nat.le_of_ble_eq_true rfl) (.s (.z)) ?_)
              refine ⟨⟨(List.Sublist.cons _ (List.Sublist.cons _ (List.Sublist.cons_cons _ (List.Sublist.cons_cons _ (List.Sublist.refl _))))), (.head _)⟩, ?_⟩
              refine WE_end (WF_last rfl rfl (OW_storeN (cs' := [_, _, _, _, _, _, _, _, _]) (vs := [_, _, _, _, _, _, _, _, _]) ti31 rfl rfl rfl rfl rfl (Nat.le_of_ble_eq_true rfl) (.z) ?_))
              refine WF_nil ?_
              refine thenN ?_
              refine WC_seq ?_
              refine WC_seq ?_
              refine WC_region ?_
              refine WL_q (q_move rfl) (by decide) ?_
              refine WL_q (q_move rfl) (by decide) ?_
              refine WL_q (q_loadN (vs := [_, _, _, _, _, _, _, _, _]) Tryd.underlying31 rfl ti31 rfl (ownS (own0)) rfl rfl) (by decide) ?_
              refine WL_q (q_loadN (vs := [_, _, _, _, _, _, _, _, _]) Tryd.underlying31 rfl ti31 rfl own0 rfl rfl) (by decide) ?_
              refine WL_main rfl (OW_call0 (include_s l G[k] yl.1 yf.1 yl.2 yf.2 true hI2.fitl (hI2.fit _ (List.getElem_mem hk))) (.cons rfl (.cons rfl (.cons rfl (.nil)))) (by decide) (memc (.tail _ (.tail _ (.tail _ (.tail _ (.tail _ (.tail _ (.head _))))))) (memc (.tail _ (.tail _ (.head _))) mem0)) fun u16_4 Lo fs hres => ?_)
              obtain ⟨A1, c1, rfl, rfl, rfl⟩ := hres
              refine WL_q (q_move rfl) (by decide) ?_
              refine WL_q (q_extract (vs := [_, _]) rfl rfl) (by decide) ?_
              refine WL_q (q_extract (vs := [_, _]) rfl rfl) (by decide) ?_
              refine WL_q (q_idxOwn Tryd.underlying45 ti31 rfl rfl (by omega) (by omega)) (by decide) ?_
              refine WL_main rfl (OW_storeR (i := i) (c := opC (includeF l G[k] true).1 A1 c1) ti31 rfl (by simp) rfl rfl rfl hlsM (by omega) (.s (.s (.z))) ?_)
              refine WL_repsSet (xs' := L.set i (includeF l G[k] true).1) i (.tail _ (.tail _ (.tail _ (.tail _ (.head _))))) (fun Z w hs => ⟨A1, c1, rfl, hs.facts _ (.head _)⟩) (by rw [List.set_set]) ?_
              refine WL_q (q_assign rfl) (by decide) ?_
              refine WL_nil ?_
              refine thenN ?_
              refine WC_seq ?_
              refine WC_region ?_
              refine WL_q (q_move rfl) (by decide) ?_
              refine WL_q (q_neq rfl rfl) (by decide) ?_
              refine WL_nil ?_
              refine thenN ?_
              refine WC_cond rfl (fun h53 => ?_) (fun h53 => ?_)
              · refine WC_seq ?_
                refine WC_region ?_
                refine WL_q (q_move rfl) (by decide) ?_
                refine WL_q (q_assign rfl) (by decide) ?_
                refine WL_q (q_assign rfl) (by decide) ?_
                refine WL_q (q_assign rfl) (by decide) ?_
                refine WL_nil ?_
                refine thenN ?_
                refine WC_ret ?_
                refine thenRet ?_
                refine blockRet ?_
                refine thenRet ?_
                refine thenRet ?_
                refine blockRet ?_
                refine blockRet ?_
                refine thenRet ?_
                refine thenRet ?_
                refine blockRet ?_
                refine thenRet ?_
                refine ⟨_, [], [RdF opD none 0 [], RdF opD none 0 []], fun Z w hs => .tmp rfl (.tmp rfl (.tmp rfl (.nil))), ?_, fun Z w hs => hs.out (List.Sublist.cons _ (List.Sublist.cons _ (List.Sublist.cons _ (List.Sublist.cons _ (List.Sublist.refl _))))) (memc (.tail _ (.tail _ (.tail _ (.tail _ (.tail _ (.tail _ (.tail _ (.head _)))))))) (memc (.tail _ (.tail _ (.tail _ (.tail _ (.tail _ (.tail _ (.tail _ (.head _)))))))) (fun _ h => .tail _ (.tail _ (.tail _ (.tail _ (.tail _ (.tail _ (.tail _ (.tail _ h))))))))))⟩
                try simp only [decide_eq_true_eq, decide_eq_false_iff_not, beq_iff_eq, bne_iff_ne, beq_eq_false_iff_ne, ne_eq, Bool.and_eq_true, Bool.not_eq_true', Bool.not_eq_false', Bool.not_eq_true, Bool.not_eq_false, bne_eq_false_iff_eq, Bool.and_eq_false_iff] at *
                have hF : crossF xs ys = _ := crossF_3 (by omega) (by omega) (hI.err hi (hI2.err1 hk (by omega)))
                exact ⟨none, 0, none, 0, by rw [hF]; rfl, rfl, by rw [hF]⟩
              · refine WC_skip ?_
                refine thenN ?_
                refine WC_seq ?_
                refine WC_region ?_
                refine WL_q (q_move rfl) (by decide) ?_
                refine WL_q (q_move rfl) (by decide) ?_
                refine WL_q (q_loadN (vs := [_, _, _, _, _, _, _, _, _]) Tryd.underlying31 rfl ti31 rfl own0 rfl rfl) (by decide) ?_
                refine WL_q (q_loadN (vs := [_, _, _, _, _, _, _, _, _]) Tryd.underlying31 rfl ti31 rfl (ownS (own0)) rfl rfl) (by decide) ?_
                refine WL_main rfl (OW_call0 (include_s G[k] l yf.1 yl.1 yf.2 yl.2 false (hI2.fit _ (List.getElem_mem hk)) hI2.fitl) (.cons rfl (.cons rfl (.cons rfl (.nil)))) (by decide) (memc (.tail _ (.tail _ (.tail _ (.tail _ (.tail _ (.tail _ (.tail _ (.tail _ (.head _))))))))) (memc (.tail _ (.tail _ (.tail _ (.head _)))) mem0)) fun u19_4 Lo fs hres => ?_)
                obtain ⟨A2, c2, rfl, rfl, rfl⟩ := hres
                refine WL_q (q_move rfl) (by decide) ?_
                refine WL_q (q_extract (vs := [_, _]) rfl rfl) (by decide) ?_
                refine WL_q (q_extract (vs := [_, _]) rfl rfl) (by decide) ?_
                refine WL_q (q_idxOwn Tryd.underlying45 ti31 rfl rfl (by omega) (by omega)) (by decide) ?_
                refine WL_main rfl (OW_storeR (i := k) (c := opC (includeF G[k] l false).1 A2 c2) ti31 rfl (by simp) rfl rfl rfl hlsG (by omega) (.s (.s (.s (.z)))) ?_)
                refine WL_repsSet k (.tail _ (.tail _ (.tail _ (.tail _ (.tail _ (.tail _ (.tail _ (.head _)))))))) (fun Z w hs => ⟨A2, c2, rfl, hs.facts _ (.head _)⟩) rfl ?_
                refine WL_q (q_assign rfl) (by decide) ?_
                refine WL_nil ?_
                refine thenN ?_
                refine WC_seq ?_
                refine WC_region ?_
                refine WL_q (q_move rfl) (by decide) ?_
                refine WL_q (q_neq rfl rfl) (by decide) ?_
                refine WL_nil ?_
                refine thenN ?_
                refine WC_cond rfl (fun h65 => ?_) (fun h65 => ?_)
                · refine WC_seq ?_
                  refine WC_region ?_
                  refine WL_q (q_move rfl) (by decide) ?_
                  refine WL_q (q_assign rfl) (by decide) ?_
                  refine WL_q (q_assign rfl) (by decide) ?_
                  refine WL_q (q_assign rfl) (by decide) ?_
                  refine WL_nil ?_
                  refine thenN ?_
                  refine WC_ret ?_
                  refine blockRet ?_
                  refine thenRet ?_
                  refine thenRet ?_
                  refine blockRet ?_
                  refine blockRet ?_
                  refine thenRet ?_
                  refine thenRet ?_
                  refine blockRet ?_
                  refine thenRet ?_
                  refine ⟨_, [], [RdF opD none 0 [], RdF opD none 0 []], fun Z w hs => .tmp rfl (.tmp rfl (.tmp rfl (.nil))), ?_, fun Z w hs => hs.out (List.Sublist.cons _ (List.Sublist.cons _ (List.Sublist.cons _ (List.Sublist.cons _ (List.Sublist.refl _))))) (memc (.tail _ (.tail _ (.tail _ (.tail _ (.tail _ (.tail _ (.tail _ (.tail _ (.tail _ (.head _)))))))))) (memc (.tail _ (.tail _ (.tail _ (.tail _ (.tail _ (.tail _ (.tail _ (.tail _ (.tail _ (.head _)))))))))) (fun _ h => .tail _ (.tail _ (.tail _ (.tail _ (.tail _ (.tail _ (.tail _ (.tail _ (.tail _ (.tail _ h))))))))))))⟩
                  try simp only [decide_eq_true_eq, decide_eq_false_iff_not, beq_iff_eq, bne_iff_ne, beq_eq_false_iff_ne, ne_eq, Bool.and_eq_true, Bool.not_eq_true', Bool.not_eq_false', Bool.not_eq_true, Bool.not_eq_false, bne_eq_false_iff_eq, Bool.and_eq_false_iff] at *
                  have hF : crossF xs ys = _ := crossF_3 (by omega) (by omega) (hI.err hi (hI2.err2 hk (by omega) (by omega)))
                  exact ⟨none, 0, none, 0, by rw [hF]; rfl, rfl, by rw [hF]⟩
                · refine WC_skip ?_
                  refine blockN ?_
                  refine thenN ?_
                  refine WC_region ?_
                  refine WL_q (q_add rfl rfl (wr64 (by omega))) (by decide) ?_
                  refine WL_q (q_move rfl) (by decide) ?_
                  refine WL_nil ?_
                  refine thenK ?_
                  refine ⟨(k + 1, G.set k (includeF G[k] l false).1, (includeF l G[k] true).1, cssG.set k (opC (includeF G[k] l false).1 A2 c2), cssM.set i (opC (includeF l G[k] true).1 A1 c1)), ?_, (.cons rfl (.cons rfl (.cons rfl (.cons rfl (.cons rfl (.cons rfl (.cons rfl (.nil _)))))))), (List.Sublist.cons _ (List.Sublist.cons _ (List.Sublist.cons_cons _ (List.Sublist.cons_cons _ (List.Sublist.refl _))))), (memc (.tail _ (.tail _ (.head _))) (memc (.head _) (fun _ h => .tail _ (.tail _ (.tail _ (.tail _ (.tail _ (.tail _ (.tail _ (.tail _ (.tail _ h)))))))))))⟩
                  try simp only [decide_eq_true_eq, decide_eq_false_iff_not, beq_iff_eq, bne_iff_ne, beq_eq_false_iff_ne, ne_eq, Bool.and_eq_true, Bool.not_eq_true', Bool.not_eq_false', Bool.not_eq_true, Bool.not_eq_false, bne_eq_false_iff_eq, Bool.and_eq_false_iff] at *
                  exact ⟨by show xs.length - (k + 1) < xs.length - k; omega, hI2.next hk (by omega) (by omega)⟩
            · refine WC_exit ?_
              refine thenExit ?_
              refine thenExit ?_
              refine blockHit ?_
              refine blockN ?_
              refine thenN ?_
              refine WC_region ?_
              refine WL_q (q_add rfl rfl (wr64 (by have := hI.lenL; omega))) (by decide) ?_
              refine WL_q (q_move rfl) (by decide) ?_
              refine WL_nil ?_
              refine thenK ?_
              refine ⟨(i + 1, G, L.set i l, cssG, cssM), ?_, (.cons rfl (.cons rfl (.cons rfl (.cons rfl (.nil _))))), (List.Sublist.cons_cons _ (List.Sublist.cons_cons _ (List.Sublist.refl _))), (fun _ h => h)⟩
              try simp only [decide_eq_true_eq, decide_eq_false_iff_not, beq_iff_eq, bne_iff_ne, beq_eq_false_iff_ne, ne_eq, Bool.and_eq_true, Bool.not_eq_true', Bool.not_eq_false', Bool.not_eq_true, Bool.not_eq_false, bne_eq_false_iff_eq, Bool.and_eq_false_iff] at *
              exact ⟨by show ys.length - (i + 1) < ys.length - i; omega, hI.next hi (hI2.done (by have := hI.lenF; have := hI2.len; omega)) hI2.len hI2.fit hI2.fitl⟩
        · refine WC_exit ?_
          refine thenExit ?_
          refine thenExit ?_
          refine blockHit ?_
          refine thenN ?_
          refine WC_seq ?_
          try simp only [decide_eq_true_eq, decide_eq_false_iff_not, beq_iff_eq, bne_iff_ne, beq_eq_false_iff_ne, ne_eq, Bool.and_eq_true, Bool.not_eq_true', Bool.not_eq_false', Bool.not_eq_true, Bool.not_eq_false, bne_eq_false_iff_eq, Bool.and_eq_false_iff] at *
          have hcr := hI.done (by have := hI.lenL; omega)
          refine WC_repsLen (.head _) fun hlL hlsL => ?_
          refine WC_repsLen (.tail _ (.head _)) fun hlF hlsF => ?_
          refine WC_freeze (e := opD) (css := cssL) (xs := L) (Row.again hL1 hL2 hL3 hL4 (by have := hI.lenL; omega) hlsL) (.z) (by have := hI.lenL; omega) (.head _) fun AL cL' eL => ?_
          obtain ⟨rfl, _, rfl⟩ := Value.slice.inj eL
          refine WC_freeze (e := opD) (css := cssF) (xs := F) (Row.again hF1 hF2 hF3 hF4 (by have := hI.lenF; omega) hlsF) (.z) (by have := hI.lenF; omega) (.tail _ (.tail _ (.head _))) fun AF cF' eF => ?_
          obtain ⟨rfl, _, rfl⟩ := Value.slice.inj eF
          refine WC_region ?_
          refine WL_q (q_move rfl) (by decide) ?_
          refine WL_q (q_move rfl) (by decide) ?_
          refine WL_q (q_assign rfl) (by decide) ?_
          refine WL_q (q_assign rfl) (by decide) ?_
          refine WL_q (q_assign rfl) (by decide) ?_
          refine WL_nil ?_
          refine thenN ?_
          refine WC_ret ?_
          refine ⟨_, [], [RdF opD (some ⟨bF, 0, none⟩) cF F, RdF opD (some ⟨bL, 0, none⟩) cL L], fun Z w hs => .tmp rfl (.tmp rfl (.tmp rfl (.nil))), ?_, fun Z w hs => hs.out (List.Sublist.refl _) (memc (.head _) (memc (.tail _ (.head _)) (fun _ h => .tail _ (.tail _ (.tail _ (.tail _ (.tail _ h)))))))⟩
          have hF := crossF_4 (by omega) (by omega) hcr
          exact ⟨some ⟨bF, 0, none⟩, cF, some ⟨bL, 0, none⟩, cL, by rw [hF, hI.lenF, hI.lenL]; rfl, rfl, by rw [hF]⟩

end Go.Proofs.YtggdddkbhigjoaaDoor
