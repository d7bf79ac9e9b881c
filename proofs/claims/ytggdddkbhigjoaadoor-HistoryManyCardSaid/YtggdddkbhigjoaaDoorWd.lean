/- Walks: span.Check. -/
import Derived.Test.YtggdddkbhigjoaaDoorWc
set_option linter.unusedVariables false
set_option linter.unusedSimpArgs false
namespace Go.Proofs.YtggdddkbhigjoaaDoor
open Go Go.GW

set_option maxRecDepth 10000 in
theorem check_s (A : Option Addr) (c : Nat) (xs : List Rg) (hl : xs.length ≤ 4398046511104) : Sp Tryd.prog 86 [.slice A xs.length c] [] [RdF rgD A c xs] (Is (.tuple #[.int .i64 (ckF xs).1, .int .i64 (ckF xs).2])) := by
  refine Sp.of (n := 47) ⟨_, Tryd.func86, rfl, rfl, rfl, rfl⟩ (Nat.le_of_ble_eq_true rfl) fun Ps As => ?_
  refine WC_seq ?_
  refine WC_region ?_
  refine WL_q (q_assign rfl) (by decide) ?_
  refine WL_q (q_assign rfl) (by decide) ?_
  refine WL_nil ?_
  refine thenN ?_
  refine WC_seq ?_
  refine WC_seq ?_
  refine WC_region ?_
  refine WL_q (q_move rfl) (by decide) ?_
  refine WL_q (q_len Tryd.underlying29 rfl) (by decide) ?_
  refine WL_q (q_gtr rfl rfl) (by decide) ?_
  refine WL_nil ?_
  refine thenN ?_
  refine WC_cond rfl (fun h8 => ?_) (fun h8 => ?_)
  · refine WC_seq ?_
    refine WC_region ?_
    refine WL_q (q_assign rfl) (by decide) ?_
    refine WL_q (q_assign rfl) (by decide) ?_
    refine WL_nil ?_
    refine thenN ?_
    refine WC_ret ?_
    refine thenRet ?_
    refine ⟨_, [], [], fun Z w hs => .tmp rfl (.tmp rfl (.nil)), ?_, fun Z w hs => hs.out (List.Sublist.refl _) (fun _ h => h)⟩
    try simp only [decide_eq_true_eq, decide_eq_false_iff_not, beq_iff_eq, bne_iff_ne, beq_eq_false_iff_ne, ne_eq, Bool.and_eq_true, Bool.not_eq_true', Bool.not_eq_false', Bool.not_eq_true, Bool.not_eq_false, bne_eq_false_iff_eq, Bool.and_eq_false_iff] at *
    exact ⟨by unfold ckF; rw [if_pos (by omega)]; rfl, rfl, rfl⟩
  · refine WC_skip ?_
    refine thenN ?_
    refine WC_seq ?_
    refine WC_seq ?_
    refine WC_region ?_
    refine WL_q (q_move rfl) (by decide) ?_
    refine WL_q (q_len Tryd.underlying29 rfl) (by decide) ?_
    refine WL_q (q_move rfl) (by decide) ?_
    refine WL_nil ?_
    refine thenN ?_
    refine WC_block ?_
    refine WC_loopE (α := Nat) (fun k => xs.length - k)
      (fun k => [(0, .slice A xs.length c), (9, .slice A xs.length c), (10, .int .i64 xs.length), (11, .int .i64 k)])
      (fun k => Ps)
      (fun k => (RdF rgD A c xs :: As))
      (fun k => CkI xs k)
      0 ?_ (.cons rfl (.cons rfl (.cons rfl (.cons rfl (.nil _))))) (List.Sublist.refl _) (fun _ h => h) ?_
    · simp only [decide_eq_false_iff_not] at h8
      exact CkI.zero (by omega)
    · rintro k hI
      refine WC_seq ?_
      refine WC_region ?_
      refine WL_q (q_lss rfl rfl) (by decide) ?_
      refine WL_nil ?_
      refine thenN ?_
      refine WC_seq ?_
      refine WC_cond rfl (fun h12 => ?_) (fun h12 => ?_)
      · refine WC_skip ?_
        refine thenN ?_
        refine WC_seq ?_
        refine WC_block ?_
        refine WC_seq ?_
        have hk : k < xs.length := by simpa using h12
        refine WC_elem (k := k) (.head _) (List.getElem?_eq_getElem hk) (rg_open _) fun b5 q5 y5 e5 => ?_
        cases e5
        refine WC_region ?_
        refine WL_q (q_move rfl) (by decide) ?_
        refine WL_q (q_idxRd Tryd.underlying29 ti37 rfl rfl (by omega) (by omega)) (by decide) ?_
        refine WL_q (q_loadFN (k := 0) (vs := [_, _]) Tryd.underlying37 rfl ti37 rfl (.head _) rfl rfl rfl) (by decide) ?_
        refine WL_main rfl (OW_alloc (cs := [_, _]) ti37 rfl (by decide) fun b5 => ?_)
        refine WL_q (q_assign rfl) (by decide) ?_
        refine WL_main rfl (OW_storeN (cs' := [_, _]) (vs := [_, _]) ti37 rfl rfl rfl rfl rfl (Nat.le_of_ble_eq_true rfl) (.z) ?_)
        refine WL_nil ?_
        refine thenN ?_
        refine WC_seq ?_
        refine WC_seq ?_
        refine WC_region ?_
        refine WL_q (q_field (o' := 0) Tryd.underlying37 rfl ti3 rfl rfl) (by decide) ?_
        refine WL_q (q_load1 Tryd.underlying3 rfl rfl own0 rfl) (by decide) ?_
        refine WL_q (q_lss rfl rfl) (by decide) ?_
        refine WL_q (q_move rfl) (by decide) ?_
        refine WL_guard (t := 19) rfl (fun g19 => ?_) (fun g19 => ?_)
        · refine WL_gno rfl rfl rfl g19 (by decide) ?_
          refine WL_gno rfl rfl rfl g19 (by decide) ?_
          refine WL_gno rfl rfl rfl g19 (by decide) ?_
          refine WL_q (q_pickT rfl g19 rfl) (by decide) ?_
          refine WL_q (q_move rfl) (by decide) ?_
          refine WL_gno rfl rfl rfl rfl (by decide) ?_
          refine WL_gno rfl rfl rfl rfl (by decide) ?_
          refine WL_gno rfl rfl rfl rfl (by decide) ?_
          refine WL_gno rfl rfl rfl rfl (by decide) ?_
          refine WL_gno rfl rfl rfl rfl (by decide) ?_
          refine WL_q (q_pickT rfl rfl rfl) (by decide) ?_
          refine WL_nil ?_
          refine thenN ?_
          refine WC_true rfl rfl ?_
          refine WC_seq ?_
          refine WC_region ?_
          refine WL_q (q_move rfl) (by decide) ?_
          refine WL_q (q_assign rfl) (by decide) ?_
          refine WL_q (q_assign rfl) (by decide) ?_
          refine WL_nil ?_
          refine thenN ?_
          refine WC_ret ?_
          refine thenRet ?_
          refine blockRet ?_
          refine thenRet ?_
          refine thenRet ?_
          refine blockRet ?_
          refine thenRet ?_
          refine ⟨_, [], [], fun Z w hs => .tmp rfl (.tmp rfl (.nil)), ?_, fun Z w hs => hs.out (List.Sublist.cons _ (List.Sublist.refl _)) (fun _ h => .tail _ h)⟩
          try simp only [decide_eq_true_eq, decide_eq_false_iff_not, beq_iff_eq, bne_iff_ne, beq_eq_false_iff_ne, ne_eq, Bool.and_eq_true, Bool.not_eq_true', Bool.not_eq_false', Bool.not_eq_true, Bool.not_eq_false, bne_eq_false_iff_eq, Bool.and_eq_false_iff] at *
          first
            | (have hF := CkI.bad hI hk (by omega); exact ⟨by rw [hF]; rfl, rfl, rfl⟩)
            | (have hF := CkI.ord hI hk (by omega) (by omega); exact ⟨by rw [hF]; rfl, rfl, rfl⟩)
            | (have hF := CkI.done hI (by omega); exact ⟨by rw [hF]; rfl, rfl, rfl⟩)
        · refine WL_gq rfl rfl rfl g19 (q_field (o' := 1) Tryd.underlying37 rfl ti3 rfl rfl) (by decide) ?_
          refine WL_gq rfl rfl rfl g19 (q_load1 Tryd.underlying3 rfl rfl own0 rfl) (by decide) ?_
          refine WL_gq rfl rfl rfl g19 (q_gtr rfl rfl) (by decide) ?_
          refine WL_q (q_pickF rfl g19 rfl) (by decide) ?_
          refine WL_q (q_move rfl) (by decide) ?_
          refine WL_guard (t := 24) rfl (fun g24 => ?_) (fun g24 => ?_)
          · refine WL_gno rfl rfl rfl g24 (by decide) ?_
            refine WL_gno rfl rfl rfl g24 (by decide) ?_
            refine WL_gno rfl rfl rfl g24 (by decide) ?_
            refine WL_gno rfl rfl rfl g24 (by decide) ?_
            refine WL_gno rfl rfl rfl g24 (by decide) ?_
            refine WL_q (q_pickT rfl g24 rfl) (by decide) ?_
            refine WL_nil ?_
            refine thenN ?_
            refine WC_true rfl rfl ?_
            refine WC_seq ?_
            refine WC_region ?_
            refine WL_q (q_move rfl) (by decide) ?_
            refine WL_q (q_assign rfl) (by decide) ?_
            refine WL_q (q_assign rfl) (by decide) ?_
            refine WL_nil ?_
            refine thenN ?_
            refine WC_ret ?_
            refine thenRet ?_
            refine blockRet ?_
            refine thenRet ?_
            refine thenRet ?_
            refine blockRet ?_
            refine thenRet ?_
            refine ⟨_, [], [], fun Z w hs => .tmp rfl (.tmp rfl (.nil)), ?_, fun Z w hs => hs.out (List.Sublist.cons _ (List.Sublist.refl _)) (fun _ h => .tail _ h)⟩
            try simp only [decide_eq_true_eq, decide_eq_false_iff_not, beq_iff_eq, bne_iff_ne, beq_eq_false_iff_ne, ne_eq, Bool.and_eq_true, Bool.not_eq_true', Bool.not_eq_false', Bool.not_eq_true, Bool.not_eq_false, bne_eq_false_iff_eq, Bool.and_eq_false_iff] at *
            first
              | (have hF := CkI.bad hI hk (by omega); exact ⟨by rw [hF]; rfl, rfl, rfl⟩)
              | (have hF := CkI.ord hI hk (by omega) (by omega); exact ⟨by rw [hF]; rfl, rfl, rfl⟩)
              | (have hF := CkI.done hI (by omega); exact ⟨by rw [hF]; rfl, rfl, rfl⟩)
          · refine WL_gq rfl rfl rfl g24 (q_field (o' := 0) Tryd.underlying37 rfl ti3 rfl rfl) (by decide) ?_
            refine WL_gq rfl rfl rfl g24 (q_load1 Tryd.underlying3 rfl rfl own0 rfl) (by decide) ?_
            refine WL_gq rfl rfl rfl g24 (q_field (o' := 1) Tryd.underlying37 rfl ti3 rfl rfl) (by decide) ?_
            refine WL_gq rfl rfl rfl g24 (q_load1 Tryd.underlying3 rfl rfl own0 rfl) (by decide) ?_
            refine WL_gq rfl rfl rfl g24 (q_geq rfl rfl) (by decide) ?_
            refine WL_q (q_pickF rfl g24 rfl) (by decide) ?_
            refine WL_nil ?_
            refine thenN ?_
            refine WC_cond rfl (fun h30 => ?_) (fun h30 => ?_)
            · refine WC_seq ?_
              refine WC_region ?_
              refine WL_q (q_move rfl) (by decide) ?_
              refine WL_q (q_assign rfl) (by decide) ?_
              refine WL_q (q_assign rfl) (by decide) ?_
              refine WL_nil ?_
              refine thenN ?_
              refine WC_ret ?_
              refine thenRet ?_
              refine blockRet ?_
              refine thenRet ?_
              refine thenRet ?_
              refine blockRet ?_
              refine thenRet ?_
              refine ⟨_, [], [], fun Z w hs => .tmp rfl (.tmp rfl (.nil)), ?_, fun Z w hs => hs.out (List.Sublist.cons _ (List.Sublist.refl _)) (fun _ h => .tail _ h)⟩
              try simp only [decide_eq_true_eq, decide_eq_false_iff_not, beq_iff_eq, bne_iff_ne, beq_eq_false_iff_ne, ne_eq, Bool.and_eq_true, Bool.not_eq_true', Bool.not_eq_false', Bool.not_eq_true, Bool.not_eq_false, bne_eq_false_iff_eq, Bool.and_eq_false_iff] at *
              first
                | (have hF := CkI.bad hI hk (by omega); exact ⟨by rw [hF]; rfl, rfl, rfl⟩)
                | (have hF := CkI.ord hI hk (by omega) (by omega); exact ⟨by rw [hF]; rfl, rfl, rfl⟩)
                | (have hF := CkI.done hI (by omega); exact ⟨by rw [hF]; rfl, rfl, rfl⟩)
            · refine WC_skip ?_
              refine thenN ?_
              refine WC_seq ?_
              rcases k with _ | k
              · refine WC_draw _ _ [] [(0, 0), (1, 0), (2, 0), (3, 0), (4, 0), (5, 0), (6, 0), (7, 0), (8, 0), (9, 0), (10, 0), (11, 0), (12, 0)] mixed (fun _ _ _ _ h => h) (List.Sublist.cons_cons _ (List.Sublist.refl _)) (fun _ h => h) (by kernel_rfl) (by decide) fun ws Z0 => ?_
                refine WE_q rfl (q_move rfl) (by decide) ?_
                refine WE_q rfl (q_gtr rfl rfl) (by decide) ?_
                refine WE_q rfl (q_move rfl) (by decide) ?_
                refine WE_gno rfl rfl rfl rfl (by simp) (by decide) ?_
                refine WE_gno rfl rfl rfl rfl (by simp) (by decide) ?_
                refine WE_gno rfl rfl rfl rfl (by simp) (by decide) ?_
                refine WE_gno rfl rfl rfl rfl (by simp) (by decide) ?_
                refine WE_gno rfl rfl rfl rfl (by simp) (by decide) ?_
                refine WE_gno rfl rfl rfl rfl (by simp) (by decide) ?_
                refine WE_gno rfl rfl rfl rfl (by simp) (by decide) ?_
                refine WE_gno rfl rfl rfl rfl (by simp) (by decide) ?_
                refine WE_gno rfl rfl rfl rfl (by simp) (by decide) ?_
                refine WE_q rfl (q_pickF rfl (by simp) rfl) (by decide) ?_
                refine WE_end (WF_nil ?_)
                refine thenN ?_
                refine WC_false rfl rfl ?_
                refine WC_skip ?_
                refine blockN ?_
                refine thenN ?_
                refine WC_region ?_
                refine WL_q (q_add rfl rfl (wr64 (by omega))) (by decide) ?_
                refine WL_q (q_move rfl) (by decide) ?_
                refine WL_nil ?_
                refine thenK ?_
                refine ⟨0 + 1, ?_, (.cons rfl (.cons rfl (.cons rfl (.cons rfl (.nil _))))), (List.Sublist.cons _ (List.Sublist.refl _)), (fun _ h => .tail _ (.tail _ h))⟩
                try simp only [decide_eq_true_eq, decide_eq_false_iff_not, beq_iff_eq, bne_iff_ne, beq_eq_false_iff_ne, ne_eq, Bool.and_eq_true, Bool.not_eq_true', Bool.not_eq_false', Bool.not_eq_true, Bool.not_eq_false, bne_eq_false_iff_eq, Bool.and_eq_false_iff] at *
                exact ⟨by omega, by first | exact CkI.first hI hk (by omega) | exact CkI.next hI hk (by omega) (by omega)⟩
              · refine WC_elem (k := k) (.tail _ (.head _)) (List.getElem?_eq_getElem (by omega : k < xs.length)) (rg_open _) fun b7 q7 y7 e7 => ?_
                cases e7
                refine WC_draw _ _ [] [(0, 0), (1, 0), (2, 0), (3, 0), (4, 0), (5, 0), (6, 0), (7, 0), (8, 0), (9, 0), (10, 0), (11, 0), (12, 0)] mixed (fun _ _ _ _ h => h) (List.Sublist.cons_cons _ (List.Sublist.refl _)) (fun _ h => h) (by kernel_rfl) (by decide) fun ws Z0 => ?_
                refine WE_q rfl (q_move rfl) (by decide) ?_
                refine WE_q rfl (q_gtr rfl rfl) (by decide) ?_
                refine WE_q rfl (q_move rfl) (by decide) ?_
                refine WE_gq rfl rfl rfl rfl (by first | (simp; done) | (simp; omega)) (q_field (o' := 0) Tryd.underlying37 rfl ti3 rfl rfl) (by decide) ?_
                refine WE_gq rfl rfl rfl rfl (by first | (simp; done) | (simp; omega)) (q_load1 Tryd.underlying3 rfl rfl own0 rfl) (by decide) ?_
                refine WE_gq rfl rfl rfl rfl (by first | (simp; done) | (simp; omega)) (q_move rfl) (by decide) ?_
                refine WE_gq rfl rfl rfl rfl (by first | (simp; done) | (simp; omega)) (q_move rfl) (by decide) ?_
                refine WE_gq rfl rfl rfl rfl (by first | (simp; done) | (simp; omega)) (q_sub rfl rfl (by rw [wr64 (by omega)]; omega) (c := (k : Int))) (by decide) ?_
                refine WE_gq rfl rfl rfl rfl (by first | (simp; done) | (simp; omega)) (q_idxRd Tryd.underlying29 ti37 rfl rfl (by omega) (by omega)) (by decide) ?_
                refine WE_gq rfl rfl rfl rfl (by first | (simp; done) | (simp; omega)) (q_field (o' := _ + 1) Tryd.underlying37 rfl ti3 rfl rfl) (by decide) ?_
                refine WE_gq rfl rfl rfl rfl (by first | (simp; done) | (simp; omega)) (q_loadF1 (j := 1) Tryd.underlying3 rfl rfl (.head _) rfl rfl) (by decide) ?_
                refine WE_gq rfl rfl rfl rfl (by first | (simp; done) | (simp; omega)) (q_leq rfl rfl) (by decide) ?_
                refine WE_q rfl (q_pickT rfl (by first | (simp; done) | (simp; omega)) rfl) (by decide) ?_
                refine WE_end (WF_nil ?_)
                refine thenN ?_
                refine WC_cond rfl (fun h44 => ?_) (fun h44 => ?_)
                · refine WC_seq ?_
                  refine WC_region ?_
                  refine WL_q (q_move rfl) (by decide) ?_
                  refine WL_q (q_assign rfl) (by decide) ?_
                  refine WL_q (q_assign rfl) (by decide) ?_
                  refine WL_nil ?_
                  refine thenN ?_
                  refine WC_ret ?_
                  refine blockRet ?_
                  refine thenRet ?_
                  refine thenRet ?_
                  refine blockRet ?_
                  refine thenRet ?_
                  refine ⟨_, [], [], fun Z w hs => .tmp rfl (.tmp rfl (.nil)), ?_, fun Z w hs => hs.out (List.Sublist.cons _ (List.Sublist.refl _)) (fun _ h => .tail _ (.tail _ (.tail _ h)))⟩
                  try simp only [decide_eq_true_eq, decide_eq_false_iff_not, beq_iff_eq, bne_iff_ne, beq_eq_false_iff_ne, ne_eq, Bool.and_eq_true, Bool.not_eq_true', Bool.not_eq_false', Bool.not_eq_true, Bool.not_eq_false, bne_eq_false_iff_eq, Bool.and_eq_false_iff] at *
                  first
                    | (have hF := CkI.bad hI hk (by omega); exact ⟨by rw [hF]; rfl, rfl, rfl⟩)
                    | (have hF := CkI.ord hI hk (by omega) (by omega); exact ⟨by rw [hF]; rfl, rfl, rfl⟩)
                    | (have hF := CkI.done hI (by omega); exact ⟨by rw [hF]; rfl, rfl, rfl⟩)
                · refine WC_skip ?_
                  refine blockN ?_
                  refine thenN ?_
                  refine WC_region ?_
                  refine WL_q (q_add rfl rfl (wr64 (by omega))) (by decide) ?_
                  refine WL_q (q_move rfl) (by decide) ?_
                  refine WL_nil ?_
                  refine thenK ?_
                  refine ⟨(k + 1) + 1, ?_, (.cons rfl (.cons rfl (.cons rfl (.cons rfl (.nil _))))), (List.Sublist.cons _ (List.Sublist.refl _)), (fun _ h => .tail _ (.tail _ (.tail _ h)))⟩
                  try simp only [decide_eq_true_eq, decide_eq_false_iff_not, beq_iff_eq, bne_iff_ne, beq_eq_false_iff_ne, ne_eq, Bool.and_eq_true, Bool.not_eq_true', Bool.not_eq_false', Bool.not_eq_true, Bool.not_eq_false, bne_eq_false_iff_eq, Bool.and_eq_false_iff] at *
                  exact ⟨by omega, by first | exact CkI.first hI hk (by omega) | exact CkI.next hI hk (by omega) (by omega)⟩
      · refine WC_exit ?_
        refine thenExit ?_
        refine thenExit ?_
        refine blockHit ?_
        refine thenN ?_
        refine WC_seq ?_
        refine WC_region ?_
        refine WL_q (q_assign rfl) (by decide) ?_
        refine WL_q (q_assign rfl) (by decide) ?_
        refine WL_nil ?_
        refine thenN ?_
        refine WC_ret ?_
        refine ⟨_, [], [], fun Z w hs => .tmp rfl (.tmp rfl (.nil)), ?_, fun Z w hs => hs.out (List.Sublist.refl _) (fun _ h => h)⟩
        try simp only [decide_eq_true_eq, decide_eq_false_iff_not, beq_iff_eq, bne_iff_ne, beq_eq_false_iff_ne, ne_eq, Bool.and_eq_true, Bool.not_eq_true', Bool.not_eq_false', Bool.not_eq_true, Bool.not_eq_false, bne_eq_false_iff_eq, Bool.and_eq_false_iff] at *
        first
          | (have hF := CkI.bad hI hk (by omega); exact ⟨by rw [hF]; rfl, rfl, rfl⟩)
          | (have hF := CkI.ord hI hk (by omega) (by omega); exact ⟨by rw [hF]; rfl, rfl, rfl⟩)
          | (have hF := CkI.done hI (by omega); exact ⟨by rw [hF]; rfl, rfl, rfl⟩)

end Go.Proofs.YtggdddkbhigjoaaDoor
