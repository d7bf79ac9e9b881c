/- The walks and laws that this claim's card rests on, part 4. -/
import Derived.Laws.RangeString
import Derived.Laws.Concat
import Derived.Test.YtggdddkbhigjoaaDoorQC
set_option linter.unusedVariables false
set_option linter.unusedSimpArgs false
/- Walks: span.Check. -/
namespace Go.Proofs.YtggdddkbhigjoaaDoor
open Go Go.GW
set_option maxRecDepth 10000 in
theorem check_s (A : Option Addr) (c : Nat) (xs : List Rg) (hl : xs.length ≤ 4398046511104) : Sp Tryd.prog 86 [.slice A xs.length c] [] [RdF rgD A c xs] (Is (.tuple #[.int .i64 (ckF xs).1, .int .i64 (ckF xs).2])) := by
  refine Sp.of (n := 47) ⟨_, Tryd.func86, rfl, rfl, rfl, rfl⟩ (Nat.le_of_ble_eq_true rfl) fun Ps As => WC_seq (WC_region (Lq (q_assign rfl) (Lq (q_assign rfl) (WL_nil (thenN (WC_seq (WC_seq (WC_region (Lq (q_move rfl) (Lq (q_len Tryd.underlying29 rfl) (Lq (q_gtr rfl rfl) (WL_nil (thenN (WC_cond rfl (fun h8 => ?_) (fun h8 => ?_)))))))))))))))
  · refine WC_seq (WC_region (Lq (q_assign rfl) (Lq (q_assign rfl) (WL_nil (thenN (WC_ret (thenRet ?_)))))))
    refine ⟨_, [], [], fun Z w hs => .tmp rfl (.tmp rfl (.nil)), ?_, fun Z w hs => hs.out (List.Sublist.refl _) (fun _ h => h)⟩
    try simp only [Bp, Bq] at *
    exact ⟨by unfold ckF; rw [if_pos (by omega)]; rfl, rfl, rfl⟩
  · refine WC_skip (thenN (WC_seq (WC_seq (WC_region (Lq (q_move rfl) (Lq (q_len Tryd.underlying29 rfl) (Lq (q_move rfl) (WL_nil (thenN (WC_block ?_))))))))))
    refine WC_loopE (α := Nat) (fun k => xs.length - k)
      (fun k => [(0, .slice A xs.length c), (9, .slice A xs.length c), (10, .int .i64 xs.length), (11, .int .i64 k)])
      (fun k => Ps)
      (fun k => (RdF rgD A c xs :: As))
      (fun k => CkI xs k)
      0 ?_ (.cons rfl (.cons rfl (.cons rfl (.cons rfl (.nil _))))) (List.Sublist.refl _) (fun _ h => h) ?_
    · simp only [decide_eq_false_iff_not] at h8
      exact CkI.zero (by omega)
    · rintro k hI
      refine WC_seq (WC_region (Lq (q_lss rfl rfl) (WL_nil (thenN (WC_seq (WC_cond rfl (fun h12 => ?_) (fun h12 => ?_)))))))
      · refine WC_skip (thenN (WC_seq (WC_block (WC_seq ?_))))
        have hk : k < xs.length := by simpa using h12
        refine WC_elem (k := k) (.head _) (List.getElem?_eq_getElem hk) (rg_open _) fun b5 q5 y5 e5 => ?_
        cases e5
        refine WC_region (Lq (q_move rfl) (Lq (q_idxRd Tryd.underlying29 ti37 rfl rfl (by omega) (by omega)) (Lq (q_loadFN (k := 0) (vs := [_, _]) Tryd.underlying37 rfl ti37 rfl (.head _) rfl rfl rfl) (WL_main rfl (OW_alloc (cs := [_, _]) ti37 rfl (by decide) fun b5 => Lq (q_assign rfl) (WL_main rfl (OW_storeN (cs' := [_, _]) (vs := [_, _]) ti37 rfl rfl rfl rfl rfl (Nat.le_of_ble_eq_true rfl) (.z) (WL_nil (thenN (WC_seq (WC_seq (WC_region (Lq (q_field (o' := 0) Tryd.underlying37 rfl ti3 rfl rfl) (Lq (q_load1 Tryd.underlying3 rfl rfl own0 rfl) ?_))))))))))))))
        refine Lq (q_lss rfl rfl) (Lq (q_move rfl) (WL_guard (t := 19) rfl (fun g19 => ?_) (fun g19 => ?_)))
        · refine Ln rfl rfl rfl g19 (Ln rfl rfl rfl g19 (Ln rfl rfl rfl g19 (Lq (q_pickT rfl g19 rfl) (Lq (q_move rfl) (Ln rfl rfl rfl rfl (Ln rfl rfl rfl rfl (Ln rfl rfl rfl rfl (Ln rfl rfl rfl rfl (Ln rfl rfl rfl rfl ?_)))))))))
          refine Lq (q_pickT rfl rfl rfl) (WL_nil (thenN (WC_true rfl rfl (WC_seq (WC_region (Lq (q_move rfl) (Lq (q_assign rfl) (Lq (q_assign rfl) (WL_nil (thenN (WC_ret (thenRet (blockRet (thenRet (thenRet (blockRet (thenRet ?_)))))))))))))))))
          refine ⟨_, [], [], fun Z w hs => .tmp rfl (.tmp rfl (.nil)), ?_, fun Z w hs => hs.out (List.Sublist.cons _ (List.Sublist.refl _)) (fun _ h => .tail _ h)⟩
          try simp only [Bp, Bq] at *
          first
            | (have hF := CkI.bad hI hk (by omega); exact ⟨by rw [hF]; rfl, rfl, rfl⟩)
            | (have hF := CkI.ord hI hk (by omega) (by omega); exact ⟨by rw [hF]; rfl, rfl, rfl⟩)
            | (have hF := CkI.done hI (by omega); exact ⟨by rw [hF]; rfl, rfl, rfl⟩)
        · refine Lg rfl rfl rfl g19 (q_field (o' := 1) Tryd.underlying37 rfl ti3 rfl rfl) (Lg rfl rfl rfl g19 (q_load1 Tryd.underlying3 rfl rfl own0 rfl) (Lg rfl rfl rfl g19 (q_gtr rfl rfl) (Lq (q_pickF rfl g19 rfl) (Lq (q_move rfl) (WL_guard (t := 24) rfl (fun g24 => ?_) (fun g24 => ?_))))))
          · refine Ln rfl rfl rfl g24 (Ln rfl rfl rfl g24 (Ln rfl rfl rfl g24 (Ln rfl rfl rfl g24 (Ln rfl rfl rfl g24 (Lq (q_pickT rfl g24 rfl) (WL_nil (thenN (WC_true rfl rfl (WC_seq (WC_region (Lq (q_move rfl) (Lq (q_assign rfl) (Lq (q_assign rfl) ?_)))))))))))))
            refine WL_nil (thenN (WC_ret (thenRet (blockRet (thenRet (thenRet (blockRet (thenRet ?_))))))))
            refine ⟨_, [], [], fun Z w hs => .tmp rfl (.tmp rfl (.nil)), ?_, fun Z w hs => hs.out (List.Sublist.cons _ (List.Sublist.refl _)) (fun _ h => .tail _ h)⟩
            try simp only [Bp, Bq] at *
            first
              | (have hF := CkI.bad hI hk (by omega); exact ⟨by rw [hF]; rfl, rfl, rfl⟩)
              | (have hF := CkI.ord hI hk (by omega) (by omega); exact ⟨by rw [hF]; rfl, rfl, rfl⟩)
              | (have hF := CkI.done hI (by omega); exact ⟨by rw [hF]; rfl, rfl, rfl⟩)
          · refine Lg rfl rfl rfl g24 (q_field (o' := 0) Tryd.underlying37 rfl ti3 rfl rfl) (Lg rfl rfl rfl g24 (q_load1 Tryd.underlying3 rfl rfl own0 rfl) (Lg rfl rfl rfl g24 (q_field (o' := 1) Tryd.underlying37 rfl ti3 rfl rfl) (Lg rfl rfl rfl g24 (q_load1 Tryd.underlying3 rfl rfl own0 rfl) (Lg rfl rfl rfl g24 (q_geq rfl rfl) (Lq (q_pickF rfl g24 rfl) (WL_nil (thenN (WC_cond rfl (fun h30 => ?_) (fun h30 => ?_)))))))))
            · refine WC_seq (WC_region (Lq (q_move rfl) (Lq (q_assign rfl) (Lq (q_assign rfl) (WL_nil (thenN (WC_ret (thenRet (blockRet (thenRet (thenRet (blockRet (thenRet ?_)))))))))))))
              refine ⟨_, [], [], fun Z w hs => .tmp rfl (.tmp rfl (.nil)), ?_, fun Z w hs => hs.out (List.Sublist.cons _ (List.Sublist.refl _)) (fun _ h => .tail _ h)⟩
              try simp only [Bp, Bq] at *
              first
                | (have hF := CkI.bad hI hk (by omega); exact ⟨by rw [hF]; rfl, rfl, rfl⟩)
                | (have hF := CkI.ord hI hk (by omega) (by omega); exact ⟨by rw [hF]; rfl, rfl, rfl⟩)
                | (have hF := CkI.done hI (by omega); exact ⟨by rw [hF]; rfl, rfl, rfl⟩)
            · refine WC_skip (thenN (WC_seq ?_))
              rcases k with _ | k
              · refine WC_draw _ _ [] (.c 0 0 (.c 1 0 (.c 2 0 (.c 3 0 (.c 4 0 (.c 5 0 (.c 6 0 (.c 7 0 (.c 8 0 (.c 9 0 (.c 10 0 (.c 11 0 (.c 12 0 .nil))))))))))))) mixed (fun _ _ _ _ h => h) (List.Sublist.cons_cons _ (List.Sublist.refl _)) (fun _ h => h) (by kernel_rfl) (by decide) fun ws Z0 => Qe rfl (q_move rfl) (Qe rfl (q_gtr rfl rfl) (Qe rfl (q_move rfl) (WE_gno rfl rfl rfl rfl (by simp) (by decide) (WE_gno rfl rfl rfl rfl (by simp) (by decide) (WE_gno rfl rfl rfl rfl (by simp) (by decide) (WE_gno rfl rfl rfl rfl (by simp) (by decide) (WE_gno rfl rfl rfl rfl (by simp) (by decide) (WE_gno rfl rfl rfl rfl (by simp) (by decide) ?_))))))))
                refine WE_gno rfl rfl rfl rfl (by simp) (by decide) (WE_gno rfl rfl rfl rfl (by simp) (by decide) (WE_gno rfl rfl rfl rfl (by simp) (by decide) (Qe rfl (q_pickF rfl (by simp) rfl) (WE_end (WF_nil (thenN (WC_false rfl rfl (WC_skip (blockN (thenN (WC_region (Lq (q_add rfl rfl (wr64 (by omega))) (Lq (q_move rfl) (WL_nil (thenK ?_)))))))))))))))
                refine ⟨0 + 1, ?_, (.cons rfl (.cons rfl (.cons rfl (.cons rfl (.nil _))))), (List.Sublist.cons _ (List.Sublist.refl _)), (fun _ h => .tail _ (.tail _ h))⟩
                try simp only [Bp, Bq] at *
                exact ⟨by omega, by first | exact CkI.first hI hk (by omega) | exact CkI.next hI hk (by omega) (by omega)⟩
              · refine WC_elem (k := k) (.tail _ (.head _)) (List.getElem?_eq_getElem (by omega : k < xs.length)) (rg_open _) fun b7 q7 y7 e7 => ?_
                cases e7
                refine WC_draw _ _ [] (.c 0 0 (.c 1 0 (.c 2 0 (.c 3 0 (.c 4 0 (.c 5 0 (.c 6 0 (.c 7 0 (.c 8 0 (.c 9 0 (.c 10 0 (.c 11 0 (.c 12 0 .nil))))))))))))) mixed (fun _ _ _ _ h => h) (List.Sublist.cons_cons _ (List.Sublist.refl _)) (fun _ h => h) (by kernel_rfl) (by decide) fun ws Z0 => Qe rfl (q_move rfl) (Qe rfl (q_gtr rfl rfl) (Qe rfl (q_move rfl) (WE_gq rfl rfl rfl rfl (by first | (simp; done) | (simp; omega)) (q_field (o' := 0) Tryd.underlying37 rfl ti3 rfl rfl) (by decide) (WE_gq rfl rfl rfl rfl (by first | (simp; done) | (simp; omega)) (q_load1 Tryd.underlying3 rfl rfl own0 rfl) (by decide) (WE_gq rfl rfl rfl rfl (by first | (simp; done) | (simp; omega)) (q_move rfl) (by decide) (WE_gq rfl rfl rfl rfl (by first | (simp; done) | (simp; omega)) (q_move rfl) (by decide) ?_))))))
                refine WE_gq rfl rfl rfl rfl (by first | (simp; done) | (simp; omega)) (q_sub rfl rfl (by rw [wr64 (by omega)]; omega) (c := (k : Int))) (by decide) (WE_gq rfl rfl rfl rfl (by first | (simp; done) | (simp; omega)) (q_idxRd Tryd.underlying29 ti37 rfl rfl (by omega) (by omega)) (by decide) (WE_gq rfl rfl rfl rfl (by first | (simp; done) | (simp; omega)) (q_field (o' := _ + 1) Tryd.underlying37 rfl ti3 rfl rfl) (by decide) (WE_gq rfl rfl rfl rfl (by first | (simp; done) | (simp; omega)) (q_loadF1 (j := 1) Tryd.underlying3 rfl rfl (.head _) rfl rfl) (by decide) (WE_gq rfl rfl rfl rfl (by first | (simp; done) | (simp; omega)) (q_leq rfl rfl) (by decide) (Qe rfl (q_pickT rfl (by first | (simp; done) | (simp; omega)) rfl) (WE_end (WF_nil (thenN (WC_cond rfl (fun h44 => ?_) (fun h44 => ?_))))))))))
                · refine WC_seq (WC_region (Lq (q_move rfl) (Lq (q_assign rfl) (Lq (q_assign rfl) (WL_nil (thenN (WC_ret (blockRet (thenRet (thenRet (blockRet (thenRet ?_))))))))))))
                  refine ⟨_, [], [], fun Z w hs => .tmp rfl (.tmp rfl (.nil)), ?_, fun Z w hs => hs.out (List.Sublist.cons _ (List.Sublist.refl _)) (fun _ h => .tail _ (.tail _ (.tail _ h)))⟩
                  try simp only [Bp, Bq] at *
                  first
                    | (have hF := CkI.bad hI hk (by omega); exact ⟨by rw [hF]; rfl, rfl, rfl⟩)
                    | (have hF := CkI.ord hI hk (by omega) (by omega); exact ⟨by rw [hF]; rfl, rfl, rfl⟩)
                    | (have hF := CkI.done hI (by omega); exact ⟨by rw [hF]; rfl, rfl, rfl⟩)
                · refine WC_skip (blockN (thenN (WC_region (Lq (q_add rfl rfl (wr64 (by omega))) (Lq (q_move rfl) (WL_nil (thenK ?_)))))))
                  refine ⟨(k + 1) + 1, ?_, (.cons rfl (.cons rfl (.cons rfl (.cons rfl (.nil _))))), (List.Sublist.cons _ (List.Sublist.refl _)), (fun _ h => .tail _ (.tail _ (.tail _ h)))⟩
                  try simp only [Bp, Bq] at *
                  exact ⟨by omega, by first | exact CkI.first hI hk (by omega) | exact CkI.next hI hk (by omega) (by omega)⟩
      · refine WC_exit (thenExit (thenExit (blockHit (thenN (WC_seq (WC_region (Lq (q_assign rfl) (Lq (q_assign rfl) (WL_nil (thenN (WC_ret ?_)))))))))))
        refine ⟨_, [], [], fun Z w hs => .tmp rfl (.tmp rfl (.nil)), ?_, fun Z w hs => hs.out (List.Sublist.refl _) (fun _ h => h)⟩
        try simp only [Bp, Bq] at *
        first
          | (have hF := CkI.bad hI hk (by omega); exact ⟨by rw [hF]; rfl, rfl, rfl⟩)
          | (have hF := CkI.ord hI hk (by omega) (by omega); exact ⟨by rw [hF]; rfl, rfl, rfl⟩)
          | (have hF := CkI.done hI (by omega); exact ⟨by rw [hF]; rfl, rfl, rfl⟩)

end Go.Proofs.YtggdddkbhigjoaaDoor
/- Walks: span.Through. -/
namespace Go.Proofs.YtggdddkbhigjoaaDoor
open Go Go.GW
def ThrP (xs : List Rg) (at_ n : Int) : Value → List Part → List Fact → Prop := fun v Lo fs =>
  ∃ (A' : Option Addr) (c' : Nat), v = .tuple #[.slice A' (thrF xs at_ n).1.length c', .int .i64 (thrF xs at_ n).2] ∧ Lo = [] ∧ fs = [RdF rgD A' c' (thrF xs at_ n).1]

set_option maxRecDepth 10000 in
theorem through_s (A : Option Addr) (c : Nat) (xs : List Rg) (at_ n : Int) (hl : xs.length ≤ 4398046511104) : Sp Tryd.prog 67 [.slice A xs.length c, .int .i64 at_, .int .i64 n] [] [RdF rgD A c xs] (ThrP xs at_ n) := by
  refine Sp.of (n := 78) ⟨_, Tryd.func67, rfl, rfl, rfl, rfl⟩ (Nat.le_of_ble_eq_true rfl) fun Ps As => WC_seq (WC_region (Lq (q_assign rfl) (Lq (q_assign rfl) (WL_nil (thenN (WC_seq (WC_seq (WC_region (Lq (q_move rfl) (WL_main rfl (OW_call0 (check_s A c xs hl) (.cons rfl (.nil)) (by decide) (memc (.head _) mem0) fun u1_1 Lo fs hres => ?_)))))))))))
  obtain ⟨rfl, rfl, rfl⟩ := hres
  refine Lq (q_move rfl) (Lq (q_extract (vs := [_, _]) rfl rfl) (Lq (q_extract (vs := [_, _]) rfl rfl) (Lq (q_assign rfl) (Lq (q_assign rfl) (WL_nil (thenN (WC_seq (WC_region (Lq (q_move rfl) (Lq (q_neq rfl rfl) (WL_nil (thenN (WC_fr [(20, _), (9, _), (7, _), (6, _), (0, _), (1, _), (2, _)] (.cons rfl (.cons rfl (.cons rfl (.cons rfl (.cons rfl (.cons rfl (.cons rfl (.nil _)))))))) ?_)))))))))))))
  refine WC_cond rfl (fun h20 => ?_) (fun h20 => ?_)
  · refine WC_seq (WC_region (Lq (q_move rfl) (Lq (q_assign rfl) (Lq (q_assign rfl) (WL_nil (thenN (WC_ret (thenRet ?_))))))))
    refine ⟨_, [], [RdF rgD none 0 []], fun Z w hs => .tmp rfl (.tmp rfl (.nil)), ?_, fun Z w hs => ⟨Z, ((hs.subParts (List.Sublist.refl _)).subFacts (fun _ h => h)).addFact (A := RdF rgD none 0 []) (RdS.nil _ _ _)⟩⟩
    try simp only [Bp, Bq] at *
    have hF : thrF xs at_ n = _ := thrF_ck (by omega)
    exact ⟨none, 0, by rw [hF]; rfl, rfl, by rw [hF]⟩
  · refine WC_skip (thenN (WC_seq (WC_seq (WC_region (Lq (q_move rfl) (WL_main rfl (OW_call0 (outside_s at_) (.cons rfl (.nil)) (by decide) mem0 fun u4_1 Lo fs hres => ?_)))))))
    obtain ⟨rfl, rfl, rfl⟩ := hres
    refine Lq (q_move rfl) (WL_guard (t := 24) rfl (fun g24 => ?_) (fun g24 => ?_))
    · refine Ln rfl rfl rfl g24 (Ln rfl rfl rfl g24 (Lq (q_pickT rfl g24 rfl) (WL_nil (thenN (WC_true rfl rfl (WC_seq (WC_region (Lq (q_assign rfl) (Lq (q_assign rfl) (WL_nil (thenN (WC_ret (thenRet ?_)))))))))))))
      refine ⟨_, [], [RdF rgD none 0 []], fun Z w hs => .tmp rfl (.tmp rfl (.nil)), ?_, fun Z w hs => ⟨Z, ((hs.subParts (List.Sublist.refl _)).subFacts (fun _ h => h)).addFact (A := RdF rgD none 0 []) (RdS.nil _ _ _)⟩⟩
      try simp only [Bp, Bq] at *
      have hF : thrF xs at_ n = _ := thrF_out (by omega) (by omega)
      exact ⟨none, 0, by rw [hF]; rfl, rfl, by rw [hF]⟩
    · refine Lg rfl rfl rfl g24 (q_move rfl) (WL_gmain rfl rfl rfl g24 (OW_call0 (outside_s n) (.cons rfl (.nil)) (by decide) mem0 fun u4_4 Lo fs hres => ?_))
      obtain ⟨rfl, rfl, rfl⟩ := hres
      refine Lq (q_pickF rfl g24 rfl) (WL_nil (thenN (WC_cond rfl (fun h27 => ?_) (fun h27 => ?_))))
      · refine WC_seq (WC_region (Lq (q_assign rfl) (Lq (q_assign rfl) (WL_nil (thenN (WC_ret (thenRet ?_)))))))
        refine ⟨_, [], [RdF rgD none 0 []], fun Z w hs => .tmp rfl (.tmp rfl (.nil)), ?_, fun Z w hs => ⟨Z, ((hs.subParts (List.Sublist.refl _)).subFacts (fun _ h => h)).addFact (A := RdF rgD none 0 []) (RdS.nil _ _ _)⟩⟩
        try simp only [Bp, Bq] at *
        have hF : thrF xs at_ n = _ := thrF_out (by omega) (by omega)
        exact ⟨none, 0, by rw [hF]; rfl, rfl, by rw [hF]⟩
      · refine WC_skip (thenN (WC_seq (WC_seq (WC_region (Lq (q_move rfl) (Lq (q_len Tryd.underlying29 rfl) (Lq (q_gtr rfl rfl) (WL_nil (thenN (WC_fr [(30, _), (7, _), (6, _), (0, _), (1, _), (2, _)] (.cons rfl (.cons rfl (.cons rfl (.cons rfl (.cons rfl (.cons rfl (.nil _))))))) (WC_cond rfl (fun h30 => ?_) (fun h30 => ?_))))))))))))
        · refine WC_seq ?_
          try simp only [Bp, Bq] at *
          have hk0 : xs.length - 1 < xs.length := by omega
          have hg := ckF_at (by omega) hk0
          refine WC_elem (k := (xs.length - 1)) (.head _) (List.getElem?_eq_getElem hk0) (rg_open _) fun b7 q7 y7 e7 => ?_
          cases e7
          refine WC_region (Lq (q_move rfl) (Lq (q_move rfl) (Lq (q_len Tryd.underlying29 rfl) (Lq (q_sub rfl rfl (by rw [wr64 (by omega)]; omega) (c := ((xs.length - 1 : Nat) : Int))) (Lq (q_idxRd Tryd.underlying29 ti37 rfl rfl (by omega) (by omega)) (Lq (q_field (o' := _ + 1) Tryd.underlying37 rfl ti3 rfl rfl) (Lq (q_loadF1 (j := 1) Tryd.underlying3 rfl rfl (.head _) rfl rfl) (Lq (q_assign rfl) (WL_nil (thenN ?_))))))))))
          refine WC_fr [(10, _), (7, _), (6, _), (0, _), (1, _), (2, _)] (.cons rfl (.cons rfl (.cons rfl (.cons rfl (.cons rfl (.cons rfl (.nil _))))))) (WC_seq (WC_region (Lq (q_move rfl) (Lq (q_move rfl) (Lq (q_gtr rfl rfl) (Lq (q_move rfl) (WL_guard (t := 41) rfl (fun g41 => ?_) (fun g41 => ?_))))))))
          · refine Lg rfl rfl rfl g41 (q_move rfl) (Lg rfl rfl rfl g41 (q_move rfl) (Lg rfl rfl rfl g41 (q_add rfl rfl (wr64 (by omega))) (Lg rfl rfl rfl g41 (q_gtr rfl rfl) (Lq (q_pickT rfl g41 rfl) (WL_nil (thenN (WC_fr [(46, _), (7, _), (6, _), (0, _), (1, _), (2, _)] (.cons rfl (.cons rfl (.cons rfl (.cons rfl (.cons rfl (.cons rfl (.nil _))))))) (WC_cond rfl (fun h46 => ?_) (fun h46 => ?_)))))))))
            · refine WC_seq (WC_region (Lq (q_assign rfl) (Lq (q_assign rfl) (WL_nil (thenN (WC_ret (thenRet ?_)))))))
              refine ⟨_, [], [RdF rgD none 0 []], fun Z w hs => .tmp rfl (.tmp rfl (.nil)), ?_, fun Z w hs => ⟨Z, ((hs.subParts (List.Sublist.refl _)).subFacts (fun _ h => .tail _ h)).addFact (A := RdF rgD none 0 []) (RdS.nil _ _ _)⟩⟩
              try simp only [Bp, Bq] at *
              have hF : thrF xs at_ n = _ := thrF_grow (by omega) (by omega) (by omega) ⟨by omega, by omega⟩
              exact ⟨none, 0, by rw [hF]; rfl, rfl, by rw [hF]⟩
            · refine WC_skip (thenN (WC_seq (WC_region (Lq (q_assign rfl) (WL_nil (thenN (WC_seq (WC_seq (WC_region (Lq (q_move rfl) (Lq (q_len Tryd.underlying29 rfl) (Lq (q_move rfl) (WL_nil (thenN (WC_block ?_)))))))))))))))
              try simp only [Bp, Bq] at *
              have hC : (ckF xs).2 = 0 := by omega
              have hl2 := (ckF_good hC).1
              have hOK : thrF xs at_ n = boundF (thrL at_ n [] xs) := by
                first
                | exact thrF_ok (by omega) (by omega) hk0 (by omega)
                | (obtain rfl : xs = [] := List.length_eq_zero_iff.1 (by omega); exact thrF_nil (by omega))
              refine WC_nilPart ?_
              refine WC_loopE (α := Nat × List Rg × Value × Part) (fun (k, acc, v, p) => xs.length - k)
                (fun (k, acc, v, p) => [(1, .int .i64 at_), (2, .int .i64 n), (11, v), (47, .slice (some ⟨b7, q7, none⟩) xs.length c), (48, .int .i64 xs.length), (49, .int .i64 k)])
                (fun (k, acc, v, p) => p :: Ps)
                (fun (k, acc, v, p) => (RdF rgD (some ⟨b7, q7, none⟩) c xs :: As))
                (fun (k, acc, v, p) => ThI xs at_ n k acc v p)
                (0, [], .slice none 0 0, []) ?_ (.cons rfl (.cons rfl (.cons rfl (.cons rfl (.cons rfl (.cons rfl (.nil _))))))) (List.Sublist.cons_cons _ (List.Sublist.refl _)) (fun _ h => .tail _ h) ?_
              · exact ⟨Nat.zero_le _, Row.nil _ _, by simp, rfl⟩
              · rintro ⟨k, acc, v, p⟩ hI
                refine WC_seq (WC_region (Lq (q_lss rfl rfl) (WL_nil (thenN (WC_seq (WC_cond rfl (fun h50 => ?_) (fun h50 => ?_)))))))
                · refine WC_skip (thenN (WC_seq (WC_block (WC_seq ?_))))
                  have hk : k < xs.length := by simpa using h50
                  have hg2 := ckF_at hC hk
                  refine WC_elem (k := k) (.head _) (List.getElem?_eq_getElem hk) (rg_open _) fun b13 q13 y13 e13 => ?_
                  cases e13
                  refine WC_region (Lq (q_idxRd Tryd.underlying29 ti37 rfl rfl (by omega) (by omega)) (Lq (q_loadFN (k := 0) (vs := [_, _]) Tryd.underlying37 rfl ti37 rfl (.head _) rfl rfl rfl) (WL_main rfl (OW_alloc (cs := [_, _]) ti37 rfl (by decide) fun b13 => WL_main rfl (OW_storeN (cs' := [_, _]) (vs := [_, _]) ti37 rfl rfl rfl rfl rfl (Nat.le_of_ble_eq_true rfl) (.z) (WL_nil (thenN (WC_seq (WC_region (Lq (q_move rfl) (Lq (q_field (o' := 0) Tryd.underlying37 rfl ti3 rfl rfl) (Lq (q_load1 Tryd.underlying3 rfl rfl own0 rfl) (Lq (q_field (o' := 1) Tryd.underlying37 rfl ti3 rfl rfl) ?_)))))))))))))
                  refine Lq (q_load1 Tryd.underlying3 rfl rfl own0 rfl) (Lq (q_move rfl) (Lq (q_min rfl rfl) (WL_main rfl (OW_call1 (add_s v acc p xs[k].lo (min xs[k].hi at_) hI.row (by have := hI.len; have := hI.le; omega)) (.cons rfl (.cons rfl (.cons rfl (.nil)))) (by decide) (.s (.z)) mem0 fun va Lo fs hres => ?_))))
                  obtain ⟨pa, hra, rfl, rfl⟩ := hres
                  refine Lq (q_assign rfl) (WL_nil (thenN (WC_region (Lq (q_move rfl) (Lq (q_field (o' := 0) Tryd.underlying37 rfl ti3 rfl rfl) (Lq (q_load1 Tryd.underlying3 rfl rfl (ownS (own0)) rfl) (Lq (q_move rfl) (Lq (q_max rfl rfl) (Lq (q_move rfl) (Lq (q_add rfl rfl (wr64 (by omega))) (Lq (q_field (o' := 1) Tryd.underlying37 rfl ti3 rfl rfl) ?_)))))))))))
                  refine Lq (q_load1 Tryd.underlying3 rfl rfl (ownS (own0)) rfl) (Lq (q_move rfl) (Lq (q_add rfl rfl (wr64 (by omega))) (WL_main rfl (OW_call1 (add_s va (addF acc xs[k].lo (min xs[k].hi at_)) pa (max xs[k].lo at_ + n) (xs[k].hi + n) hra (by have := hI.len; have := hI.le; have := addF_len acc xs[k].lo (min xs[k].hi at_); omega)) (.cons rfl (.cons rfl (.cons rfl (.nil)))) (by decide) (.z) mem0 fun vb Lo fs hres => ?_))))
                  obtain ⟨pb, hrb, rfl, rfl⟩ := hres
                  refine Lq (q_assign rfl) (WL_nil (blockN (thenN (WC_region (Lq (q_add rfl rfl (wr64 (by omega))) (Lq (q_move rfl) (WL_nil (thenK ?_))))))))
                  refine ⟨(k + 1, addF (addF acc xs[k].lo (min xs[k].hi at_)) (max xs[k].lo at_ + n) (xs[k].hi + n), vb, pb), ?_, (.cons rfl (.cons rfl (.cons rfl (.cons rfl (.cons rfl (.cons rfl (.nil _))))))), (List.Sublist.cons_cons _ (List.Sublist.cons _ (List.Sublist.refl _))), (fun _ h => .tail _ h)⟩
                  exact ⟨by show xs.length - (k + 1) < xs.length - k; omega, hI.next hk hrb⟩
                · refine WC_exit (thenExit (thenExit (blockHit (thenN (WC_seq ?_)))))
                  have hD := hI.done (by simpa using h50)
                  refine WC_fact (A := RepsF rgD acc (acc.map rgC)) (fun Z w _ => rgs_reps acc Z w) (WC_freeze (e := rgD) (css := acc.map rgC) hI.row .z rfl (.head _) fun Af cf ef => ?_)
                  subst ef
                  by_cases hb : acc.length > 32768
                  · refine WC_region (Lq (q_move rfl) (WL_main rfl (OW_call0 (bounded_1 Af cf acc hb) (.cons rfl (.nil)) (by decide) mem0 fun u17_1 Lo fs hres => ?_)))
                    obtain ⟨rfl, rfl, rfl⟩ := hres
                    refine Lq (q_extract (vs := [_, _]) rfl rfl) (Lq (q_extract (vs := [_, _]) rfl rfl) (Lq (q_assign rfl) (Lq (q_assign rfl) (WL_nil (thenN (WC_ret ?_))))))
                    refine ⟨_, [], [RdF rgD none 0 []], fun Z w hs => .tmp rfl (.tmp rfl (.nil)), ?_, fun Z w hs => ⟨Z, ((hs.subParts (List.Sublist.refl _)).subFacts (fun _ h => .tail _ (.tail _ h))).addFact (A := RdF rgD none 0 []) (RdS.nil _ _ _)⟩⟩
                    have hF : thrF xs at_ n = ([], 21) := by rw [hOK, hD]; unfold boundF; rw [if_pos hb]
                    exact ⟨none, 0, by rw [hF]; rfl, rfl, by rw [hF]⟩
                  · refine WC_region (Lq (q_move rfl) (WL_main rfl (OW_call0 (bounded_2 Af cf acc hb) (.cons rfl (.nil)) (by decide) mem0 fun u17_1 Lo fs hres => ?_)))
                    obtain ⟨rfl, rfl, rfl⟩ := hres
                    refine Lq (q_extract (vs := [_, _]) rfl rfl) (Lq (q_extract (vs := [_, _]) rfl rfl) (Lq (q_assign rfl) (Lq (q_assign rfl) (WL_nil (thenN (WC_ret ?_))))))
                    refine ⟨_, [], [RdF rgD Af cf acc], fun Z w hs => .tmp rfl (.tmp rfl (.nil)), ?_, fun Z w hs => hs.out (List.Sublist.refl _) (memc (.head _) (fun _ h => .tail _ (.tail _ h)))⟩
                    have hF : thrF xs at_ n = (acc, 0) := by rw [hOK, hD]; unfold boundF; rw [if_neg hb]
                    exact ⟨Af, cf, by rw [hF]; rfl, rfl, by rw [hF]⟩
          · refine Ln rfl rfl rfl g41 (Ln rfl rfl rfl g41 (Ln rfl rfl rfl g41 (Ln rfl rfl rfl g41 (Lq (q_pickF rfl g41 rfl) (WL_nil (thenN (WC_fr [(46, _), (7, _), (6, _), (0, _), (1, _), (2, _)] (.cons rfl (.cons rfl (.cons rfl (.cons rfl (.cons rfl (.cons rfl (.nil _))))))) (WC_false rfl rfl (WC_skip (thenN (WC_seq (WC_region (Lq (q_assign rfl) (WL_nil (thenN (WC_seq (WC_seq (WC_region ?_))))))))))))))))))
            refine Lq (q_move rfl) (Lq (q_len Tryd.underlying29 rfl) (Lq (q_move rfl) (WL_nil (thenN (WC_block ?_)))))
            try simp only [Bp, Bq] at *
            have hC : (ckF xs).2 = 0 := by omega
            have hl2 := (ckF_good hC).1
            have hOK : thrF xs at_ n = boundF (thrL at_ n [] xs) := by
              first
              | exact thrF_ok (by omega) (by omega) hk0 (by omega)
              | (obtain rfl : xs = [] := List.length_eq_zero_iff.1 (by omega); exact thrF_nil (by omega))
            refine WC_nilPart ?_
            refine WC_loopE (α := Nat × List Rg × Value × Part) (fun (k, acc, v, p) => xs.length - k)
              (fun (k, acc, v, p) => [(1, .int .i64 at_), (2, .int .i64 n), (11, v), (47, .slice (some ⟨b7, q7, none⟩) xs.length c), (48, .int .i64 xs.length), (49, .int .i64 k)])
              (fun (k, acc, v, p) => p :: Ps)
              (fun (k, acc, v, p) => (RdF rgD (some ⟨b7, q7, none⟩) c xs :: As))
              (fun (k, acc, v, p) => ThI xs at_ n k acc v p)
              (0, [], .slice none 0 0, []) ?_ (.cons rfl (.cons rfl (.cons rfl (.cons rfl (.cons rfl (.cons rfl (.nil _))))))) (List.Sublist.cons_cons _ (List.Sublist.refl _)) (fun _ h => .tail _ h) ?_
            · exact ⟨Nat.zero_le _, Row.nil _ _, by simp, rfl⟩
            · rintro ⟨k, acc, v, p⟩ hI
              refine WC_seq (WC_region (Lq (q_lss rfl rfl) (WL_nil (thenN (WC_seq (WC_cond rfl (fun h50 => ?_) (fun h50 => ?_)))))))
              · refine WC_skip (thenN (WC_seq (WC_block (WC_seq ?_))))
                have hk : k < xs.length := by simpa using h50
                have hg2 := ckF_at hC hk
                refine WC_elem (k := k) (.head _) (List.getElem?_eq_getElem hk) (rg_open _) fun b13 q13 y13 e13 => ?_
                cases e13
                refine WC_region (Lq (q_idxRd Tryd.underlying29 ti37 rfl rfl (by omega) (by omega)) (Lq (q_loadFN (k := 0) (vs := [_, _]) Tryd.underlying37 rfl ti37 rfl (.head _) rfl rfl rfl) (WL_main rfl (OW_alloc (cs := [_, _]) ti37 rfl (by decide) fun b13 => WL_main rfl (OW_storeN (cs' := [_, _]) (vs := [_, _]) ti37 rfl rfl rfl rfl rfl (Nat.le_of_ble_eq_true rfl) (.z) (WL_nil (thenN (WC_seq (WC_region (Lq (q_move rfl) (Lq (q_field (o' := 0) Tryd.underlying37 rfl ti3 rfl rfl) (Lq (q_load1 Tryd.underlying3 rfl rfl own0 rfl) (Lq (q_field (o' := 1) Tryd.underlying37 rfl ti3 rfl rfl) ?_)))))))))))))
                refine Lq (q_load1 Tryd.underlying3 rfl rfl own0 rfl) (Lq (q_move rfl) (Lq (q_min rfl rfl) (WL_main rfl (OW_call1 (add_s v acc p xs[k].lo (min xs[k].hi at_) hI.row (by have := hI.len; have := hI.le; omega)) (.cons rfl (.cons rfl (.cons rfl (.nil)))) (by decide) (.s (.z)) mem0 fun va Lo fs hres => ?_))))
                obtain ⟨pa, hra, rfl, rfl⟩ := hres
                refine Lq (q_assign rfl) (WL_nil (thenN (WC_region (Lq (q_move rfl) (Lq (q_field (o' := 0) Tryd.underlying37 rfl ti3 rfl rfl) (Lq (q_load1 Tryd.underlying3 rfl rfl (ownS (own0)) rfl) (Lq (q_move rfl) (Lq (q_max rfl rfl) (Lq (q_move rfl) (Lq (q_add rfl rfl (wr64 (by omega))) (Lq (q_field (o' := 1) Tryd.underlying37 rfl ti3 rfl rfl) ?_)))))))))))
                refine Lq (q_load1 Tryd.underlying3 rfl rfl (ownS (own0)) rfl) (Lq (q_move rfl) (Lq (q_add rfl rfl (wr64 (by omega))) (WL_main rfl (OW_call1 (add_s va (addF acc xs[k].lo (min xs[k].hi at_)) pa (max xs[k].lo at_ + n) (xs[k].hi + n) hra (by have := hI.len; have := hI.le; have := addF_len acc xs[k].lo (min xs[k].hi at_); omega)) (.cons rfl (.cons rfl (.cons rfl (.nil)))) (by decide) (.z) mem0 fun vb Lo fs hres => ?_))))
                obtain ⟨pb, hrb, rfl, rfl⟩ := hres
                refine Lq (q_assign rfl) (WL_nil (blockN (thenN (WC_region (Lq (q_add rfl rfl (wr64 (by omega))) (Lq (q_move rfl) (WL_nil (thenK ?_))))))))
                refine ⟨(k + 1, addF (addF acc xs[k].lo (min xs[k].hi at_)) (max xs[k].lo at_ + n) (xs[k].hi + n), vb, pb), ?_, (.cons rfl (.cons rfl (.cons rfl (.cons rfl (.cons rfl (.cons rfl (.nil _))))))), (List.Sublist.cons_cons _ (List.Sublist.cons _ (List.Sublist.refl _))), (fun _ h => .tail _ h)⟩
                exact ⟨by show xs.length - (k + 1) < xs.length - k; omega, hI.next hk hrb⟩
              · refine WC_exit (thenExit (thenExit (blockHit (thenN (WC_seq ?_)))))
                have hD := hI.done (by simpa using h50)
                refine WC_fact (A := RepsF rgD acc (acc.map rgC)) (fun Z w _ => rgs_reps acc Z w) (WC_freeze (e := rgD) (css := acc.map rgC) hI.row .z rfl (.head _) fun Af cf ef => ?_)
                subst ef
                by_cases hb : acc.length > 32768
                · refine WC_region (Lq (q_move rfl) (WL_main rfl (OW_call0 (bounded_1 Af cf acc hb) (.cons rfl (.nil)) (by decide) mem0 fun u17_1 Lo fs hres => ?_)))
                  obtain ⟨rfl, rfl, rfl⟩ := hres
                  refine Lq (q_extract (vs := [_, _]) rfl rfl) (Lq (q_extract (vs := [_, _]) rfl rfl) (Lq (q_assign rfl) (Lq (q_assign rfl) (WL_nil (thenN (WC_ret ?_))))))
                  refine ⟨_, [], [RdF rgD none 0 []], fun Z w hs => .tmp rfl (.tmp rfl (.nil)), ?_, fun Z w hs => ⟨Z, ((hs.subParts (List.Sublist.refl _)).subFacts (fun _ h => .tail _ (.tail _ h))).addFact (A := RdF rgD none 0 []) (RdS.nil _ _ _)⟩⟩
                  have hF : thrF xs at_ n = ([], 21) := by rw [hOK, hD]; unfold boundF; rw [if_pos hb]
                  exact ⟨none, 0, by rw [hF]; rfl, rfl, by rw [hF]⟩
                · refine WC_region (Lq (q_move rfl) (WL_main rfl (OW_call0 (bounded_2 Af cf acc hb) (.cons rfl (.nil)) (by decide) mem0 fun u17_1 Lo fs hres => ?_)))
                  obtain ⟨rfl, rfl, rfl⟩ := hres
                  refine Lq (q_extract (vs := [_, _]) rfl rfl) (Lq (q_extract (vs := [_, _]) rfl rfl) (Lq (q_assign rfl) (Lq (q_assign rfl) (WL_nil (thenN (WC_ret ?_))))))
                  refine ⟨_, [], [RdF rgD Af cf acc], fun Z w hs => .tmp rfl (.tmp rfl (.nil)), ?_, fun Z w hs => hs.out (List.Sublist.refl _) (memc (.head _) (fun _ h => .tail _ (.tail _ h)))⟩
                  have hF : thrF xs at_ n = (acc, 0) := by rw [hOK, hD]; unfold boundF; rw [if_neg hb]
                  exact ⟨Af, cf, by rw [hF]; rfl, rfl, by rw [hF]⟩
        · refine WC_skip (thenN (WC_seq (WC_region (Lq (q_assign rfl) (WL_nil (thenN (WC_seq (WC_seq (WC_region (Lq (q_move rfl) (Lq (q_len Tryd.underlying29 rfl) (Lq (q_move rfl) (WL_nil (thenN (WC_block ?_)))))))))))))))
          try simp only [Bp, Bq] at *
          have hC : (ckF xs).2 = 0 := by omega
          have hl2 := (ckF_good hC).1
          have hOK : thrF xs at_ n = boundF (thrL at_ n [] xs) := by
            first
            | exact thrF_ok (by omega) (by omega) hk0 (by omega)
            | (obtain rfl : xs = [] := List.length_eq_zero_iff.1 (by omega); exact thrF_nil (by omega))
          refine WC_nilPart ?_
          refine WC_loopE (α := Nat × List Rg × Value × Part) (fun (k, acc, v, p) => xs.length - k)
            (fun (k, acc, v, p) => [(1, .int .i64 at_), (2, .int .i64 n), (11, v), (47, .slice A xs.length c), (48, .int .i64 xs.length), (49, .int .i64 k)])
            (fun (k, acc, v, p) => p :: Ps)
            (fun (k, acc, v, p) => (RdF rgD A c xs :: As))
            (fun (k, acc, v, p) => ThI xs at_ n k acc v p)
            (0, [], .slice none 0 0, []) ?_ (.cons rfl (.cons rfl (.cons rfl (.cons rfl (.cons rfl (.cons rfl (.nil _))))))) (List.Sublist.cons_cons _ (List.Sublist.refl _)) (fun _ h => h) ?_
          · exact ⟨Nat.zero_le _, Row.nil _ _, by simp, rfl⟩
          · rintro ⟨k, acc, v, p⟩ hI
            refine WC_seq (WC_region (Lq (q_lss rfl rfl) (WL_nil (thenN (WC_seq (WC_cond rfl (fun h50 => ?_) (fun h50 => ?_)))))))
            · refine WC_skip (thenN (WC_seq (WC_block (WC_seq ?_))))
              have hk : k < xs.length := by simpa using h50
              have hg2 := ckF_at hC hk
              refine WC_elem (k := k) (.head _) (List.getElem?_eq_getElem hk) (rg_open _) fun b13 q13 y13 e13 => ?_
              cases e13
              refine WC_region (Lq (q_idxRd Tryd.underlying29 ti37 rfl rfl (by omega) (by omega)) (Lq (q_loadFN (k := 0) (vs := [_, _]) Tryd.underlying37 rfl ti37 rfl (.head _) rfl rfl rfl) (WL_main rfl (OW_alloc (cs := [_, _]) ti37 rfl (by decide) fun b13 => WL_main rfl (OW_storeN (cs' := [_, _]) (vs := [_, _]) ti37 rfl rfl rfl rfl rfl (Nat.le_of_ble_eq_true rfl) (.z) (WL_nil (thenN (WC_seq (WC_region (Lq (q_move rfl) (Lq (q_field (o' := 0) Tryd.underlying37 rfl ti3 rfl rfl) (Lq (q_load1 Tryd.underlying3 rfl rfl own0 rfl) (Lq (q_field (o' := 1) Tryd.underlying37 rfl ti3 rfl rfl) ?_)))))))))))))
              refine Lq (q_load1 Tryd.underlying3 rfl rfl own0 rfl) (Lq (q_move rfl) (Lq (q_min rfl rfl) (WL_main rfl (OW_call1 (add_s v acc p xs[k].lo (min xs[k].hi at_) hI.row (by have := hI.len; have := hI.le; omega)) (.cons rfl (.cons rfl (.cons rfl (.nil)))) (by decide) (.s (.z)) mem0 fun va Lo fs hres => ?_))))
              obtain ⟨pa, hra, rfl, rfl⟩ := hres
              refine Lq (q_assign rfl) (WL_nil (thenN (WC_region (Lq (q_move rfl) (Lq (q_field (o' := 0) Tryd.underlying37 rfl ti3 rfl rfl) (Lq (q_load1 Tryd.underlying3 rfl rfl (ownS (own0)) rfl) (Lq (q_move rfl) (Lq (q_max rfl rfl) (Lq (q_move rfl) (Lq (q_add rfl rfl (wr64 (by omega))) (Lq (q_field (o' := 1) Tryd.underlying37 rfl ti3 rfl rfl) ?_)))))))))))
              refine Lq (q_load1 Tryd.underlying3 rfl rfl (ownS (own0)) rfl) (Lq (q_move rfl) (Lq (q_add rfl rfl (wr64 (by omega))) (WL_main rfl (OW_call1 (add_s va (addF acc xs[k].lo (min xs[k].hi at_)) pa (max xs[k].lo at_ + n) (xs[k].hi + n) hra (by have := hI.len; have := hI.le; have := addF_len acc xs[k].lo (min xs[k].hi at_); omega)) (.cons rfl (.cons rfl (.cons rfl (.nil)))) (by decide) (.z) mem0 fun vb Lo fs hres => ?_))))
              obtain ⟨pb, hrb, rfl, rfl⟩ := hres
              refine Lq (q_assign rfl) (WL_nil (blockN (thenN (WC_region (Lq (q_add rfl rfl (wr64 (by omega))) (Lq (q_move rfl) (WL_nil (thenK ?_))))))))
              refine ⟨(k + 1, addF (addF acc xs[k].lo (min xs[k].hi at_)) (max xs[k].lo at_ + n) (xs[k].hi + n), vb, pb), ?_, (.cons rfl (.cons rfl (.cons rfl (.cons rfl (.cons rfl (.cons rfl (.nil _))))))), (List.Sublist.cons_cons _ (List.Sublist.cons _ (List.Sublist.refl _))), (fun _ h => .tail _ h)⟩
              exact ⟨by show xs.length - (k + 1) < xs.length - k; omega, hI.next hk hrb⟩
            · refine WC_exit (thenExit (thenExit (blockHit (thenN (WC_seq ?_)))))
              have hD := hI.done (by simpa using h50)
              refine WC_fact (A := RepsF rgD acc (acc.map rgC)) (fun Z w _ => rgs_reps acc Z w) (WC_freeze (e := rgD) (css := acc.map rgC) hI.row .z rfl (.head _) fun Af cf ef => ?_)
              subst ef
              by_cases hb : acc.length > 32768
              · refine WC_region (Lq (q_move rfl) (WL_main rfl (OW_call0 (bounded_1 Af cf acc hb) (.cons rfl (.nil)) (by decide) mem0 fun u17_1 Lo fs hres => ?_)))
                obtain ⟨rfl, rfl, rfl⟩ := hres
                refine Lq (q_extract (vs := [_, _]) rfl rfl) (Lq (q_extract (vs := [_, _]) rfl rfl) (Lq (q_assign rfl) (Lq (q_assign rfl) (WL_nil (thenN (WC_ret ?_))))))
                refine ⟨_, [], [RdF rgD none 0 []], fun Z w hs => .tmp rfl (.tmp rfl (.nil)), ?_, fun Z w hs => ⟨Z, ((hs.subParts (List.Sublist.refl _)).subFacts (fun _ h => .tail _ (.tail _ h))).addFact (A := RdF rgD none 0 []) (RdS.nil _ _ _)⟩⟩
                have hF : thrF xs at_ n = ([], 21) := by rw [hOK, hD]; unfold boundF; rw [if_pos hb]
                exact ⟨none, 0, by rw [hF]; rfl, rfl, by rw [hF]⟩
              · refine WC_region (Lq (q_move rfl) (WL_main rfl (OW_call0 (bounded_2 Af cf acc hb) (.cons rfl (.nil)) (by decide) mem0 fun u17_1 Lo fs hres => ?_)))
                obtain ⟨rfl, rfl, rfl⟩ := hres
                refine Lq (q_extract (vs := [_, _]) rfl rfl) (Lq (q_extract (vs := [_, _]) rfl rfl) (Lq (q_assign rfl) (Lq (q_assign rfl) (WL_nil (thenN (WC_ret ?_))))))
                refine ⟨_, [], [RdF rgD Af cf acc], fun Z w hs => .tmp rfl (.tmp rfl (.nil)), ?_, fun Z w hs => hs.out (List.Sublist.refl _) (memc (.head _) (fun _ h => .tail _ (.tail _ h)))⟩
                have hF : thrF xs at_ n = (acc, 0) := by rw [hOK, hD]; unfold boundF; rw [if_neg hb]
                exact ⟨Af, cf, by rw [hF]; rfl, rfl, by rw [hF]⟩

end Go.Proofs.YtggdddkbhigjoaaDoor
/- Walks: begins. -/
namespace Go.Proofs.YtggdddkbhigjoaaDoor
open Go Go.GW
set_option maxRecDepth 10000 in
theorem prefix_s (s t : ByteArray) : Sp Tryd.prog 110 [.string s, .string t] [] [] (Is (.bool (prefF s t))) := by
  refine Sp.of (n := 18) ⟨_, Tryd.func110, rfl, rfl, rfl, rfl⟩ (Nat.le_of_ble_eq_true rfl) fun Ps As => WC_seq (WC_region (Lq (q_assign rfl) (WL_nil (thenN (WC_seq (WC_region (Lq (q_move rfl) (Lq (q_lenS Tryd.underlying9 rfl) (Lq (q_move rfl) (Lq (q_lenS Tryd.underlying9 rfl) (Lq (q_geq rfl rfl) (Lq (q_move rfl) ?_))))))))))))
  refine WL_guard (t := 10) rfl (fun g10 => ?_) (fun g10 => ?_)
  · refine Lg rfl rfl rfl g10 (q_move rfl) (Lg rfl rfl rfl g10 (q_move rfl) (Lg rfl rfl rfl g10 (q_lenS Tryd.underlying9 rfl) (Lg rfl rfl rfl g10 (q_sliceShi Tryd.underlying9 rfl rfl (by omega) (by simpa using g10)) (Lg rfl rfl rfl g10 (q_move rfl) (Lg rfl rfl rfl g10 (q_seql rfl rfl) (Lq (q_pickT rfl g10 rfl) (Lq (q_assign rfl) (WL_nil (thenN (WC_fr [(4, _)] (.cons rfl (.nil _)) ?_))))))))))
    refine WC_ret ?_
    refine ⟨_, [], [], fun Z w hs => .tmp rfl (.nil), ?_, fun Z w hs => hs.out (List.Sublist.refl _) (fun _ h => h)⟩
    exact ⟨by unfold prefF; simp at g10; simp [tup, g10] <;> omega, rfl, rfl⟩
  · refine Ln rfl rfl rfl g10 (Ln rfl rfl rfl g10 (Ln rfl rfl rfl g10 (Ln rfl rfl rfl g10 (Ln rfl rfl rfl g10 (Ln rfl rfl rfl g10 (Lq (q_pickF rfl g10 rfl) (Lq (q_assign rfl) (WL_nil (thenN (WC_fr [(4, _)] (.cons rfl (.nil _)) ?_))))))))))
    refine WC_ret ?_
    refine ⟨_, [], [], fun Z w hs => .tmp rfl (.nil), ?_, fun Z w hs => hs.out (List.Sublist.refl _) (fun _ h => h)⟩
    exact ⟨by unfold prefF; simp at g10; simp [tup, g10] <;> omega, rfl, rfl⟩


set_option maxRecDepth 10000 in
theorem sprefix_s (s t : ByteArray) : Sp Tryd.prog 105 [.string s, .string t] [] [] (Is (.bool (prefF s t))) := by
  refine Sp.of (n := 8) ⟨_, Tryd.func105, rfl, rfl, rfl, rfl⟩ (Nat.le_of_ble_eq_true rfl) fun Ps As => WC_seq (WC_region (Lq (q_assign rfl) (WL_nil (thenN (WC_seq (WC_region (Lq (q_move rfl) (Lq (q_move rfl) (WL_main rfl (OW_call0 (prefix_s s t) (.cons rfl (.cons rfl (.nil))) (by decide) mem0 fun u1_2 Lo fs hres => ?_))))))))))
  obtain ⟨rfl, rfl, rfl⟩ := hres
  refine Lq (q_assign rfl) (WL_nil (thenN (WC_ret ?_)))
  refine ⟨_, [], [], fun Z w hs => .tmp rfl (.nil), ?_, fun Z w hs => hs.out (List.Sublist.refl _) (fun _ h => h)⟩
  exact ⟨rfl, rfl, rfl⟩


set_option maxRecDepth 10000 in
theorem begins_s (s : ByteArray) (p : Nat) (c : Int) (hp : p ≤ s.size) : Sp Tryd.prog 92 [.string s, .int .i64 p, .int .i32 c] [] [] (Is (.bool (begF s p c))) := by
  refine Sp.of (n := 15) ⟨_, Tryd.func92, rfl, rfl, rfl, rfl⟩ (Nat.le_of_ble_eq_true rfl) fun Ps As => WC_seq (WC_region (Lq (q_assign rfl) (WL_nil (thenN (WC_seq (WC_region (Lq (q_move rfl) (Lq (q_neq rfl rfl) (Lq (q_move rfl) (WL_guard (t := 9) rfl (fun g9 => ?_) (fun g9 => ?_)))))))))))
  · refine Ln rfl rfl rfl g9 (Ln rfl rfl rfl g9 (Ln rfl rfl rfl g9 (Ln rfl rfl rfl g9 (Lq (q_pickT rfl g9 rfl) (Lq (q_assign rfl) (WL_nil (thenN (WC_ret ?_))))))))
    refine ⟨_, [], [], fun Z w hs => .tmp rfl (.nil), ?_, fun Z w hs => hs.out (List.Sublist.refl _) (fun _ h => h)⟩
    exact ⟨by unfold begF; simp at g9; simp [tup, g9], rfl, rfl⟩
  · refine Lg rfl rfl rfl g9 (q_move rfl) (Lg rfl rfl rfl g9 (q_move rfl) (Lg rfl rfl rfl g9 (q_sliceSlo Tryd.underlying9 rfl rfl (by omega) (by omega)) (WL_gmain rfl rfl rfl g9 (OW_call0 (sprefix_s (s.extract p s.size) fffd) (.cons rfl (.cons rfl (.nil))) (by decide) mem0 fun u1_6 Lo fs hres => ?_))))
    obtain ⟨rfl, rfl, rfl⟩ := hres
    refine Lq (q_pickF rfl g9 rfl) (Lq (q_assign rfl) (WL_nil (thenN (WC_ret ?_))))
    refine ⟨_, [], [], fun Z w hs => .tmp rfl (.nil), ?_, fun Z w hs => hs.out (List.Sublist.refl _) (fun _ h => h)⟩
    exact ⟨by unfold begF; simp at g9; simp [tup, g9], rfl, rfl⟩

def LetI (c : Int) (k : Nat) : Prop := k ≤ 5 ∧ ∀ (j : Nat) (h : j < barL.length), j < k → ¬ (barL[j].1 ≤ c ∧ c ≤ barL[j].2)
theorem LetI.hit {c : Int} {k : Nat} (hk : k < barL.length) (h : barL[k].1 ≤ c ∧ c ≤ barL[k].2) : letF c = false := by
  unfold letF
  have : (barL.all fun b => !(decide (b.1 ≤ c) && decide (c ≤ b.2))) = false := by
    rw [List.all_eq_false]
    exact ⟨_, List.getElem_mem hk, by simp [h]⟩
  rw [this]; rfl
theorem LetI.next {c : Int} {k : Nat} (h : LetI c k) (hk : k < barL.length) (hn : ¬ (barL[k].1 ≤ c ∧ c ≤ barL[k].2)) : LetI c (k + 1) := by
  refine ⟨hk, fun j hj hjk => ?_⟩
  by_cases e : j = k
  · subst e; exact hn
  · exact h.2 j hj (by omega)
theorem LetI.done {c : Int} {k : Nat} (h : LetI c k) (hk : ¬ (k : Int) < 5) : letF c = decide (c % 65536 < 65534) := by
  unfold letF
  have : (barL.all fun b => !(decide (b.1 ≤ c) && decide (c ≤ b.2))) = true := by
    rw [List.all_eq_true]
    intro b hb
    obtain ⟨j, hj, rfl⟩ := List.mem_iff_getElem.1 hb
    have hj5 : j < 5 := hj
    have := h.2 j hj (by omega)
    simpa [-not_and, Decidable.not_and_iff_not_or_not] using this
  rw [this]; rfl

set_option maxRecDepth 10000 in
theorem letIn_s (c : Int) : Sp Tryd.prog 93 [.int .i32 c] [] [barF] (Is (.bool (letF c))) := by
  refine Sp.of (n := 23) ⟨_, Tryd.func93, rfl, rfl, rfl, rfl⟩ (Nat.le_of_ble_eq_true rfl) fun Ps As => WC_seq (WC_region (Lq (q_assign rfl) (WL_nil (thenN (WC_seq (WC_seq (WC_region (Lq (q_loadFN (k := 0) (vs := barC) Tryd.underlying187 rfl ti187 rfl (.head _) rfl rfl rfl) (Lq (q_move rfl) (WL_nil (thenN (WC_block ?_))))))))))))
  refine WC_loopE (α := Nat) (fun k => 5 - k)
    (fun k => [(0, .int .i32 c), (5, .agg barC.toArray), (6, .int .i64 k)])
    (fun k => Ps)
    (fun k => (barF :: As))
    (fun k => LetI c k)
    0 ?_ (.cons rfl (.cons rfl (.cons rfl (.nil _)))) (List.Sublist.refl _) (fun _ h => h) ?_
  · exact ⟨Nat.zero_le _, fun j hj hjk => absurd hjk (by omega)⟩
  · rintro k hI
    refine WC_seq (WC_region (Lq (q_lss rfl rfl) (WL_nil (thenN (WC_seq (WC_cond rfl (fun h7 => ?_) (fun h7 => ?_)))))))
    · refine WC_skip (thenN (WC_seq (WC_block (WC_seq ?_))))
      try simp only [Bp, Bq] at *
      have hk : k < barL.length := by show k < 5; omega
      refine WC_region (Lq (q_index2 Tryd.underlying187 Tryd.underlying186 rfl ti186 rfl rfl (by omega) (by omega) (bar_at k hk)) (WL_main rfl (OW_alloc (cs := [_, _]) ti186 rfl (by decide) fun b4 => WL_main rfl (OW_storeN (cs' := [_, _]) (vs := [_, _]) ti186 rfl rfl rfl rfl rfl (Nat.le_of_ble_eq_true rfl) (.z) (WL_nil (thenN (WC_seq (WC_region (Lq (q_field (o' := 0) Tryd.underlying186 rfl ti21 rfl rfl) (Lq (q_load1 Tryd.underlying21 rfl rfl own0 rfl) (Lq (q_move rfl) (Lq (q_leq rfl rfl) (Lq (q_move rfl) ?_)))))))))))))
      refine WL_guard (t := 13) rfl (fun g13 => ?_) (fun g13 => ?_)
      · refine Lg rfl rfl rfl g13 (q_move rfl) (Lg rfl rfl rfl g13 (q_field (o' := 1) Tryd.underlying186 rfl ti21 rfl rfl) (Lg rfl rfl rfl g13 (q_load1 Tryd.underlying21 rfl rfl own0 rfl) (Lg rfl rfl rfl g13 (q_leq rfl rfl) (Lq (q_pickT rfl g13 rfl) (WL_nil (thenN (WC_cond rfl (fun h18 => ?_) (fun h18 => ?_))))))))
        · refine WC_seq (WC_region (Lq (q_assign rfl) (WL_nil (thenN (WC_ret (blockRet (thenRet (thenRet (blockRet (thenRet ?_))))))))))
          refine ⟨_, [], [], fun Z w hs => .tmp rfl (.nil), ?_, fun Z w hs => hs.out (List.Sublist.cons _ (List.Sublist.refl _)) (fun _ h => h)⟩
          try simp only [Bp, Bq] at *
          first
            | exact ⟨by rw [hI.done (by omega)]; rfl, rfl, rfl⟩
            | exact ⟨by rw [LetI.hit hk (by omega)]; rfl, rfl, rfl⟩
        · refine WC_skip (blockN (thenN (WC_region (Lq (q_add rfl rfl (wr64 (by omega))) (Lq (q_move rfl) (WL_nil (thenK ?_)))))))
          refine ⟨k + 1, ?_, (.cons rfl (.cons rfl (.cons rfl (.nil _)))), (List.Sublist.cons _ (List.Sublist.refl _)), (fun _ h => h)⟩
          try simp only [Bp, Bq] at *
          exact ⟨by omega, hI.next hk (by omega)⟩
      · refine Ln rfl rfl rfl g13 (Ln rfl rfl rfl g13 (Ln rfl rfl rfl g13 (Ln rfl rfl rfl g13 (Lq (q_pickF rfl g13 rfl) (WL_nil (thenN (WC_false rfl rfl (WC_skip (blockN (thenN (WC_region (Lq (q_add rfl rfl (wr64 (by omega))) (Lq (q_move rfl) (WL_nil (thenK ?_)))))))))))))))
        refine ⟨k + 1, ?_, (.cons rfl (.cons rfl (.cons rfl (.nil _)))), (List.Sublist.cons _ (List.Sublist.refl _)), (fun _ h => h)⟩
        try simp only [Bp, Bq] at *
        exact ⟨by omega, hI.next hk (by omega)⟩
    · refine WC_exit (thenExit (thenExit (blockHit (thenN (WC_seq (WC_region (Lq (q_move rfl) (Lq (q_and rfl rfl (i32_and65535 _)) (Lq (q_lss rfl rfl) (Lq (q_assign rfl) (WL_nil (thenN (WC_ret ?_)))))))))))))
      refine ⟨_, [], [], fun Z w hs => .tmp rfl (.nil), ?_, fun Z w hs => hs.out (List.Sublist.refl _) (fun _ h => h)⟩
      try simp only [Bp, Bq] at *
      first
        | exact ⟨by rw [hI.done (by omega)]; rfl, rfl, rfl⟩
        | exact ⟨by rw [LetI.hit hk (by omega)]; rfl, rfl, rfl⟩

end Go.Proofs.YtggdddkbhigjoaaDoor
/- Walks: utext.Check. -/
namespace Go.Proofs.YtggdddkbhigjoaaDoor
open Go Go.GW
structure UtI (s : ByteArray) (p k : Nat) : Prop where
  le : p ≤ s.size
  kp : k ≤ p
  eq : utF s = utAt s p k

set_option maxRecDepth 10000 in
theorem utCheck_s (s : ByteArray) (hs : s.size ≤ 4611686018427387904) : Sp Tryd.prog 68 [.string s] [] [barF] (Is (.tuple #[.int .i64 (utF s).1, .int .i64 (utF s).2.1, .int .i64 (utF s).2.2])) := by
  refine Sp.of (n := 27) ⟨_, Tryd.func68, rfl, rfl, rfl, rfl⟩ (Nat.le_of_ble_eq_true rfl) fun Ps As => WC_seq (WC_region (Lq (q_assign rfl) (Lq (q_assign rfl) (Lq (q_assign rfl) (WL_nil (thenN (WC_seq (WC_region (Lq (q_assign rfl) (WL_nil (thenN (WC_seq (WC_seq (WC_region (Lq (q_move rfl) (WL_main rfl (OW_rangeS Tryd.underlying9 rfl (by decide) fun b9 => ?_)))))))))))))))))
  refine WL_nil (thenN (WC_block ?_))
  refine WC_loopE (α := Nat × Nat) (fun (p, k) => s.size - p)
    (fun (p, k) => [(0, .string s), (9, .pointer (some ⟨b9, 0, none⟩)), (5, .int .i64 k)])
    (fun (p, k) => ([(b9, .stringIter s p)] :: Ps))
    (fun (p, k) => (barF :: As))
    (fun (p, k) => UtI s p k)
    (0, 0) ?_ (.cons rfl (.cons rfl (.cons rfl (.nil _)))) (List.Sublist.cons_cons _ (List.Sublist.refl _)) (fun _ h => h) ?_
  · exact ⟨Nat.zero_le _, Nat.le_refl _, rfl⟩
  · rintro ⟨p, k⟩ hI
    have hle := hI.le
    have hkp := hI.kp
    refine WC_seq ?_
    by_cases hp : p < s.size
    · refine WC_region (WL_main rfl (OW_nextS1 rfl hp (.z) (by decide) (Lq (q_extract (vs := [_, _, _]) rfl rfl) (WL_nil (thenN (WC_seq (WC_true rfl rfl (WC_skip (thenN (WC_block (WC_seq (WC_region (Lq (q_extract (vs := [_, _, _]) rfl rfl) (Lq (q_extract (vs := [_, _, _]) rfl rfl) (Lq (q_assign rfl) (Lq (q_assign rfl) (WL_nil (thenN (WC_seq (WC_seq (WC_region ?_)))))))))))))))))))))
      refine Lq (q_move rfl) (Lq (q_move rfl) (Lq (q_move rfl) (WL_main rfl (OW_call0 (begins_s s p (Utf8.decode s p).1 (by omega)) (.cons rfl (.cons rfl (.cons rfl (.nil)))) (by decide) mem0 fun u5_3 Lo fs hres => ?_))))
      obtain ⟨rfl, rfl, rfl⟩ := hres
      refine Lq (q_not rfl) (WL_nil (thenN (WC_cond rfl (fun h18 => ?_) (fun h18 => ?_))))
      · refine WC_seq (WC_region (Lq (q_move rfl) (Lq (q_assign rfl) (Lq (q_assign rfl) (Lq (q_assign rfl) (WL_nil (thenN (WC_ret (thenRet (blockRet (thenRet (blockRet (thenRet ?_)))))))))))))
        refine ⟨_, [], [], fun Z w hs => .tmp rfl (.tmp rfl (.tmp rfl (.nil))), ?_, fun Z w hs => hs.out (List.Sublist.cons _ (List.Sublist.refl _)) (fun _ h => h)⟩
        first
          | (have hF := hI.eq.trans (utAt_end hp); exact ⟨by rw [hF]; rfl, rfl, rfl⟩)
          | (have hF := hI.eq.trans (utAt_utf8 hp (by simp_all)); exact ⟨by rw [hF]; rfl, rfl, rfl⟩)
          | (have hF := hI.eq.trans (utAt_rune hp (by simp_all) (by simp_all)); exact ⟨by rw [hF]; rfl, rfl, rfl⟩)
      · refine WC_skip (thenN (WC_seq (WC_seq (WC_region (Lq (q_move rfl) (WL_main rfl (OW_call0 (letIn_s (Utf8.decode s p).1) (.cons rfl (.nil)) (by decide) (memc (.head _) mem0) fun u7_1 Lo fs hres => ?_)))))))
        obtain ⟨rfl, rfl, rfl⟩ := hres
        refine Lq (q_not rfl) (WL_nil (thenN (WC_cond rfl (fun h22 => ?_) (fun h22 => ?_))))
        · refine WC_seq (WC_region (Lq (q_move rfl) (Lq (q_assign rfl) (Lq (q_assign rfl) (Lq (q_assign rfl) (WL_nil (thenN (WC_ret (thenRet (blockRet (thenRet (blockRet (thenRet ?_)))))))))))))
          refine ⟨_, [], [], fun Z w hs => .tmp rfl (.tmp rfl (.tmp rfl (.nil))), ?_, fun Z w hs => hs.out (List.Sublist.cons _ (List.Sublist.refl _)) (fun _ h => h)⟩
          first
            | (have hF := hI.eq.trans (utAt_end hp); exact ⟨by rw [hF]; rfl, rfl, rfl⟩)
            | (have hF := hI.eq.trans (utAt_utf8 hp (by simp_all)); exact ⟨by rw [hF]; rfl, rfl, rfl⟩)
            | (have hF := hI.eq.trans (utAt_rune hp (by simp_all) (by simp_all)); exact ⟨by rw [hF]; rfl, rfl, rfl⟩)
        · refine WC_skip (thenN (WC_region (Lq (q_move rfl) (Lq (q_add rfl rfl (wr64 (by omega)) (c := ((k + 1 : Nat) : Int))) (Lq (q_assign rfl) (WL_nil (blockN (thenK ?_))))))))
          have hd := decode_pos s p
          have hd2 := decode_leP hp
          refine ⟨(p + (Utf8.decode s p).2, k + 1), ?_, (.cons rfl (.cons rfl (.cons rfl (.nil _)))), (List.Sublist.cons_cons _ (List.Sublist.refl _)), (fun _ h => h)⟩
          try simp only [Bp, Bq] at *
          exact ⟨by show s.size - (p + (Utf8.decode s p).2) < s.size - p; omega, by show p + (Utf8.decode s p).2 ≤ s.size; exact hd2, by show k + 1 ≤ p + (Utf8.decode s p).2; omega, by rw [hI.eq, utAt_next hp (by simp_all) (by simp_all)]⟩
    · refine WC_region (WL_main rfl (OW_nextS0 rfl own0 hp (by decide) (Lq (q_extract (vs := [_]) rfl rfl) (WL_nil (thenN (WC_seq (WC_false rfl rfl (WC_exit (thenExit (thenExit (blockHit (thenN (WC_seq (WC_region (Lq (q_move rfl) (Lq (q_assign rfl) (Lq (q_assign rfl) (Lq (q_assign rfl) (WL_nil (thenN (WC_ret ?_)))))))))))))))))))))
      refine ⟨_, [], [], fun Z w hs => .tmp rfl (.tmp rfl (.tmp rfl (.nil))), ?_, fun Z w hs => hs.out (List.Sublist.cons _ (List.Sublist.refl _)) (fun _ h => h)⟩
      first
        | (have hF := hI.eq.trans (utAt_end hp); exact ⟨by rw [hF]; rfl, rfl, rfl⟩)
        | (have hF := hI.eq.trans (utAt_utf8 hp (by simp_all)); exact ⟨by rw [hF]; rfl, rfl, rfl⟩)
        | (have hF := hI.eq.trans (utAt_rune hp (by simp_all) (by simp_all)); exact ⟨by rw [hF]; rfl, rfl, rfl⟩)

end Go.Proofs.YtggdddkbhigjoaaDoor
/- Walks: rope.New, Total, Insert, Bump. -/
namespace Go.Proofs.YtggdddkbhigjoaaDoor
open Go Go.GW
theorem bd115Xw32  (w : World) : (Instr.build 115 #[]).run Tryd.prog w = .ok (.agg #[.pointer none]) w := by kernel_rfl

set_option maxRecDepth 10000 in
theorem rnew_s : Sp Tryd.prog 63 [] [] [] (fun v Lo fs => ∃ b : Nat, v = .pointer (some ⟨b, 0, none⟩) ∧ Lo = [rpP b none] ∧ fs = []) := by
  refine Sp.of (n := 3) ⟨_, Tryd.func63, rfl, rfl, rfl, rfl⟩ (Nat.le_of_ble_eq_true rfl) fun Ps As => WC_seq (WC_region (Lq (q_assign rfl) (WL_nil (thenN (WC_seq (WC_region (Lq (q_build (.nil) (bd115Xw32)) (WL_main rfl (OW_box (cs := [_]) rfl rfl (by decide) fun b2 => Lq (q_assign rfl) (WL_nil (thenN (WC_ret ?_))))))))))))
  refine ⟨_, [_], [], fun Z w hs => .tmp rfl (.nil), ?_, fun Z w hs => hs.out (List.Sublist.cons_cons _ (List.Sublist.refl _)) (fun _ h => h)⟩
  exact ⟨_, rfl, rfl, rfl⟩

theorem fd112_0Xw32 (x0 : Int) (x1 : Int) (x2 : Int) (x3 : Int) (x4 : Int) (x5 : Int) (w : World) : (Instr.field 112 (.agg #[.int .i64 x0, .int .i64 x1, .int .i64 x2, .int .i64 x3, .int .i64 x4, .int .i64 x5]) 0).run Tryd.prog w = .ok (.int .i64 x0) w := by kernel_rfl

set_option maxRecDepth 10000 in
theorem rtotal_s (b : Nat) (A : Option Addr) (t : Tr) (wt : Wf t) : Sp Tryd.prog 27 [.pointer (some ⟨b, 0, none⟩)] [rpP b A] [TrF A t] (fun v Lo fs => v = .int .i64 t.row.length ∧ Lo = [rpP b A] ∧ fs = []) := by
  refine Sp.of (n := 9) ⟨_, Tryd.func27, rfl, rfl, rfl, rfl⟩ (Nat.le_of_ble_eq_true rfl) fun Ps As => WC_seq (WC_region (Lq (q_assign rfl) (WL_nil (thenN (WC_seq (WC_region (Lq (q_move rfl) (Lq (q_nil rfl) (Lq (q_field (o' := 0) Tryd.underlying115 rfl ti113 rfl rfl) (Lq (q_load1 Tryd.underlying113 rfl rfl own0 rfl) (WL_main rfl (OW_call0 (all_s A t) (.cons rfl (.nil)) (by decide) (memc (.head _) mem0) fun u1_4 Lo fs hres => ?_))))))))))))
  obtain ⟨rfl, rfl, rfl⟩ := hres
  refine Lq (q_part rfl (fd112_0Xw32 _ _ _ _ _ _)) (Lq (q_assign rfl) (WL_nil (thenN (WC_ret ?_))))
  refine ⟨_, [_], [], fun Z w hs => .tmp rfl (.nil), ?_, fun Z w hs => hs.out (List.Sublist.cons_cons _ (List.Sublist.refl _)) (fun _ h => h)⟩
  exact ⟨congrArg (Value.int .i64) wt.tot, rfl, rfl⟩

theorem counter_0 (x : Int) (h : 0 ≤ x ∧ x ≤ 1048576) : Sp Tryd.prog 80 [.int .i64 x] [] [] (Is (.int .i64 0)) := by
  have := counter_s x
  rwa [if_neg (by omega), if_neg (by omega)] at this

set_option maxRecDepth 10000 in
theorem rinsert_s (b : Nat) (A : Option Addr) (t : Tr) (x : Int) (s : ByteArray) (hid : Int) (wt : Wf t) (hx : 0 ≤ x ∧ x ≤ t.row.length) (hs : s.size ≤ 1073741824) (hu : (utF s).2.2 = 0) (hne : 0 < (runesF s).length) (hh : 0 ≤ hid ∧ hid ≤ 1048576) (hb : t.row.length + (runesF s).length ≤ 1048576) : Sp Tryd.prog 61 [.pointer (some ⟨b, 0, none⟩), .int .i64 x, .string s, .int .i64 hid] [rpP b A] [barF, TrF A t] (RpP b (t.row.take x.toNat ++ (cellsOf (runesF s) hid ++ t.row.drop x.toNat))) := by
  have hru := utF_runes hu
  refine Sp.of (n := 64) ⟨_, Tryd.func61, rfl, rfl, rfl, rfl⟩ (Nat.le_of_ble_eq_true rfl) fun Ps As => WC_seq (WC_region (Lq (q_assign rfl) (WL_nil (thenN (WC_seq (WC_seq (WC_region (Lq (q_move rfl) (Lq (q_lss rfl rfl) (Lq (q_move rfl) (Lg rfl rfl rfl (by simp; omega) (q_move rfl) (Lg rfl rfl rfl (by simp; omega) (q_move rfl) (WL_gmain rfl rfl rfl (by simp; omega) (OW_call1 (rtotal_s b A t wt) (.cons rfl (.nil)) (by decide) (.z) (memc (.tail _ (.head _)) mem0) fun u1_5 Lo fs hres => ?_))))))))))))))
  obtain ⟨rfl, rfl, rfl⟩ := hres
  refine Lg rfl rfl rfl (by simp; omega) (q_gtr rfl rfl) (Lq (q_pickF rfl (by simp; omega) rfl) (WL_nil (thenN (WC_false rfl (by simp; omega) (WC_skip (thenN (WC_seq (WC_region (Lq (q_move rfl) (WL_main rfl (OW_call0 (utCheck_s s (by omega)) (.cons rfl (.nil)) (by decide) (memc (.head _) mem0) fun u3_1 Lo fs hres => ?_)))))))))))
  obtain ⟨rfl, rfl, rfl⟩ := hres
  refine Lq (q_move rfl) (Lq (q_extract (vs := [_, _, _]) rfl rfl) (Lq (q_extract (vs := [_, _, _]) rfl rfl) (Lq (q_extract (vs := [_, _, _]) rfl rfl) (Lq (q_assign rfl) (Lq (q_assign rfl) (Lq (q_assign rfl) (WL_nil (thenN (WC_fr [(11, _), (9, _), (8, _), (0, _), (1, _), (2, _), (3, _)] (.cons rfl (.cons rfl (.cons rfl (.cons rfl (.cons rfl (.cons rfl (.cons rfl (.nil _)))))))) (WC_seq (WC_seq (WC_region ?_))))))))))))
  refine Lq (q_move rfl) (Lq (q_neq rfl rfl) (WL_nil (thenN (WC_false rfl (by rw [hu]; rfl) (WC_skip (thenN (WC_seq (WC_seq (WC_region (Lq (q_move rfl) (WL_main rfl (OW_call0 (counter_0 hid hh) (.cons rfl (.nil)) (by decide) mem0 fun u6_1 Lo fs hres => ?_))))))))))))
  obtain ⟨rfl, rfl, rfl⟩ := hres
  refine Lq (q_assign rfl) (WL_nil (thenN (WC_seq (WC_region (Lq (q_move rfl) (Lq (q_neq rfl rfl) (WL_nil (thenN (WC_false rfl rfl (WC_skip (thenN (WC_seq (WC_seq (WC_region (Lq (q_move rfl) (WL_main rfl (OW_call1 (rtotal_s b A t wt) (.cons rfl (.nil)) (by decide) (.z) (memc (.tail _ (.head _)) mem0) fun u9_1 Lo fs hres => ?_)))))))))))))))))
  obtain ⟨rfl, rfl, rfl⟩ := hres
  refine Lq (q_move rfl) (Lq (q_add rfl rfl (wr64 (by omega))) (Lq (q_gtr rfl rfl) (WL_nil (thenN (WC_fr [(40, _), (9, _), (8, _), (0, _), (1, _), (2, _), (3, _)] (.cons rfl (.cons rfl (.cons rfl (.cons rfl (.cons rfl (.cons rfl (.cons rfl (.nil _)))))))) (WC_false rfl (by simp; omega) (WC_skip (thenN (WC_seq (WC_seq (WC_region (Lq (q_move rfl) (Lq (q_eql rfl rfl) (WL_nil (thenN ?_)))))))))))))))
  refine WC_false rfl (beq_eq_false_iff_ne.2 (by omega)) (WC_skip (thenN (WC_seq (WC_region (Lq (q_move rfl) (Lq (q_nil rfl) (Lq (q_field (o' := 0) Tryd.underlying115 rfl ti113 rfl rfl) (Lq (q_load1 Tryd.underlying113 rfl rfl own0 rfl) (Lq (q_move rfl) (WL_main rfl (OW_call0 (split_r A t x wt (by omega) (by omega) (by omega)) (.cons rfl (.cons rfl (.nil))) (by decide) (memc (.tail _ (.head _)) mem0) fun u13_5 Lo fs hres => ?_)))))))))))
  obtain ⟨A1, t1, E1, q1, rfl, rfl, rfl, wt1, wq1, r1, rq1⟩ := hres
  have e1 := congrArg List.length r1
  have eq1 := congrArg List.length rq1
  simp only [List.length_take, List.length_drop] at e1 eq1
  refine Lq (q_move rfl) (Lq (q_extract (vs := [_, _]) rfl rfl) (Lq (q_extract (vs := [_, _]) rfl rfl) (Lq (q_assign rfl) (Lq (q_assign rfl) (WL_nil (thenN (WC_fr [(13, _), (12, _), (8, _), (0, _), (2, _), (3, _)] (.cons rfl (.cons rfl (.cons rfl (.cons rfl (.cons rfl (.cons rfl (.nil _))))))) (WC_seq (WC_region (Lq (q_move rfl) (Lq (q_move rfl) ?_)))))))))))
  refine Lq (q_move rfl) (WL_main rfl (OW_call0 (runesOf_s s hs) (.cons rfl (.nil)) (by decide) mem0 fun u14_3 Lo fs hres => ?_))
  obtain ⟨Ar, cr, rfl, rfl, rfl⟩ := hres
  refine Lq (q_move rfl) (WL_main rfl (OW_call0 (cutUp_s Ar cr (runesF s) hid (by omega) hh) (.cons rfl (.cons rfl (.nil))) (by decide) (memc (.head _) mem0) fun u14_5 Lo fs hres => ?_))
  obtain ⟨Ap, cp, ps, rfl, rfl, rfl, hpk, hps⟩ := hres
  have eps := congrArg List.length hps
  rw [cellsOf_length] at eps
  refine WL_main rfl (OW_call0 (build_r Ap cp ps hpk (by omega)) (.cons rfl (.nil)) (by decide) (memc (.head _) mem0) fun u14_6 Lo fs hres => ?_)
  obtain ⟨T2, t2, rfl, rfl, rfl, wt2, r2⟩ := hres
  have e2 := congrArg List.length r2
  refine WL_main rfl (OW_call0 (mend_r A1 T2 t1 t2 wt1 wt2 (by omega)) (.cons rfl (.cons rfl (.nil))) (by decide) (memc (.tail _ (.tail _ (.tail _ (.head _)))) (memc (.head _) mem0)) fun u14_7 Lo fs hres => ?_)
  obtain ⟨T3, t3, rfl, rfl, rfl, wt3, r3⟩ := hres
  have e3 := congrArg List.length r3
  simp only [List.length_append] at e3
  refine Lq (q_move rfl) (WL_main rfl (OW_call0 (mend_r T3 E1 t3 q1 wt3 wq1 (by omega)) (.cons rfl (.cons rfl (.nil))) (by decide) (memc (.head _) (memc (.tail _ (.tail _ (.tail _ (.tail _ (.tail _ (.head _)))))) mem0)) fun u14_9 Lo fs hres => ?_))
  obtain ⟨T4, t4, rfl, rfl, rfl, wt4, r4⟩ := hres
  have e4 := congrArg List.length r4
  simp only [List.length_append] at e4
  refine Lq (q_nil rfl) (Lq (q_field (o' := 0) Tryd.underlying115 rfl ti113 rfl rfl) (WL_main rfl (OW_store1 ti113 rfl rfl rfl (.z) (.z) (WL_nil (thenN (WC_fr [(8, _)] (.cons rfl (.nil _)) (WC_seq (WC_region (Lq (q_assign rfl) (WL_nil (thenN (WC_ret ?_))))))))))))
  refine ⟨_, [_], [_], fun Z w hs => .tmp rfl (.nil), ?_, fun Z w hs => hs.out (List.Sublist.cons_cons _ (List.Sublist.refl _)) (memc (.head _) (fun _ h => .tail _ (.tail _ (.tail _ (.tail _ (.tail _ (.tail _ (.tail _ h))))))))⟩
  exact ⟨_, _, rfl, rfl, rfl, wt4, by simp only [r1, r2, r3, r4, rq1, hps, List.append_assoc]⟩

theorem fd112_5Xw32 (x0 : Int) (x1 : Int) (x2 : Int) (x3 : Int) (x4 : Int) (x5 : Int) (w : World) : (Instr.field 112 (.agg #[.int .i64 x0, .int .i64 x1, .int .i64 x2, .int .i64 x3, .int .i64 x4, .int .i64 x5]) 5).run Tryd.prog w = .ok (.int .i64 x5) w := by kernel_rfl

set_option maxRecDepth 10000 in
theorem bumpUp_s (b : Nat) (A Ar : Option Addr) (cr : Nat) (t : Tr) (rs : List Rg) (wt : Wf t) (hb : t.row.length ≤ 1048576) (ho : BuOk rs 1 t.row) (hne : rs ≠ []) : Sp Tryd.prog 62 [.pointer (some ⟨b, 0, none⟩), .slice Ar rs.length cr, .int .i64 1] [rpP b A] [TrF A t, RdF rgD Ar cr rs] (RpP b (bumpL rs 1 t.row)) := by
  have hrs := (ckF_good ho.ck).1
  refine Sp.of (n := 100) ⟨_, Tryd.func62, rfl, rfl, rfl, rfl⟩ (Nat.le_of_ble_eq_true rfl) fun Ps As => WC_seq (WC_region (Lq (q_assign rfl) (WL_nil (thenN (WC_seq (WC_seq ?_))))))
  have hz1 : rs.length - 1 < rs.length := by have := List.length_pos_iff.2 hne; omega
  have hlast := ho.below _ (List.getElem_mem hz1)
  refine WC_elem (k := (rs.length - 1)) (.tail _ (.head _)) (List.getElem?_eq_getElem hz1) (rg_open _) fun b6 q6 y6 e6 => ?_
  cases e6
  refine WC_region (Lq (q_move rfl) (Lq (q_neq rfl rfl) (Lq (q_move rfl) (Ln rfl rfl rfl rfl (Ln rfl rfl rfl rfl (Lq (q_pickF rfl rfl rfl) (WL_nil (thenN (WC_false rfl rfl (WC_skip (thenN (WC_seq (WC_seq (WC_region (Lq (q_move rfl) (WL_main rfl (OW_call0 (check_s (some ⟨b6, q6, none⟩) cr rs (by omega)) (.cons rfl (.nil)) (by decide) (memc (.tail _ (.tail _ (.head _))) mem0) fun u3_1 Lo fs hres => ?_)))))))))))))))))
  obtain ⟨rfl, rfl, rfl⟩ := hres
  refine Lq (q_move rfl) (Lq (q_extract (vs := [_, _]) rfl rfl) (Lq (q_extract (vs := [_, _]) rfl rfl) (Lq (q_assign rfl) (Lq (q_assign rfl) (WL_nil (thenN (WC_fr [(8, _), (6, _), (0, _), (1, _), (2, _)] (.cons rfl (.cons rfl (.cons rfl (.cons rfl (.cons rfl (.nil _)))))) (WC_seq (WC_region (Lq (q_move rfl) (Lq (q_neq rfl rfl) ?_)))))))))))
  refine WL_nil (thenN (WC_false rfl (by rw [ho.ck]; rfl) (WC_skip (thenN (WC_seq (WC_seq (WC_draw _ _ [] (.c 0 0 (.c 1 0 (.c 2 0 (.c 3 0 (.c 4 0 (.c 5 0 (.c 6 0 (.c 7 0 (.c 8 0 (.c 9 0 (.c 10 0 (.c 11 0 (.c 12 2 (.c 13 0 (.c 14 0 .nil))))))))))))))) mixed (fun _ _ _ _ h => h) (List.Sublist.cons_cons _ (List.Sublist.refl _)) (fun _ h => h) (by kernel_rfl) (by decide) fun ws Z0 => Qe rfl (q_move rfl) (Qe rfl (q_len Tryd.underlying29 rfl) (Qe rfl (q_gtr rfl rfl) (Qe rfl (q_move rfl) (WE_gq rfl rfl rfl rfl (by simp; omega) (q_move rfl) (by decide) (WE_gq rfl rfl rfl rfl (by simp; omega) (q_move rfl) (by decide) ?_))))))))))))
  refine WE_gq rfl rfl rfl rfl (by simp; omega) (q_len Tryd.underlying29 rfl) (by decide) (WE_gq rfl rfl rfl rfl (by simp; omega) (q_sub rfl rfl (by rw [wr64 (by omega)]; omega) (c := ((rs.length - 1 : Nat) : Int))) (by decide) (WE_gq rfl rfl rfl rfl (by simp; omega) (q_idxRd Tryd.underlying29 ti37 rfl rfl (by omega) (by omega)) (by decide) (WE_gq rfl rfl rfl rfl (by simp; omega) (q_field (o' := _ + 1) Tryd.underlying37 rfl ti3 rfl rfl) (by decide) (WE_gq rfl rfl rfl rfl (by simp; omega) (q_loadF1 (j := 1) Tryd.underlying3 rfl rfl (.head _) rfl rfl) (by decide) (WE_gq rfl rfl rfl rfl (by simp; omega) (q_move rfl) (by decide) (WE_gmain rfl rfl rfl rfl rfl (by simp; omega) (OW_call1 (rtotal_s b A t wt) (.cons rfl (.nil)) (by decide) (.z) (memc (.tail _ (.tail _ (.head _))) mem0) fun u6_12 Lo fs hres => ?_)))))))
  obtain ⟨rfl, rfl, rfl⟩ := hres
  refine ⟨⟨(List.Sublist.cons_cons _ (List.Sublist.refl _)), (.head _)⟩, ?_⟩
  refine WE_gq rfl rfl rfl rfl (by simp; omega) (q_gtr rfl rfl) (by decide) (Qe rfl (q_pickT rfl (by simp; omega) rfl) (WE_end (WF_nil (thenN (WC_fr [(44, _), (6, _), (0, _), (1, _), (2, _)] (.cons rfl (.cons rfl (.cons rfl (.cons rfl (.cons rfl (.nil _)))))) (WC_false rfl (by simp; omega) (WC_skip (thenN (WC_seq (WC_region (Lq (q_move rfl) (Lq (q_nil rfl) (Lq (q_field (o' := 0) Tryd.underlying115 rfl ti113 rfl rfl) ?_)))))))))))))
  refine Lq (q_load1 Tryd.underlying113 rfl rfl own0 rfl) (Lq (q_assign rfl) (WL_nil (thenN (WC_seq (WC_seq (WC_region (Lq (q_move rfl) (Lq (q_len Tryd.underlying29 rfl) (Lq (q_move rfl) (WL_nil (thenN (WC_block ?_))))))))))))
  refine WC_loopE (α := Nat × Option Addr × Tr) (fun (i, B, u) => rs.length - i)
    (fun (i, B, u) => [(0, .pointer (some ⟨b, 0, none⟩)), (2, .int .i64 1), (9, .pointer B), (49, .slice (some ⟨b6, q6, none⟩) rs.length cr), (50, .int .i64 rs.length), (51, .int .i64 i)])
    (fun (i, B, u) => (rpP b A :: Ps))
    (fun (i, B, u) => (TrF B u :: TrF A t :: RdF rgD (some ⟨b6, q6, none⟩) cr rs :: As))
    (fun (i, B, u) => BuI rs 1 t.row i u)
    (0, A, t) ?_ (.cons rfl (.cons rfl (.cons rfl (.cons rfl (.cons rfl (.cons rfl (.nil _))))))) (List.Sublist.cons_cons _ (List.Sublist.refl _)) (memc (.tail _ (.tail _ (.head _))) (fun _ h => .tail _ (.tail _ h))) ?_
  · exact ⟨Nat.zero_le _, wt, rfl⟩
  · rintro ⟨i, AJ, tJ⟩ hI
    have wtJ := hI.wf
    refine WC_seq (WC_region (Lq (q_lss rfl rfl) (WL_nil (thenN (WC_seq (WC_cond rfl (fun h52 => ?_) (fun h52 => ?_)))))))
    · refine WC_skip (thenN (WC_seq (WC_block (WC_seq ?_))))
      try simp only [Bp, Bq] at *
      have hil : i < rs.length := by omega
      have hm := ho.norm.mem _ (List.getElem_mem hil)
      have hbl := ho.below _ (List.getElem_mem hil)
      have hrl := hI.len ho
      have hsl := hI.slice ho hil
      refine WC_elemK (k := i) (.tail _ (.tail _ (.head _))) (List.getElem?_eq_getElem hil) (rg_open _) fun yk => ?_
      refine WC_region (Lq (q_idxRd Tryd.underlying29 ti37 rfl rfl (by omega) (by omega)) (Lq (q_loadFN (k := 0) (vs := [_, _]) Tryd.underlying37 rfl ti37 rfl (.head _) rfl rfl rfl) (WL_main rfl (OW_alloc (cs := [_, _]) ti37 rfl (by decide) fun b11 => WL_main rfl (OW_storeN (cs' := [_, _]) (vs := [_, _]) ti37 rfl rfl rfl rfl rfl (Nat.le_of_ble_eq_true rfl) (.z) (WL_nil (thenN (WC_seq (WC_region (Lq (q_move rfl) (Lq (q_field (o' := 0) Tryd.underlying37 rfl ti3 rfl rfl) (Lq (q_load1 Tryd.underlying3 rfl rfl own0 rfl) (WL_main rfl (OW_call0 (split_r AJ tJ rs[i].lo wtJ (by omega) (by omega) (by omega)) (.cons rfl (.cons rfl (.nil))) (by decide) (memc (.tail _ (.head _)) mem0) fun u12_3 Lo fs hres => ?_))))))))))))))
      obtain ⟨A1, t1, E1, q1, rfl, rfl, rfl, wt1, wq1, r1, rq1⟩ := hres
      have e1 := congrArg List.length r1
      have eq1 := congrArg List.length rq1
      simp only [List.length_take, List.length_drop] at e1 eq1
      refine Lq (q_move rfl) (Lq (q_extract (vs := [_, _]) rfl rfl) (Lq (q_extract (vs := [_, _]) rfl rfl) (Lq (q_assign rfl) (Lq (q_assign rfl) (WL_nil (thenN (WC_seq (WC_region (Lq (q_move rfl) (Lq (q_field (o' := 1) Tryd.underlying37 rfl ti3 rfl rfl) (Lq (q_load1 Tryd.underlying3 rfl rfl own0 rfl) (Lq (q_field (o' := 0) Tryd.underlying37 rfl ti3 rfl rfl) ?_))))))))))))
      refine Lq (q_load1 Tryd.underlying3 rfl rfl own0 rfl) (Lq (q_sub rfl rfl (wr64 (by omega))) (WL_main rfl (OW_call0 (split_r E1 q1 (rs[i].hi - rs[i].lo) wq1 (by omega) (by omega) (by omega)) (.cons rfl (.cons rfl (.nil))) (by decide) (memc (.tail _ (.head _)) mem0) fun u13_6 Lo fs hres => ?_)))
      obtain ⟨A2, t2, E2, q2, rfl, rfl, rfl, wt2, wq2, r2, rq2⟩ := hres
      have e2 := congrArg List.length r2
      have eq2 := congrArg List.length rq2
      simp only [List.length_take, List.length_drop] at e2 eq2
      refine Lq (q_move rfl) (Lq (q_extract (vs := [_, _]) rfl rfl) (Lq (q_extract (vs := [_, _]) rfl rfl) (Lq (q_assign rfl) (Lq (q_assign rfl) (WL_nil (thenN (WC_seq (WC_seq ?_))))))))
      have hn2 : t2.row ≠ [] := fun e => by have h1 := congrArg List.length e; rw [List.length_nil] at h1; omega
      obtain ⟨⟨cm, hcm, em⟩, cx, hcx, ex⟩ := wf_mn wt2 hn2
      have hs1 : InR (up 1 t2.row) := by rw [r2, rq1]; exact hsl
      have hc1 := hs1 _ (mem_up.2 ⟨cm, hcm, rfl⟩)
      have hc2 := hs1 _ (mem_up.2 ⟨cx, hcx, rfl⟩)
      simp only at hc1 hc2
      have hwl := wf_lift wt2 hs1
      have hlr := row_lift t2 1
      have hll : (liftF t2 1).row.length = t2.row.length := by rw [hlr, up_length]
      refine WC_region (Lq (q_move rfl) (Lq (q_lss rfl rfl) (Lq (q_move rfl) (Ln rfl rfl rfl rfl (Ln rfl rfl rfl rfl (Ln rfl rfl rfl rfl (Ln rfl rfl rfl rfl (Lq (q_pickF rfl rfl rfl) (WL_nil (thenN (WC_false rfl rfl (WC_skip (thenN (WC_seq (WC_seq (WC_region ?_))))))))))))))))
      refine Lq (q_move rfl) (Lq (q_gtr rfl rfl) (Lq (q_move rfl) (Lg rfl rfl rfl rfl (q_move rfl) (WL_gmain rfl rfl rfl rfl (OW_call0 (all_s A2 t2) (.cons rfl (.nil)) (by decide) (memc (.head _) mem0) fun u16_4 Lo fs hres => ?_)))))
      obtain ⟨rfl, rfl, rfl⟩ := hres
      refine Lg rfl rfl rfl rfl (q_part rfl (fd112_5Xw32 _ _ _ _ _ _)) (Lg rfl rfl rfl rfl (q_eql rfl rfl) (Lq (q_pickT rfl rfl rfl) (WL_nil (thenN (WC_false rfl (by simp; omega) (WC_skip (thenN (WC_region (Lq (q_move rfl) (Lq (q_move rfl) (Lq (q_move rfl) (WL_main rfl (OW_call0 (lift_s A2 t2 1 wt2 (by omega)) (.cons rfl (.cons rfl (.nil))) (by decide) (memc (.head _) mem0) fun u18_3 Lo fs hres => ?_)))))))))))))
      obtain ⟨L9, rfl, rfl, rfl⟩ := hres
      obtain ⟨L9t, hL9⟩ : ∃ z, z = liftF t2 1 := ⟨_, rfl⟩
      rw [← hL9] at hwl hlr hll ⊢
      have wL9t := hwl
      refine WL_main rfl (OW_call0 (mend_r A1 L9 t1 L9t wt1 wL9t (by omega)) (.cons rfl (.cons rfl (.nil))) (by decide) (memc (.tail _ (.tail _ (.tail _ (.head _)))) (memc (.head _) mem0)) fun u18_4 Lo fs hres => ?_)
      obtain ⟨T3, t3, rfl, rfl, rfl, wt3, r3⟩ := hres
      have e3 := congrArg List.length r3
      simp only [List.length_append] at e3
      refine Lq (q_move rfl) (WL_main rfl (OW_call0 (mend_r T3 E2 t3 q2 wt3 wq2 (by omega)) (.cons rfl (.cons rfl (.nil))) (by decide) (memc (.head _) (memc (.tail _ (.tail _ (.tail _ (.head _)))) mem0)) fun u18_6 Lo fs hres => ?_))
      obtain ⟨T4, t4, rfl, rfl, rfl, wt4, r4⟩ := hres
      have e4 := congrArg List.length r4
      simp only [List.length_append] at e4
      refine Lq (q_assign rfl) (WL_nil (blockN (thenN (WC_region (Lq (q_add rfl rfl (wr64 (by omega)) (c := ((i + 1 : Nat) : Int))) (Lq (q_move rfl) (WL_nil (thenK ?_))))))))
      refine ⟨(i + 1, T4, t4), ?_, (.cons rfl (.cons rfl (.cons rfl (.cons rfl (.cons rfl (.cons rfl (.nil _))))))), (List.Sublist.cons _ (List.Sublist.cons_cons _ (List.Sublist.refl _))), (memc (.head _) (fun _ h => .tail _ (.tail _ (.tail _ (.tail _ (.tail _ (.tail _ (.tail _ (.tail _ (.tail _ h))))))))))⟩
      refine ⟨by show rs.length - (i + 1) < rs.length - i; omega, hI.next hil wt4 ?_⟩
      have e8 : rs[i].lo.toNat + (rs[i].hi - rs[i].lo).toNat = rs[i].hi.toNat := by omega
      rw [r4, r3, hlr, r1, r2, rq2, rq1, List.drop_drop, e8, List.append_assoc]; rfl
    · refine WC_exit (thenExit (thenExit (blockHit (thenN (WC_seq (WC_region (Lq (q_move rfl) (Lq (q_move rfl) (Lq (q_nil rfl) (Lq (q_field (o' := 0) Tryd.underlying115 rfl ti113 rfl rfl) (WL_main rfl (OW_store1 ti113 rfl rfl rfl (.z) (.z) (WL_nil (thenN (WC_seq (WC_region (Lq (q_assign rfl) (WL_nil (thenN (WC_ret ?_))))))))))))))))))))
      refine ⟨_, [_], [_], fun Z w hs => .tmp rfl (.nil), ?_, fun Z w hs => hs.out (List.Sublist.cons_cons _ (List.Sublist.refl _)) (fun _ h => h)⟩
      try simp only [Bp, Bq] at *
      exact ⟨_, _, rfl, rfl, rfl, wtJ, hI.done (by omega)⟩

theorem fd112_3Xw32 (x0 : Int) (x1 : Int) (x2 : Int) (x3 : Int) (x4 : Int) (x5 : Int) (w : World) : (Instr.field 112 (.agg #[.int .i64 x0, .int .i64 x1, .int .i64 x2, .int .i64 x3, .int .i64 x4, .int .i64 x5]) 3).run Tryd.prog w = .ok (.int .i64 x3) w := by kernel_rfl

set_option maxRecDepth 10000 in
theorem bumpDn_s (b : Nat) (A Ar : Option Addr) (cr : Nat) (t : Tr) (rs : List Rg) (wt : Wf t) (hb : t.row.length ≤ 1048576) (ho : BuOk rs (-1) t.row) (hne : rs ≠ []) : Sp Tryd.prog 62 [.pointer (some ⟨b, 0, none⟩), .slice Ar rs.length cr, .int .i64 (-1)] [rpP b A] [TrF A t, RdF rgD Ar cr rs] (RpP b (bumpL rs (-1) t.row)) := by
  have hrs := (ckF_good ho.ck).1
  refine Sp.of (n := 100) ⟨_, Tryd.func62, rfl, rfl, rfl, rfl⟩ (Nat.le_of_ble_eq_true rfl) fun Ps As => WC_seq (WC_region (Lq (q_assign rfl) (WL_nil (thenN (WC_seq (WC_seq ?_))))))
  have hz1 : rs.length - 1 < rs.length := by have := List.length_pos_iff.2 hne; omega
  have hlast := ho.below _ (List.getElem_mem hz1)
  refine WC_elem (k := (rs.length - 1)) (.tail _ (.head _)) (List.getElem?_eq_getElem hz1) (rg_open _) fun b6 q6 y6 e6 => ?_
  cases e6
  refine WC_region (Lq (q_move rfl) (Lq (q_neq rfl rfl) (Lq (q_move rfl) (Lg rfl rfl rfl rfl (q_move rfl) (Lg rfl rfl rfl rfl (q_neq rfl rfl) (Lq (q_pickT rfl rfl rfl) (WL_nil (thenN (WC_false rfl rfl (WC_skip (thenN (WC_seq (WC_seq (WC_region (Lq (q_move rfl) (WL_main rfl (OW_call0 (check_s (some ⟨b6, q6, none⟩) cr rs (by omega)) (.cons rfl (.nil)) (by decide) (memc (.tail _ (.tail _ (.head _))) mem0) fun u3_1 Lo fs hres => ?_)))))))))))))))))
  obtain ⟨rfl, rfl, rfl⟩ := hres
  refine Lq (q_move rfl) (Lq (q_extract (vs := [_, _]) rfl rfl) (Lq (q_extract (vs := [_, _]) rfl rfl) (Lq (q_assign rfl) (Lq (q_assign rfl) (WL_nil (thenN (WC_fr [(8, _), (6, _), (0, _), (1, _), (2, _)] (.cons rfl (.cons rfl (.cons rfl (.cons rfl (.cons rfl (.nil _)))))) (WC_seq (WC_region (Lq (q_move rfl) (Lq (q_neq rfl rfl) ?_)))))))))))
  refine WL_nil (thenN (WC_false rfl (by rw [ho.ck]; rfl) (WC_skip (thenN (WC_seq (WC_seq (WC_draw _ _ [] (.c 0 0 (.c 1 0 (.c 2 0 (.c 3 0 (.c 4 0 (.c 5 0 (.c 6 0 (.c 7 0 (.c 8 0 (.c 9 0 (.c 10 0 (.c 11 0 (.c 12 2 (.c 13 0 (.c 14 0 .nil))))))))))))))) mixed (fun _ _ _ _ h => h) (List.Sublist.cons_cons _ (List.Sublist.refl _)) (fun _ h => h) (by kernel_rfl) (by decide) fun ws Z0 => Qe rfl (q_move rfl) (Qe rfl (q_len Tryd.underlying29 rfl) (Qe rfl (q_gtr rfl rfl) (Qe rfl (q_move rfl) (WE_gq rfl rfl rfl rfl (by simp; omega) (q_move rfl) (by decide) (WE_gq rfl rfl rfl rfl (by simp; omega) (q_move rfl) (by decide) ?_))))))))))))
  refine WE_gq rfl rfl rfl rfl (by simp; omega) (q_len Tryd.underlying29 rfl) (by decide) (WE_gq rfl rfl rfl rfl (by simp; omega) (q_sub rfl rfl (by rw [wr64 (by omega)]; omega) (c := ((rs.length - 1 : Nat) : Int))) (by decide) (WE_gq rfl rfl rfl rfl (by simp; omega) (q_idxRd Tryd.underlying29 ti37 rfl rfl (by omega) (by omega)) (by decide) (WE_gq rfl rfl rfl rfl (by simp; omega) (q_field (o' := _ + 1) Tryd.underlying37 rfl ti3 rfl rfl) (by decide) (WE_gq rfl rfl rfl rfl (by simp; omega) (q_loadF1 (j := 1) Tryd.underlying3 rfl rfl (.head _) rfl rfl) (by decide) (WE_gq rfl rfl rfl rfl (by simp; omega) (q_move rfl) (by decide) (WE_gmain rfl rfl rfl rfl rfl (by simp; omega) (OW_call1 (rtotal_s b A t wt) (.cons rfl (.nil)) (by decide) (.z) (memc (.tail _ (.tail _ (.head _))) mem0) fun u6_12 Lo fs hres => ?_)))))))
  obtain ⟨rfl, rfl, rfl⟩ := hres
  refine ⟨⟨(List.Sublist.cons_cons _ (List.Sublist.refl _)), (.head _)⟩, ?_⟩
  refine WE_gq rfl rfl rfl rfl (by simp; omega) (q_gtr rfl rfl) (by decide) (Qe rfl (q_pickT rfl (by simp; omega) rfl) (WE_end (WF_nil (thenN (WC_fr [(44, _), (6, _), (0, _), (1, _), (2, _)] (.cons rfl (.cons rfl (.cons rfl (.cons rfl (.cons rfl (.nil _)))))) (WC_false rfl (by simp; omega) (WC_skip (thenN (WC_seq (WC_region (Lq (q_move rfl) (Lq (q_nil rfl) (Lq (q_field (o' := 0) Tryd.underlying115 rfl ti113 rfl rfl) ?_)))))))))))))
  refine Lq (q_load1 Tryd.underlying113 rfl rfl own0 rfl) (Lq (q_assign rfl) (WL_nil (thenN (WC_seq (WC_seq (WC_region (Lq (q_move rfl) (Lq (q_len Tryd.underlying29 rfl) (Lq (q_move rfl) (WL_nil (thenN (WC_block ?_))))))))))))
  refine WC_loopE (α := Nat × Option Addr × Tr) (fun (i, B, u) => rs.length - i)
    (fun (i, B, u) => [(0, .pointer (some ⟨b, 0, none⟩)), (2, .int .i64 (-1)), (9, .pointer B), (49, .slice (some ⟨b6, q6, none⟩) rs.length cr), (50, .int .i64 rs.length), (51, .int .i64 i)])
    (fun (i, B, u) => (rpP b A :: Ps))
    (fun (i, B, u) => (TrF B u :: TrF A t :: RdF rgD (some ⟨b6, q6, none⟩) cr rs :: As))
    (fun (i, B, u) => BuI rs (-1) t.row i u)
    (0, A, t) ?_ (.cons rfl (.cons rfl (.cons rfl (.cons rfl (.cons rfl (.cons rfl (.nil _))))))) (List.Sublist.cons_cons _ (List.Sublist.refl _)) (memc (.tail _ (.tail _ (.head _))) (fun _ h => .tail _ (.tail _ h))) ?_
  · exact ⟨Nat.zero_le _, wt, rfl⟩
  · rintro ⟨i, AJ, tJ⟩ hI
    have wtJ := hI.wf
    refine WC_seq (WC_region (Lq (q_lss rfl rfl) (WL_nil (thenN (WC_seq (WC_cond rfl (fun h52 => ?_) (fun h52 => ?_)))))))
    · refine WC_skip (thenN (WC_seq (WC_block (WC_seq ?_))))
      try simp only [Bp, Bq] at *
      have hil : i < rs.length := by omega
      have hm := ho.norm.mem _ (List.getElem_mem hil)
      have hbl := ho.below _ (List.getElem_mem hil)
      have hrl := hI.len ho
      have hsl := hI.slice ho hil
      refine WC_elemK (k := i) (.tail _ (.tail _ (.head _))) (List.getElem?_eq_getElem hil) (rg_open _) fun yk => ?_
      refine WC_region (Lq (q_idxRd Tryd.underlying29 ti37 rfl rfl (by omega) (by omega)) (Lq (q_loadFN (k := 0) (vs := [_, _]) Tryd.underlying37 rfl ti37 rfl (.head _) rfl rfl rfl) (WL_main rfl (OW_alloc (cs := [_, _]) ti37 rfl (by decide) fun b11 => WL_main rfl (OW_storeN (cs' := [_, _]) (vs := [_, _]) ti37 rfl rfl rfl rfl rfl (Nat.le_of_ble_eq_true rfl) (.z) (WL_nil (thenN (WC_seq (WC_region (Lq (q_move rfl) (Lq (q_field (o' := 0) Tryd.underlying37 rfl ti3 rfl rfl) (Lq (q_load1 Tryd.underlying3 rfl rfl own0 rfl) (WL_main rfl (OW_call0 (split_r AJ tJ rs[i].lo wtJ (by omega) (by omega) (by omega)) (.cons rfl (.cons rfl (.nil))) (by decide) (memc (.tail _ (.head _)) mem0) fun u12_3 Lo fs hres => ?_))))))))))))))
      obtain ⟨A1, t1, E1, q1, rfl, rfl, rfl, wt1, wq1, r1, rq1⟩ := hres
      have e1 := congrArg List.length r1
      have eq1 := congrArg List.length rq1
      simp only [List.length_take, List.length_drop] at e1 eq1
      refine Lq (q_move rfl) (Lq (q_extract (vs := [_, _]) rfl rfl) (Lq (q_extract (vs := [_, _]) rfl rfl) (Lq (q_assign rfl) (Lq (q_assign rfl) (WL_nil (thenN (WC_seq (WC_region (Lq (q_move rfl) (Lq (q_field (o' := 1) Tryd.underlying37 rfl ti3 rfl rfl) (Lq (q_load1 Tryd.underlying3 rfl rfl own0 rfl) (Lq (q_field (o' := 0) Tryd.underlying37 rfl ti3 rfl rfl) ?_))))))))))))
      refine Lq (q_load1 Tryd.underlying3 rfl rfl own0 rfl) (Lq (q_sub rfl rfl (wr64 (by omega))) (WL_main rfl (OW_call0 (split_r E1 q1 (rs[i].hi - rs[i].lo) wq1 (by omega) (by omega) (by omega)) (.cons rfl (.cons rfl (.nil))) (by decide) (memc (.tail _ (.head _)) mem0) fun u13_6 Lo fs hres => ?_)))
      obtain ⟨A2, t2, E2, q2, rfl, rfl, rfl, wt2, wq2, r2, rq2⟩ := hres
      have e2 := congrArg List.length r2
      have eq2 := congrArg List.length rq2
      simp only [List.length_take, List.length_drop] at e2 eq2
      refine Lq (q_move rfl) (Lq (q_extract (vs := [_, _]) rfl rfl) (Lq (q_extract (vs := [_, _]) rfl rfl) (Lq (q_assign rfl) (Lq (q_assign rfl) (WL_nil (thenN (WC_seq (WC_seq ?_))))))))
      have hn2 : t2.row ≠ [] := fun e => by have h1 := congrArg List.length e; rw [List.length_nil] at h1; omega
      obtain ⟨⟨cm, hcm, em⟩, cx, hcx, ex⟩ := wf_mn wt2 hn2
      have hs1 : InR (up (-1) t2.row) := by rw [r2, rq1]; exact hsl
      have hc1 := hs1 _ (mem_up.2 ⟨cm, hcm, rfl⟩)
      have hc2 := hs1 _ (mem_up.2 ⟨cx, hcx, rfl⟩)
      simp only at hc1 hc2
      have hwl := wf_lift wt2 hs1
      have hlr := row_lift t2 (-1)
      have hll : (liftF t2 (-1)).row.length = t2.row.length := by rw [hlr, up_length]
      refine WC_region (Lq (q_move rfl) (Lq (q_lss rfl rfl) (Lq (q_move rfl) (Lg rfl rfl rfl rfl (q_move rfl) (WL_gmain rfl rfl rfl rfl (OW_call0 (all_s A2 t2) (.cons rfl (.nil)) (by decide) (memc (.head _) mem0) fun u14_4 Lo fs hres => ?_))))))
      obtain ⟨rfl, rfl, rfl⟩ := hres
      refine Lg rfl rfl rfl rfl (q_part rfl (fd112_3Xw32 _ _ _ _ _ _)) (Lg rfl rfl rfl rfl (q_eql rfl rfl) (Lq (q_pickT rfl rfl rfl) (WL_nil (thenN (WC_false rfl (by simp; omega) (WC_skip (thenN (WC_seq (WC_seq (WC_region (Lq (q_move rfl) (Lq (q_gtr rfl rfl) (Lq (q_move rfl) (Ln rfl rfl rfl rfl ?_))))))))))))))
      refine Ln rfl rfl rfl rfl (Ln rfl rfl rfl rfl (Ln rfl rfl rfl rfl (Lq (q_pickF rfl rfl rfl) (WL_nil (thenN (WC_false rfl rfl (WC_skip (thenN (WC_region (Lq (q_move rfl) (Lq (q_move rfl) (Lq (q_move rfl) (WL_main rfl (OW_call0 (lift_s A2 t2 (-1) wt2 (by omega)) (.cons rfl (.cons rfl (.nil))) (by decide) (memc (.head _) mem0) fun u18_3 Lo fs hres => ?_))))))))))))))
      obtain ⟨L9, rfl, rfl, rfl⟩ := hres
      obtain ⟨L9t, hL9⟩ : ∃ z, z = liftF t2 (-1) := ⟨_, rfl⟩
      rw [← hL9] at hwl hlr hll ⊢
      have wL9t := hwl
      refine WL_main rfl (OW_call0 (mend_r A1 L9 t1 L9t wt1 wL9t (by omega)) (.cons rfl (.cons rfl (.nil))) (by decide) (memc (.tail _ (.tail _ (.tail _ (.head _)))) (memc (.head _) mem0)) fun u18_4 Lo fs hres => ?_)
      obtain ⟨T3, t3, rfl, rfl, rfl, wt3, r3⟩ := hres
      have e3 := congrArg List.length r3
      simp only [List.length_append] at e3
      refine Lq (q_move rfl) (WL_main rfl (OW_call0 (mend_r T3 E2 t3 q2 wt3 wq2 (by omega)) (.cons rfl (.cons rfl (.nil))) (by decide) (memc (.head _) (memc (.tail _ (.tail _ (.tail _ (.head _)))) mem0)) fun u18_6 Lo fs hres => ?_))
      obtain ⟨T4, t4, rfl, rfl, rfl, wt4, r4⟩ := hres
      have e4 := congrArg List.length r4
      simp only [List.length_append] at e4
      refine Lq (q_assign rfl) (WL_nil (blockN (thenN (WC_region (Lq (q_add rfl rfl (wr64 (by omega)) (c := ((i + 1 : Nat) : Int))) (Lq (q_move rfl) (WL_nil (thenK ?_))))))))
      refine ⟨(i + 1, T4, t4), ?_, (.cons rfl (.cons rfl (.cons rfl (.cons rfl (.cons rfl (.cons rfl (.nil _))))))), (List.Sublist.cons _ (List.Sublist.cons_cons _ (List.Sublist.refl _))), (memc (.head _) (fun _ h => .tail _ (.tail _ (.tail _ (.tail _ (.tail _ (.tail _ (.tail _ (.tail _ (.tail _ h))))))))))⟩
      refine ⟨by show rs.length - (i + 1) < rs.length - i; omega, hI.next hil wt4 ?_⟩
      have e8 : rs[i].lo.toNat + (rs[i].hi - rs[i].lo).toNat = rs[i].hi.toNat := by omega
      rw [r4, r3, hlr, r1, r2, rq2, rq1, List.drop_drop, e8, List.append_assoc]; rfl
    · refine WC_exit (thenExit (thenExit (blockHit (thenN (WC_seq (WC_region (Lq (q_move rfl) (Lq (q_move rfl) (Lq (q_nil rfl) (Lq (q_field (o' := 0) Tryd.underlying115 rfl ti113 rfl rfl) (WL_main rfl (OW_store1 ti113 rfl rfl rfl (.z) (.z) (WL_nil (thenN (WC_seq (WC_region (Lq (q_assign rfl) (WL_nil (thenN (WC_ret ?_))))))))))))))))))))
      refine ⟨_, [_], [_], fun Z w hs => .tmp rfl (.nil), ?_, fun Z w hs => hs.out (List.Sublist.cons_cons _ (List.Sublist.refl _)) (fun _ h => h)⟩
      try simp only [Bp, Bq] at *
      exact ⟨_, _, rfl, rfl, rfl, wtJ, hI.done (by omega)⟩

end Go.Proofs.YtggdddkbhigjoaaDoor
/- Walks: rope.Cell. -/
namespace Go.Proofs.YtggdddkbhigjoaaDoor
open Go Go.GW
structure CeI (c : Ce) (x : Int) (t : Tr) : Prop where
  wf : Wf t
  lo : 0 ≤ x
  hi : x < t.row.length
  le : t.row.length ≤ 1073741824
  eq : t.row[x.toNat]? = some c
end Go.Proofs.YtggdddkbhigjoaaDoor
/- Walks: op. -/
namespace Go.Proofs.YtggdddkbhigjoaaDoor
open Go Go.GW
set_option maxRecDepth 10000 in
theorem width_s (o : GOp) (A : Option Addr) (c : Nat) (hs : o.text.size ≤ 4611686018427387904) : Sp Tryd.prog 42 [opV o A c] [] [barF] (Is (.int .i64 (widthF o))) := by
  refine Sp.of (n := 18) ⟨_, Tryd.func42, rfl, rfl, rfl, rfl⟩ (Nat.le_of_ble_eq_true rfl) fun Ps As => WC_seq (WC_region (WL_main rfl (OW_box (cs := [_, _, _, _, _, _, _, _, _]) rfl rfl (by decide) fun b1 => Lq (q_assign rfl) (WL_nil (thenN (WC_seq (WC_seq (WC_region (Lq (q_field (o' := 0) Tryd.underlying31 rfl ti28 rfl rfl) (Lq (q_field (o' := 2) Tryd.underlying28 rfl ti26 rfl rfl) (Lq (q_load1 Tryd.underlying26 rfl rfl own0 rfl) (Lq (q_neq rfl rfl) (WL_nil (thenN ?_))))))))))))))
  refine WC_cond rfl (fun h9 => ?_) (fun h9 => ?_)
  · refine WC_seq (WC_region (Lq (q_assign rfl) (WL_nil (thenN (WC_ret (thenRet ?_))))))
    refine ⟨_, [], [], fun Z w hs => .tmp rfl (.nil), ?_, fun Z w hs => hs.out (List.Sublist.cons _ (List.Sublist.refl _)) (fun _ h => h)⟩
    try simp only [Bp, Bq] at *
    exact ⟨congrArg (Value.int .i64) (by unfold widthF; first | (simp_all; done) | (simp_all; repeat' split; all_goals omega) | (repeat' split; all_goals first | rfl | omega)), rfl, rfl⟩
  · refine WC_skip (thenN (WC_seq (WC_region (Lq (q_field (o' := 4) Tryd.underlying31 rfl ti9 rfl rfl) (Lq (q_load1 Tryd.underlying9 rfl rfl own0 rfl) (WL_main rfl (OW_call0 (utCheck_s o.text hs) (.cons rfl (.nil)) (by decide) (memc (.head _) mem0) fun u3_2 Lo fs hres => ?_)))))))
    obtain ⟨rfl, rfl, rfl⟩ := hres
    refine Lq (q_move rfl) (Lq (q_extract (vs := [_, _, _]) rfl rfl) (Lq (q_extract (vs := [_, _, _]) rfl rfl) (Lq (q_extract (vs := [_, _, _]) rfl rfl) (Lq (q_assign rfl) (Lq (q_assign rfl) (Lq (q_assign rfl) (WL_nil (thenN (WC_fr [(3, _), (2, _)] (.cons rfl (.cons rfl (.nil _))) (WC_seq (WC_region ?_)))))))))))
    refine Lq (q_move rfl) (Lq (q_assign rfl) (WL_nil (thenN (WC_ret ?_))))
    refine ⟨_, [], [], fun Z w hs => .tmp rfl (.nil), ?_, fun Z w hs => hs.out (List.Sublist.cons _ (List.Sublist.refl _)) (fun _ h => h)⟩
    try simp only [Bp, Bq] at *
    exact ⟨congrArg (Value.int .i64) (by unfold widthF; first | (simp_all; done) | (simp_all; repeat' split; all_goals omega) | (repeat' split; all_goals first | rfl | omega)), rfl, rfl⟩

theorem bd25Xw8  (w : World) : (Instr.build 25 #[]).run Tryd.prog w = .ok (.agg #[.int .i64 0, .int .i64 0]) w := by kernel_rfl

set_option maxRecDepth 10000 in
theorem extra_s (o : GOp) (A : Option Addr) (c : Nat) : Sp Tryd.prog 77 [opV o A c] [] [] (Is (.bool (extraF o))) := by
  refine Sp.of (n := 56) ⟨_, Tryd.func77, rfl, rfl, rfl, rfl⟩ (Nat.le_of_ble_eq_true rfl) fun Ps As => WC_seq (WC_region (WL_main rfl (OW_box (cs := [_, _, _, _, _, _, _, _, _]) rfl rfl (by decide) fun b1 => Lq (q_assign rfl) (WL_nil (thenN (WC_seq (WC_region (Lq (q_field (o' := 0) Tryd.underlying31 rfl ti28 rfl rfl) (Lq (q_field (o' := 2) Tryd.underlying28 rfl ti26 rfl rfl) (Lq (q_load1 Tryd.underlying26 rfl rfl own0 rfl) (Lq (q_eql rfl rfl) (Lq (q_assign rfl) ?_))))))))))))
  refine WL_nil (thenN (WC_seq (WC_region (Lq (q_field (o' := 0) Tryd.underlying31 rfl ti28 rfl rfl) (Lq (q_field (o' := 2) Tryd.underlying28 rfl ti26 rfl rfl) (Lq (q_load1 Tryd.underlying26 rfl rfl own0 rfl) (Lq (q_eql rfl rfl) (Lq (q_move rfl) (WL_guard (t := 14) rfl (fun g14 => ?_) (fun g14 => ?_))))))))))
  · refine Ln rfl rfl rfl g14 (Ln rfl rfl rfl g14 (Ln rfl rfl rfl g14 (Ln rfl rfl rfl g14 (Lq (q_pickT rfl g14 rfl) (Lq (q_assign rfl) (WL_nil (thenN (WC_fr [(4, _), (3, _), (2, _), (1, _)] (.cons rfl (.cons rfl (.cons rfl (.cons rfl (.nil _))))) (WC_seq (WC_region (Lq (q_field (o' := 0) Tryd.underlying31 rfl ti28 rfl rfl) ?_)))))))))))
    refine Lq (q_field (o' := 2) Tryd.underlying28 rfl ti26 rfl rfl) (Lq (q_load1 Tryd.underlying26 rfl rfl own0 rfl) (Lq (q_eql rfl rfl) (Lq (q_assign rfl) (WL_nil (thenN (WC_seq (WC_seq (WC_region (Lq (q_move rfl) (Lq (q_not rfl) (Lq (q_move rfl) (WL_guard (t := 26) rfl (fun g26 => ?_) (fun g26 => ?_)))))))))))))
    · refine Lg rfl rfl rfl g26 (q_field (o' := 3) Tryd.underlying31 rfl ti3 rfl rfl) (Lg rfl rfl rfl g26 (q_load1 Tryd.underlying3 rfl rfl own0 rfl) (Lg rfl rfl rfl g26 (q_neq rfl rfl) (Lg rfl rfl rfl g26 (q_move rfl) (WL_guard (t := 30) rfl (fun g30 => ?_) (fun g30 => ?_)))))
      · refine Ln rfl rfl rfl g30 (Ln rfl rfl rfl g30 (Ln rfl rfl rfl g30 (Lg rfl rfl rfl g26 (q_pickT rfl g30 rfl) (Lq (q_pickT rfl g26 rfl) (WL_nil (thenN (WC_fr [(35, _), (5, _), (4, _), (2, _), (1, _)] (.cons rfl (.cons rfl (.cons rfl (.cons rfl (.cons rfl (.nil _)))))) (WC_true rfl rfl (WC_seq (WC_region (Lq (q_assign rfl) (WL_nil (thenN (WC_ret (thenRet ?_)))))))))))))))
        refine ⟨_, [], [], fun Z w hs => .tmp rfl (.nil), ?_, fun Z w hs => hs.out (List.Sublist.cons _ (List.Sublist.refl _)) (fun _ h => h)⟩
        try simp only [Bp, Bq] at *
        exact ⟨congrArg (Value.bool) (by unfold extraF; first | (simp_all; done) | (simp_all; repeat' split; all_goals omega) | (repeat' split; all_goals first | rfl | omega)), rfl, rfl⟩
      · refine Lg rfl rfl rfl g30 (q_field (o' := 4) Tryd.underlying31 rfl ti9 rfl rfl) (Lg rfl rfl rfl g30 (q_load1 Tryd.underlying9 rfl rfl own0 rfl) (Lg rfl rfl rfl g30 (q_sneq rfl rfl) (Lg rfl rfl rfl g26 (q_pickF rfl g30 rfl) (Lq (q_pickT rfl g26 rfl) (WL_nil (thenN (WC_fr [(35, _), (5, _), (4, _), (2, _), (1, _)] (.cons rfl (.cons rfl (.cons rfl (.cons rfl (.cons rfl (.nil _)))))) (WC_cond rfl (fun h35 => ?_) (fun h35 => ?_)))))))))
        · refine WC_seq (WC_region (Lq (q_assign rfl) (WL_nil (thenN (WC_ret (thenRet ?_))))))
          refine ⟨_, [], [], fun Z w hs => .tmp rfl (.nil), ?_, fun Z w hs => hs.out (List.Sublist.cons _ (List.Sublist.refl _)) (fun _ h => h)⟩
          try simp only [Bp, Bq] at *
          exact ⟨congrArg (Value.bool) (by unfold extraF; first | (simp_all; done) | (simp_all; repeat' split; all_goals omega) | (repeat' split; all_goals first | rfl | omega)), rfl, rfl⟩
        · refine WC_skip (thenN (WC_seq (WC_seq (WC_region (Lq (q_move rfl) (Lq (q_not rfl) (Lq (q_move rfl) (Ln rfl rfl rfl rfl (Ln rfl rfl rfl rfl (Ln rfl rfl rfl rfl (Ln rfl rfl rfl rfl (Lq (q_pickF rfl rfl rfl) (WL_nil (thenN (WC_false rfl rfl (WC_skip (thenN (WC_seq (WC_region ?_)))))))))))))))))))
          refine Lq (q_move rfl) (Lq (q_not rfl) (Lq (q_move rfl) (WL_guard (t := 46) rfl (fun g46 => ?_) (fun g46 => ?_))))
          · refine Lg rfl rfl rfl g46 (q_field (o' := 6) Tryd.underlying31 rfl ti25 rfl rfl) (Lg rfl rfl rfl g46 (q_loadN (vs := [_, _]) Tryd.underlying25 rfl ti25 rfl own0 rfl rfl) (Lg rfl rfl rfl g46 (q_build (.nil) (bd25Xw8)) (Lg rfl rfl rfl g46 (q_aggneq rfl rfl (eq25 _ _ _ _)) (Lg rfl rfl rfl g46 (q_move rfl) (WL_guard (t := 51) rfl (fun g51 => ?_) (fun g51 => ?_))))))
            · refine Ln rfl rfl rfl g51 (Ln rfl rfl rfl g51 (Lg rfl rfl rfl g46 (q_pickT rfl g51 rfl) (Lq (q_pickT rfl g46 rfl) (Lq (q_assign rfl) (WL_nil (thenN (WC_fr [(2, _)] (.cons rfl (.nil _)) (WC_ret ?_))))))))
              refine ⟨_, [], [], fun Z w hs => .tmp rfl (.nil), ?_, fun Z w hs => hs.out (List.Sublist.cons _ (List.Sublist.refl _)) (fun _ h => h)⟩
              try simp only [Bp, Bq] at *
              exact ⟨congrArg (Value.bool) (by unfold extraF; first | (simp_all; done) | (simp_all; repeat' split; all_goals omega) | (repeat' split; all_goals first | rfl | omega)), rfl, rfl⟩
            · refine Lg rfl rfl rfl g51 (q_field (o' := 8) Tryd.underlying31 rfl ti4 rfl rfl) (Lg rfl rfl rfl g51 (q_load1 Tryd.underlying4 rfl rfl own0 rfl) (Lg rfl rfl rfl g46 (q_pickF rfl g51 rfl) (Lq (q_pickT rfl g46 rfl) (Lq (q_assign rfl) (WL_nil (thenN (WC_fr [(2, _)] (.cons rfl (.nil _)) (WC_ret ?_))))))))
              refine ⟨_, [], [], fun Z w hs => .tmp rfl (.nil), ?_, fun Z w hs => hs.out (List.Sublist.cons _ (List.Sublist.refl _)) (fun _ h => h)⟩
              try simp only [Bp, Bq] at *
              exact ⟨congrArg (Value.bool) (by unfold extraF; first | (simp_all; done) | (simp_all; repeat' split; all_goals omega) | (repeat' split; all_goals first | rfl | omega)), rfl, rfl⟩
          · refine Ln rfl rfl rfl g46 (Ln rfl rfl rfl g46 (Ln rfl rfl rfl g46 (Ln rfl rfl rfl g46 (Ln rfl rfl rfl g46 (WL_gun rfl rfl rfl (by decide) (WL_gun rfl rfl rfl (by decide) (Ln rfl rfl rfl g46 (Lq (q_pickF rfl g46 rfl) (Lq (q_assign rfl) ?_)))))))))
            refine WL_nil (thenN (WC_fr [(2, _)] (.cons rfl (.nil _)) (WC_ret ?_)))
            refine ⟨_, [], [], fun Z w hs => .tmp rfl (.nil), ?_, fun Z w hs => hs.out (List.Sublist.cons _ (List.Sublist.refl _)) (fun _ h => h)⟩
            try simp only [Bp, Bq] at *
            exact ⟨congrArg (Value.bool) (by unfold extraF; first | (simp_all; done) | (simp_all; repeat' split; all_goals omega) | (repeat' split; all_goals first | rfl | omega)), rfl, rfl⟩
    · refine Ln rfl rfl rfl g26 (Ln rfl rfl rfl g26 (Ln rfl rfl rfl g26 (Ln rfl rfl rfl g26 (WL_gun rfl rfl rfl (by decide) (WL_gun rfl rfl rfl (by decide) (WL_gun rfl rfl rfl (by decide) (Ln rfl rfl rfl g26 (Lq (q_pickF rfl g26 rfl) (WL_nil (thenN ?_))))))))))
      refine WC_fr [(35, _), (5, _), (4, _), (2, _), (1, _)] (.cons rfl (.cons rfl (.cons rfl (.cons rfl (.cons rfl (.nil _)))))) (WC_false rfl rfl (WC_skip (thenN (WC_seq (WC_seq (WC_region (Lq (q_move rfl) (Lq (q_not rfl) (Lq (q_move rfl) (Ln rfl rfl rfl rfl (Ln rfl rfl rfl rfl (Ln rfl rfl rfl rfl (Ln rfl rfl rfl rfl (Lq (q_pickF rfl rfl rfl) ?_))))))))))))))
      refine WL_nil (thenN (WC_false rfl rfl (WC_skip (thenN (WC_seq (WC_region (Lq (q_move rfl) (Lq (q_not rfl) (Lq (q_move rfl) (WL_guard (t := 46) rfl (fun g46 => ?_) (fun g46 => ?_)))))))))))
      · refine Lg rfl rfl rfl g46 (q_field (o' := 6) Tryd.underlying31 rfl ti25 rfl rfl) (Lg rfl rfl rfl g46 (q_loadN (vs := [_, _]) Tryd.underlying25 rfl ti25 rfl own0 rfl rfl) (Lg rfl rfl rfl g46 (q_build (.nil) (bd25Xw8)) (Lg rfl rfl rfl g46 (q_aggneq rfl rfl (eq25 _ _ _ _)) (Lg rfl rfl rfl g46 (q_move rfl) (WL_guard (t := 51) rfl (fun g51 => ?_) (fun g51 => ?_))))))
        · refine Ln rfl rfl rfl g51 (Ln rfl rfl rfl g51 (Lg rfl rfl rfl g46 (q_pickT rfl g51 rfl) (Lq (q_pickT rfl g46 rfl) (Lq (q_assign rfl) (WL_nil (thenN (WC_fr [(2, _)] (.cons rfl (.nil _)) (WC_ret ?_))))))))
          refine ⟨_, [], [], fun Z w hs => .tmp rfl (.nil), ?_, fun Z w hs => hs.out (List.Sublist.cons _ (List.Sublist.refl _)) (fun _ h => h)⟩
          try simp only [Bp, Bq] at *
          exact ⟨congrArg (Value.bool) (by unfold extraF; first | (simp_all; done) | (simp_all; repeat' split; all_goals omega) | (repeat' split; all_goals first | rfl | omega)), rfl, rfl⟩
        · refine Lg rfl rfl rfl g51 (q_field (o' := 8) Tryd.underlying31 rfl ti4 rfl rfl) (Lg rfl rfl rfl g51 (q_load1 Tryd.underlying4 rfl rfl own0 rfl) (Lg rfl rfl rfl g46 (q_pickF rfl g51 rfl) (Lq (q_pickT rfl g46 rfl) (Lq (q_assign rfl) (WL_nil (thenN (WC_fr [(2, _)] (.cons rfl (.nil _)) (WC_ret ?_))))))))
          refine ⟨_, [], [], fun Z w hs => .tmp rfl (.nil), ?_, fun Z w hs => hs.out (List.Sublist.cons _ (List.Sublist.refl _)) (fun _ h => h)⟩
          try simp only [Bp, Bq] at *
          exact ⟨congrArg (Value.bool) (by unfold extraF; first | (simp_all; done) | (simp_all; repeat' split; all_goals omega) | (repeat' split; all_goals first | rfl | omega)), rfl, rfl⟩
      · refine Ln rfl rfl rfl g46 (Ln rfl rfl rfl g46 (Ln rfl rfl rfl g46 (Ln rfl rfl rfl g46 (Ln rfl rfl rfl g46 (WL_gun rfl rfl rfl (by decide) (WL_gun rfl rfl rfl (by decide) (Ln rfl rfl rfl g46 (Lq (q_pickF rfl g46 rfl) (Lq (q_assign rfl) ?_)))))))))
        refine WL_nil (thenN (WC_fr [(2, _)] (.cons rfl (.nil _)) (WC_ret ?_)))
        refine ⟨_, [], [], fun Z w hs => .tmp rfl (.nil), ?_, fun Z w hs => hs.out (List.Sublist.cons _ (List.Sublist.refl _)) (fun _ h => h)⟩
        try simp only [Bp, Bq] at *
        exact ⟨congrArg (Value.bool) (by unfold extraF; first | (simp_all; done) | (simp_all; repeat' split; all_goals omega) | (repeat' split; all_goals first | rfl | omega)), rfl, rfl⟩
  · refine Lg rfl rfl rfl g14 (q_field (o' := 0) Tryd.underlying31 rfl ti28 rfl rfl) (Lg rfl rfl rfl g14 (q_field (o' := 2) Tryd.underlying28 rfl ti26 rfl rfl) (Lg rfl rfl rfl g14 (q_load1 Tryd.underlying26 rfl rfl own0 rfl) (Lg rfl rfl rfl g14 (q_eql rfl rfl) (Lq (q_pickF rfl g14 rfl) (Lq (q_assign rfl) (WL_nil (thenN (WC_fr [(4, _), (3, _), (2, _), (1, _)] (.cons rfl (.cons rfl (.cons rfl (.cons rfl (.nil _))))) (WC_seq (WC_region (Lq (q_field (o' := 0) Tryd.underlying31 rfl ti28 rfl rfl) ?_)))))))))))
    refine Lq (q_field (o' := 2) Tryd.underlying28 rfl ti26 rfl rfl) (Lq (q_load1 Tryd.underlying26 rfl rfl own0 rfl) (Lq (q_eql rfl rfl) (Lq (q_assign rfl) (WL_nil (thenN (WC_seq (WC_seq (WC_region (Lq (q_move rfl) (Lq (q_not rfl) (Lq (q_move rfl) (WL_guard (t := 26) rfl (fun g26 => ?_) (fun g26 => ?_)))))))))))))
    · refine Lg rfl rfl rfl g26 (q_field (o' := 3) Tryd.underlying31 rfl ti3 rfl rfl) (Lg rfl rfl rfl g26 (q_load1 Tryd.underlying3 rfl rfl own0 rfl) (Lg rfl rfl rfl g26 (q_neq rfl rfl) (Lg rfl rfl rfl g26 (q_move rfl) (WL_guard (t := 30) rfl (fun g30 => ?_) (fun g30 => ?_)))))
      · refine Ln rfl rfl rfl g30 (Ln rfl rfl rfl g30 (Ln rfl rfl rfl g30 (Lg rfl rfl rfl g26 (q_pickT rfl g30 rfl) (Lq (q_pickT rfl g26 rfl) (WL_nil (thenN (WC_fr [(35, _), (5, _), (4, _), (2, _), (1, _)] (.cons rfl (.cons rfl (.cons rfl (.cons rfl (.cons rfl (.nil _)))))) (WC_true rfl rfl (WC_seq (WC_region (Lq (q_assign rfl) (WL_nil (thenN (WC_ret (thenRet ?_)))))))))))))))
        refine ⟨_, [], [], fun Z w hs => .tmp rfl (.nil), ?_, fun Z w hs => hs.out (List.Sublist.cons _ (List.Sublist.refl _)) (fun _ h => h)⟩
        try simp only [Bp, Bq] at *
        exact ⟨congrArg (Value.bool) (by unfold extraF; first | (simp_all; done) | (simp_all; repeat' split; all_goals omega) | (repeat' split; all_goals first | rfl | omega)), rfl, rfl⟩
      · refine Lg rfl rfl rfl g30 (q_field (o' := 4) Tryd.underlying31 rfl ti9 rfl rfl) (Lg rfl rfl rfl g30 (q_load1 Tryd.underlying9 rfl rfl own0 rfl) (Lg rfl rfl rfl g30 (q_sneq rfl rfl) (Lg rfl rfl rfl g26 (q_pickF rfl g30 rfl) (Lq (q_pickT rfl g26 rfl) (WL_nil (thenN (WC_fr [(35, _), (5, _), (4, _), (2, _), (1, _)] (.cons rfl (.cons rfl (.cons rfl (.cons rfl (.cons rfl (.nil _)))))) (WC_cond rfl (fun h35 => ?_) (fun h35 => ?_)))))))))
        · refine WC_seq (WC_region (Lq (q_assign rfl) (WL_nil (thenN (WC_ret (thenRet ?_))))))
          refine ⟨_, [], [], fun Z w hs => .tmp rfl (.nil), ?_, fun Z w hs => hs.out (List.Sublist.cons _ (List.Sublist.refl _)) (fun _ h => h)⟩
          try simp only [Bp, Bq] at *
          exact ⟨congrArg (Value.bool) (by unfold extraF; first | (simp_all; done) | (simp_all; repeat' split; all_goals omega) | (repeat' split; all_goals first | rfl | omega)), rfl, rfl⟩
        · refine WC_skip (thenN (WC_seq (WC_seq (WC_region (Lq (q_move rfl) (Lq (q_not rfl) (Lq (q_move rfl) (WL_guard (t := 38) rfl (fun g38 => ?_) (fun g38 => ?_)))))))))
          · refine Lg rfl rfl rfl g38 (q_field (o' := 5) Tryd.underlying31 rfl ti29 rfl rfl) (Lg rfl rfl rfl g38 (q_load1 Tryd.underlying29 rfl rfl own0 rfl) (Lg rfl rfl rfl g38 (q_len Tryd.underlying29 rfl) (Lg rfl rfl rfl g38 (q_gtr rfl rfl) (Lq (q_pickT rfl g38 rfl) (WL_nil (thenN (WC_cond rfl (fun h43 => ?_) (fun h43 => ?_))))))))
            · refine WC_seq (WC_region (Lq (q_assign rfl) (WL_nil (thenN (WC_ret (thenRet ?_))))))
              refine ⟨_, [], [], fun Z w hs => .tmp rfl (.nil), ?_, fun Z w hs => hs.out (List.Sublist.cons _ (List.Sublist.refl _)) (fun _ h => h)⟩
              try simp only [Bp, Bq] at *
              exact ⟨congrArg (Value.bool) (by unfold extraF; first | (simp_all; done) | (simp_all; repeat' split; all_goals omega) | (repeat' split; all_goals first | rfl | omega)), rfl, rfl⟩
            · refine WC_skip (thenN (WC_seq (WC_region (Lq (q_move rfl) (Lq (q_not rfl) (Lq (q_move rfl) (WL_guard (t := 46) rfl (fun g46 => ?_) (fun g46 => ?_))))))))
              · refine Lg rfl rfl rfl g46 (q_field (o' := 6) Tryd.underlying31 rfl ti25 rfl rfl) (Lg rfl rfl rfl g46 (q_loadN (vs := [_, _]) Tryd.underlying25 rfl ti25 rfl own0 rfl rfl) (Lg rfl rfl rfl g46 (q_build (.nil) (bd25Xw8)) (Lg rfl rfl rfl g46 (q_aggneq rfl rfl (eq25 _ _ _ _)) (Lg rfl rfl rfl g46 (q_move rfl) (WL_guard (t := 51) rfl (fun g51 => ?_) (fun g51 => ?_))))))
                · refine Ln rfl rfl rfl g51 (Ln rfl rfl rfl g51 (Lg rfl rfl rfl g46 (q_pickT rfl g51 rfl) (Lq (q_pickT rfl g46 rfl) (Lq (q_assign rfl) (WL_nil (thenN (WC_fr [(2, _)] (.cons rfl (.nil _)) (WC_ret ?_))))))))
                  refine ⟨_, [], [], fun Z w hs => .tmp rfl (.nil), ?_, fun Z w hs => hs.out (List.Sublist.cons _ (List.Sublist.refl _)) (fun _ h => h)⟩
                  try simp only [Bp, Bq] at *
                  exact ⟨congrArg (Value.bool) (by unfold extraF; first | (simp_all; done) | (simp_all; repeat' split; all_goals omega) | (repeat' split; all_goals first | rfl | omega)), rfl, rfl⟩
                · refine Lg rfl rfl rfl g51 (q_field (o' := 8) Tryd.underlying31 rfl ti4 rfl rfl) (Lg rfl rfl rfl g51 (q_load1 Tryd.underlying4 rfl rfl own0 rfl) (Lg rfl rfl rfl g46 (q_pickF rfl g51 rfl) (Lq (q_pickT rfl g46 rfl) (Lq (q_assign rfl) (WL_nil (thenN (WC_fr [(2, _)] (.cons rfl (.nil _)) (WC_ret ?_))))))))
                  refine ⟨_, [], [], fun Z w hs => .tmp rfl (.nil), ?_, fun Z w hs => hs.out (List.Sublist.cons _ (List.Sublist.refl _)) (fun _ h => h)⟩
                  try simp only [Bp, Bq] at *
                  exact ⟨congrArg (Value.bool) (by unfold extraF; first | (simp_all; done) | (simp_all; repeat' split; all_goals omega) | (repeat' split; all_goals first | rfl | omega)), rfl, rfl⟩
              · refine Ln rfl rfl rfl g46 (Ln rfl rfl rfl g46 (Ln rfl rfl rfl g46 (Ln rfl rfl rfl g46 (Ln rfl rfl rfl g46 (WL_gun rfl rfl rfl (by decide) (WL_gun rfl rfl rfl (by decide) (Ln rfl rfl rfl g46 (Lq (q_pickF rfl g46 rfl) (Lq (q_assign rfl) ?_)))))))))
                refine WL_nil (thenN (WC_fr [(2, _)] (.cons rfl (.nil _)) (WC_ret ?_)))
                refine ⟨_, [], [], fun Z w hs => .tmp rfl (.nil), ?_, fun Z w hs => hs.out (List.Sublist.cons _ (List.Sublist.refl _)) (fun _ h => h)⟩
                try simp only [Bp, Bq] at *
                exact ⟨congrArg (Value.bool) (by unfold extraF; first | (simp_all; done) | (simp_all; repeat' split; all_goals omega) | (repeat' split; all_goals first | rfl | omega)), rfl, rfl⟩
          · refine Ln rfl rfl rfl g38 (Ln rfl rfl rfl g38 (Ln rfl rfl rfl g38 (Ln rfl rfl rfl g38 (Lq (q_pickF rfl g38 rfl) (WL_nil (thenN (WC_false rfl rfl (WC_skip (thenN (WC_seq (WC_region (Lq (q_move rfl) (Lq (q_not rfl) (Lq (q_move rfl) (WL_guard (t := 46) rfl (fun g46 => ?_) (fun g46 => ?_))))))))))))))))
            · refine Lg rfl rfl rfl g46 (q_field (o' := 6) Tryd.underlying31 rfl ti25 rfl rfl) (Lg rfl rfl rfl g46 (q_loadN (vs := [_, _]) Tryd.underlying25 rfl ti25 rfl own0 rfl rfl) (Lg rfl rfl rfl g46 (q_build (.nil) (bd25Xw8)) (Lg rfl rfl rfl g46 (q_aggneq rfl rfl (eq25 _ _ _ _)) (Lg rfl rfl rfl g46 (q_move rfl) (WL_guard (t := 51) rfl (fun g51 => ?_) (fun g51 => ?_))))))
              · refine Ln rfl rfl rfl g51 (Ln rfl rfl rfl g51 (Lg rfl rfl rfl g46 (q_pickT rfl g51 rfl) (Lq (q_pickT rfl g46 rfl) (Lq (q_assign rfl) (WL_nil (thenN (WC_fr [(2, _)] (.cons rfl (.nil _)) (WC_ret ?_))))))))
                refine ⟨_, [], [], fun Z w hs => .tmp rfl (.nil), ?_, fun Z w hs => hs.out (List.Sublist.cons _ (List.Sublist.refl _)) (fun _ h => h)⟩
                try simp only [Bp, Bq] at *
                exact ⟨congrArg (Value.bool) (by unfold extraF; first | (simp_all; done) | (simp_all; repeat' split; all_goals omega) | (repeat' split; all_goals first | rfl | omega)), rfl, rfl⟩
              · refine Lg rfl rfl rfl g51 (q_field (o' := 8) Tryd.underlying31 rfl ti4 rfl rfl) (Lg rfl rfl rfl g51 (q_load1 Tryd.underlying4 rfl rfl own0 rfl) (Lg rfl rfl rfl g46 (q_pickF rfl g51 rfl) (Lq (q_pickT rfl g46 rfl) (Lq (q_assign rfl) (WL_nil (thenN (WC_fr [(2, _)] (.cons rfl (.nil _)) (WC_ret ?_))))))))
                refine ⟨_, [], [], fun Z w hs => .tmp rfl (.nil), ?_, fun Z w hs => hs.out (List.Sublist.cons _ (List.Sublist.refl _)) (fun _ h => h)⟩
                try simp only [Bp, Bq] at *
                exact ⟨congrArg (Value.bool) (by unfold extraF; first | (simp_all; done) | (simp_all; repeat' split; all_goals omega) | (repeat' split; all_goals first | rfl | omega)), rfl, rfl⟩
            · refine Ln rfl rfl rfl g46 (Ln rfl rfl rfl g46 (Ln rfl rfl rfl g46 (Ln rfl rfl rfl g46 (Ln rfl rfl rfl g46 (WL_gun rfl rfl rfl (by decide) (WL_gun rfl rfl rfl (by decide) (Ln rfl rfl rfl g46 (Lq (q_pickF rfl g46 rfl) (Lq (q_assign rfl) ?_)))))))))
              refine WL_nil (thenN (WC_fr [(2, _)] (.cons rfl (.nil _)) (WC_ret ?_)))
              refine ⟨_, [], [], fun Z w hs => .tmp rfl (.nil), ?_, fun Z w hs => hs.out (List.Sublist.cons _ (List.Sublist.refl _)) (fun _ h => h)⟩
              try simp only [Bp, Bq] at *
              exact ⟨congrArg (Value.bool) (by unfold extraF; first | (simp_all; done) | (simp_all; repeat' split; all_goals omega) | (repeat' split; all_goals first | rfl | omega)), rfl, rfl⟩
    · refine Ln rfl rfl rfl g26 (Ln rfl rfl rfl g26 (Ln rfl rfl rfl g26 (Ln rfl rfl rfl g26 (WL_gun rfl rfl rfl (by decide) (WL_gun rfl rfl rfl (by decide) (WL_gun rfl rfl rfl (by decide) (Ln rfl rfl rfl g26 (Lq (q_pickF rfl g26 rfl) (WL_nil (thenN ?_))))))))))
      refine WC_fr [(35, _), (5, _), (4, _), (2, _), (1, _)] (.cons rfl (.cons rfl (.cons rfl (.cons rfl (.cons rfl (.nil _)))))) (WC_false rfl rfl (WC_skip (thenN (WC_seq (WC_seq (WC_region (Lq (q_move rfl) (Lq (q_not rfl) (Lq (q_move rfl) (WL_guard (t := 38) rfl (fun g38 => ?_) (fun g38 => ?_)))))))))))
      · refine Lg rfl rfl rfl g38 (q_field (o' := 5) Tryd.underlying31 rfl ti29 rfl rfl) (Lg rfl rfl rfl g38 (q_load1 Tryd.underlying29 rfl rfl own0 rfl) (Lg rfl rfl rfl g38 (q_len Tryd.underlying29 rfl) (Lg rfl rfl rfl g38 (q_gtr rfl rfl) (Lq (q_pickT rfl g38 rfl) (WL_nil (thenN (WC_cond rfl (fun h43 => ?_) (fun h43 => ?_))))))))
        · refine WC_seq (WC_region (Lq (q_assign rfl) (WL_nil (thenN (WC_ret (thenRet ?_))))))
          refine ⟨_, [], [], fun Z w hs => .tmp rfl (.nil), ?_, fun Z w hs => hs.out (List.Sublist.cons _ (List.Sublist.refl _)) (fun _ h => h)⟩
          try simp only [Bp, Bq] at *
          exact ⟨congrArg (Value.bool) (by unfold extraF; first | (simp_all; done) | (simp_all; repeat' split; all_goals omega) | (repeat' split; all_goals first | rfl | omega)), rfl, rfl⟩
        · refine WC_skip (thenN (WC_seq (WC_region (Lq (q_move rfl) (Lq (q_not rfl) (Lq (q_move rfl) (WL_guard (t := 46) rfl (fun g46 => ?_) (fun g46 => ?_))))))))
          · refine Lg rfl rfl rfl g46 (q_field (o' := 6) Tryd.underlying31 rfl ti25 rfl rfl) (Lg rfl rfl rfl g46 (q_loadN (vs := [_, _]) Tryd.underlying25 rfl ti25 rfl own0 rfl rfl) (Lg rfl rfl rfl g46 (q_build (.nil) (bd25Xw8)) (Lg rfl rfl rfl g46 (q_aggneq rfl rfl (eq25 _ _ _ _)) (Lg rfl rfl rfl g46 (q_move rfl) (WL_guard (t := 51) rfl (fun g51 => ?_) (fun g51 => ?_))))))
            · refine Ln rfl rfl rfl g51 (Ln rfl rfl rfl g51 (Lg rfl rfl rfl g46 (q_pickT rfl g51 rfl) (Lq (q_pickT rfl g46 rfl) (Lq (q_assign rfl) (WL_nil (thenN (WC_fr [(2, _)] (.cons rfl (.nil _)) (WC_ret ?_))))))))
              refine ⟨_, [], [], fun Z w hs => .tmp rfl (.nil), ?_, fun Z w hs => hs.out (List.Sublist.cons _ (List.Sublist.refl _)) (fun _ h => h)⟩
              try simp only [Bp, Bq] at *
              exact ⟨congrArg (Value.bool) (by unfold extraF; first | (simp_all; done) | (simp_all; repeat' split; all_goals omega) | (repeat' split; all_goals first | rfl | omega)), rfl, rfl⟩
            · refine Lg rfl rfl rfl g51 (q_field (o' := 8) Tryd.underlying31 rfl ti4 rfl rfl) (Lg rfl rfl rfl g51 (q_load1 Tryd.underlying4 rfl rfl own0 rfl) (Lg rfl rfl rfl g46 (q_pickF rfl g51 rfl) (Lq (q_pickT rfl g46 rfl) (Lq (q_assign rfl) (WL_nil (thenN (WC_fr [(2, _)] (.cons rfl (.nil _)) (WC_ret ?_))))))))
              refine ⟨_, [], [], fun Z w hs => .tmp rfl (.nil), ?_, fun Z w hs => hs.out (List.Sublist.cons _ (List.Sublist.refl _)) (fun _ h => h)⟩
              try simp only [Bp, Bq] at *
              exact ⟨congrArg (Value.bool) (by unfold extraF; first | (simp_all; done) | (simp_all; repeat' split; all_goals omega) | (repeat' split; all_goals first | rfl | omega)), rfl, rfl⟩
          · refine Ln rfl rfl rfl g46 (Ln rfl rfl rfl g46 (Ln rfl rfl rfl g46 (Ln rfl rfl rfl g46 (Ln rfl rfl rfl g46 (WL_gun rfl rfl rfl (by decide) (WL_gun rfl rfl rfl (by decide) (Ln rfl rfl rfl g46 (Lq (q_pickF rfl g46 rfl) (Lq (q_assign rfl) ?_)))))))))
            refine WL_nil (thenN (WC_fr [(2, _)] (.cons rfl (.nil _)) (WC_ret ?_)))
            refine ⟨_, [], [], fun Z w hs => .tmp rfl (.nil), ?_, fun Z w hs => hs.out (List.Sublist.cons _ (List.Sublist.refl _)) (fun _ h => h)⟩
            try simp only [Bp, Bq] at *
            exact ⟨congrArg (Value.bool) (by unfold extraF; first | (simp_all; done) | (simp_all; repeat' split; all_goals omega) | (repeat' split; all_goals first | rfl | omega)), rfl, rfl⟩
      · refine Ln rfl rfl rfl g38 (Ln rfl rfl rfl g38 (Ln rfl rfl rfl g38 (Ln rfl rfl rfl g38 (Lq (q_pickF rfl g38 rfl) (WL_nil (thenN (WC_false rfl rfl (WC_skip (thenN (WC_seq (WC_region (Lq (q_move rfl) (Lq (q_not rfl) (Lq (q_move rfl) (WL_guard (t := 46) rfl (fun g46 => ?_) (fun g46 => ?_))))))))))))))))
        · refine Lg rfl rfl rfl g46 (q_field (o' := 6) Tryd.underlying31 rfl ti25 rfl rfl) (Lg rfl rfl rfl g46 (q_loadN (vs := [_, _]) Tryd.underlying25 rfl ti25 rfl own0 rfl rfl) (Lg rfl rfl rfl g46 (q_build (.nil) (bd25Xw8)) (Lg rfl rfl rfl g46 (q_aggneq rfl rfl (eq25 _ _ _ _)) (Lg rfl rfl rfl g46 (q_move rfl) (WL_guard (t := 51) rfl (fun g51 => ?_) (fun g51 => ?_))))))
          · refine Ln rfl rfl rfl g51 (Ln rfl rfl rfl g51 (Lg rfl rfl rfl g46 (q_pickT rfl g51 rfl) (Lq (q_pickT rfl g46 rfl) (Lq (q_assign rfl) (WL_nil (thenN (WC_fr [(2, _)] (.cons rfl (.nil _)) (WC_ret ?_))))))))
            refine ⟨_, [], [], fun Z w hs => .tmp rfl (.nil), ?_, fun Z w hs => hs.out (List.Sublist.cons _ (List.Sublist.refl _)) (fun _ h => h)⟩
            try simp only [Bp, Bq] at *
            exact ⟨congrArg (Value.bool) (by unfold extraF; first | (simp_all; done) | (simp_all; repeat' split; all_goals omega) | (repeat' split; all_goals first | rfl | omega)), rfl, rfl⟩
          · refine Lg rfl rfl rfl g51 (q_field (o' := 8) Tryd.underlying31 rfl ti4 rfl rfl) (Lg rfl rfl rfl g51 (q_load1 Tryd.underlying4 rfl rfl own0 rfl) (Lg rfl rfl rfl g46 (q_pickF rfl g51 rfl) (Lq (q_pickT rfl g46 rfl) (Lq (q_assign rfl) (WL_nil (thenN (WC_fr [(2, _)] (.cons rfl (.nil _)) (WC_ret ?_))))))))
            refine ⟨_, [], [], fun Z w hs => .tmp rfl (.nil), ?_, fun Z w hs => hs.out (List.Sublist.cons _ (List.Sublist.refl _)) (fun _ h => h)⟩
            try simp only [Bp, Bq] at *
            exact ⟨congrArg (Value.bool) (by unfold extraF; first | (simp_all; done) | (simp_all; repeat' split; all_goals omega) | (repeat' split; all_goals first | rfl | omega)), rfl, rfl⟩
        · refine Ln rfl rfl rfl g46 (Ln rfl rfl rfl g46 (Ln rfl rfl rfl g46 (Ln rfl rfl rfl g46 (Ln rfl rfl rfl g46 (WL_gun rfl rfl rfl (by decide) (WL_gun rfl rfl rfl (by decide) (Ln rfl rfl rfl g46 (Lq (q_pickF rfl g46 rfl) (Lq (q_assign rfl) ?_)))))))))
          refine WL_nil (thenN (WC_fr [(2, _)] (.cons rfl (.nil _)) (WC_ret ?_)))
          refine ⟨_, [], [], fun Z w hs => .tmp rfl (.nil), ?_, fun Z w hs => hs.out (List.Sublist.cons _ (List.Sublist.refl _)) (fun _ h => h)⟩
          try simp only [Bp, Bq] at *
          exact ⟨congrArg (Value.bool) (by unfold extraF; first | (simp_all; done) | (simp_all; repeat' split; all_goals omega) | (repeat' split; all_goals first | rfl | omega)), rfl, rfl⟩


set_option maxRecDepth 10000 in
theorem checkIns_s (o : GOp) (A : Option Addr) (c : Nat) (total : Int) (hs : o.text.size ≤ 4611686018427387904) (ht : 0 ≤ total ∧ total ≤ 1048576) : Sp Tryd.prog 78 [opV o A c, .int .i64 total] [] [barF] (Is (.int .i64 (insF o total))) := by
  refine Sp.of (n := 40) ⟨_, Tryd.func78, rfl, rfl, rfl, rfl⟩ (Nat.le_of_ble_eq_true rfl) fun Ps As => WC_seq (WC_region (WL_main rfl (OW_box (cs := [_, _, _, _, _, _, _, _, _]) rfl rfl (by decide) fun b2 => Lq (q_assign rfl) (WL_nil (thenN (WC_seq (WC_region (Lq (q_field (o' := 4) Tryd.underlying31 rfl ti9 rfl rfl) (Lq (q_load1 Tryd.underlying9 rfl rfl own0 rfl) (WL_main rfl (OW_call0 (utCheck_s o.text hs) (.cons rfl (.nil)) (by decide) (memc (.head _) mem0) fun u1_2 Lo fs hres => ?_)))))))))))
  obtain ⟨rfl, rfl, rfl⟩ := hres
  refine Lq (q_move rfl) (Lq (q_extract (vs := [_, _, _]) rfl rfl) (Lq (q_extract (vs := [_, _, _]) rfl rfl) (Lq (q_extract (vs := [_, _, _]) rfl rfl) (Lq (q_assign rfl) (Lq (q_assign rfl) (Lq (q_assign rfl) (WL_nil (thenN (WC_fr [(7, _), (5, _), (4, _), (2, _), (1, _)] (.cons rfl (.cons rfl (.cons rfl (.cons rfl (.cons rfl (.nil _)))))) (WC_seq (WC_block (WC_seq (WC_region ?_)))))))))))))
  refine Lq (q_move rfl) (Lq (q_neq rfl rfl) (Lq (q_assign rfl) (WL_nil (thenN (WC_cond rfl (fun h15 => ?_) (fun h15 => ?_))))))
  · refine WC_seq (WC_region (Lq (q_move rfl) (Lq (q_assign rfl) (WL_nil (thenN (WC_ret (blockRet (thenRet ?_))))))))
    refine ⟨_, [], [], fun Z w hs => .tmp rfl (.nil), ?_, fun Z w hs => hs.out (List.Sublist.cons _ (List.Sublist.refl _)) (fun _ h => h)⟩
    try simp only [Bp, Bq] at *
    exact ⟨congrArg (Value.int .i64) (by unfold insF; first | (simp_all; done) | (simp_all; repeat' split; all_goals omega) | (repeat' split; all_goals first | rfl | omega)), rfl, rfl⟩
  · refine WC_seq (WC_region (Lq (q_move rfl) (Lq (q_eql rfl rfl) (Lq (q_assign rfl) (WL_nil (thenN (WC_cond rfl (fun h19 => ?_) (fun h19 => ?_))))))))
    · refine WC_seq (WC_region (Lq (q_assign rfl) (WL_nil (thenN (WC_ret (blockRet (thenRet ?_)))))))
      refine ⟨_, [], [], fun Z w hs => .tmp rfl (.nil), ?_, fun Z w hs => hs.out (List.Sublist.cons _ (List.Sublist.refl _)) (fun _ h => h)⟩
      try simp only [Bp, Bq] at *
      exact ⟨congrArg (Value.int .i64) (by unfold insF; first | (simp_all; done) | (simp_all; repeat' split; all_goals omega) | (repeat' split; all_goals first | rfl | omega)), rfl, rfl⟩
    · refine WC_seq (WC_region (Lq (q_move rfl) (Lq (q_gtr rfl rfl) (Lq (q_assign rfl) (WL_nil (thenN (WC_fr [(22, _), (5, _), (4, _), (2, _), (1, _)] (.cons rfl (.cons rfl (.cons rfl (.cons rfl (.cons rfl (.nil _)))))) (WC_cond rfl (fun h22 => ?_) (fun h22 => ?_)))))))))
      · refine WC_seq (WC_region (Lq (q_assign rfl) (WL_nil (thenN (WC_ret (blockRet (thenRet ?_)))))))
        refine ⟨_, [], [], fun Z w hs => .tmp rfl (.nil), ?_, fun Z w hs => hs.out (List.Sublist.cons _ (List.Sublist.refl _)) (fun _ h => h)⟩
        try simp only [Bp, Bq] at *
        exact ⟨congrArg (Value.int .i64) (by unfold insF; first | (simp_all; done) | (simp_all; repeat' split; all_goals omega) | (repeat' split; all_goals first | rfl | omega)), rfl, rfl⟩
      · refine WC_seq (WC_region (Lq (q_field (o' := 3) Tryd.underlying31 rfl ti3 rfl rfl) (Lq (q_load1 Tryd.underlying3 rfl rfl own0 rfl) (Lq (q_lss rfl rfl) (Lq (q_move rfl) (WL_guard (t := 29) rfl (fun g29 => ?_) (fun g29 => ?_)))))))
        · refine Ln rfl rfl rfl g29 (Ln rfl rfl rfl g29 (Ln rfl rfl rfl g29 (Ln rfl rfl rfl g29 (Lq (q_pickT rfl g29 rfl) (Lq (q_assign rfl) (WL_nil (thenN (WC_fr [(25, _), (5, _), (4, _), (1, _)] (.cons rfl (.cons rfl (.cons rfl (.cons rfl (.nil _))))) (WC_true rfl rfl (WC_seq (WC_region (Lq (q_assign rfl) ?_))))))))))))
          refine WL_nil (thenN (WC_ret (blockRet (thenRet ?_))))
          refine ⟨_, [], [], fun Z w hs => .tmp rfl (.nil), ?_, fun Z w hs => hs.out (List.Sublist.cons _ (List.Sublist.refl _)) (fun _ h => h)⟩
          try simp only [Bp, Bq] at *
          exact ⟨congrArg (Value.int .i64) (by unfold insF; first | (simp_all; done) | (simp_all; repeat' split; all_goals omega) | (repeat' split; all_goals first | rfl | omega)), rfl, rfl⟩
        · refine Lg rfl rfl rfl g29 (q_field (o' := 3) Tryd.underlying31 rfl ti3 rfl rfl) (Lg rfl rfl rfl g29 (q_load1 Tryd.underlying3 rfl rfl own0 rfl) (Lg rfl rfl rfl g29 (q_move rfl) (Lg rfl rfl rfl g29 (q_gtr rfl rfl) (Lq (q_pickF rfl g29 rfl) (Lq (q_assign rfl) (WL_nil (thenN (WC_fr [(25, _), (5, _), (4, _), (1, _)] (.cons rfl (.cons rfl (.cons rfl (.cons rfl (.nil _))))) (WC_cond rfl (fun h25 => ?_) (fun h25 => ?_))))))))))
          · refine WC_seq (WC_region (Lq (q_assign rfl) (WL_nil (thenN (WC_ret (blockRet (thenRet ?_)))))))
            refine ⟨_, [], [], fun Z w hs => .tmp rfl (.nil), ?_, fun Z w hs => hs.out (List.Sublist.cons _ (List.Sublist.refl _)) (fun _ h => h)⟩
            try simp only [Bp, Bq] at *
            exact ⟨congrArg (Value.int .i64) (by unfold insF; first | (simp_all; done) | (simp_all; repeat' split; all_goals omega) | (repeat' split; all_goals first | rfl | omega)), rfl, rfl⟩
          · refine WC_seq ?_
            have hu := utF_n o.text
            try simp only [Bp, Bq] at *
            refine WC_region (Lq (q_move rfl) (Lq (q_move rfl) (Lq (q_add rfl rfl (wr64 (by omega))) (Lq (q_gtr rfl rfl) (Lq (q_assign rfl) (WL_nil (thenN (WC_cond rfl (fun h35 => ?_) (fun h35 => ?_)))))))))
            · refine WC_seq (WC_region (Lq (q_assign rfl) (WL_nil (thenN (WC_ret (blockRet (thenRet ?_)))))))
              refine ⟨_, [], [], fun Z w hs => .tmp rfl (.nil), ?_, fun Z w hs => hs.out (List.Sublist.cons _ (List.Sublist.refl _)) (fun _ h => h)⟩
              try simp only [Bp, Bq] at *
              exact ⟨congrArg (Value.int .i64) (by unfold insF; first | (simp_all; done) | (simp_all; repeat' split; all_goals omega) | (repeat' split; all_goals first | rfl | omega)), rfl, rfl⟩
            · refine WC_skip (blockN (thenN (WC_seq (WC_region (Lq (q_assign rfl) (WL_nil (thenN (WC_ret ?_))))))))
              refine ⟨_, [], [], fun Z w hs => .tmp rfl (.nil), ?_, fun Z w hs => hs.out (List.Sublist.cons _ (List.Sublist.refl _)) (fun _ h => h)⟩
              try simp only [Bp, Bq] at *
              exact ⟨congrArg (Value.int .i64) (by unfold insF; first | (simp_all; done) | (simp_all; repeat' split; all_goals omega) | (repeat' split; all_goals first | rfl | omega)), rfl, rfl⟩


set_option maxRecDepth 10000 in
theorem checkRanges_s (A : Option Addr) (c : Nat) (xs : List Rg) (total : Int) (hl : xs.length ≤ 4398046511104) : Sp Tryd.prog 79 [.slice A xs.length c, .int .i64 total] [] [RdF rgD A c xs] (Is (.int .i64 (rangesF xs total))) := by
  refine Sp.of (n := 27) ⟨_, Tryd.func79, rfl, rfl, rfl, rfl⟩ (Nat.le_of_ble_eq_true rfl) fun Ps As => WC_seq (WC_region (Lq (q_assign rfl) (WL_nil (thenN (WC_seq (WC_seq (WC_region (Lq (q_move rfl) (Lq (q_len Tryd.underlying29 rfl) (Lq (q_eql rfl rfl) (WL_nil (thenN (WC_cond rfl (fun h9 => ?_) (fun h9 => ?_))))))))))))))
  · refine WC_seq (WC_region (Lq (q_assign rfl) (WL_nil (thenN (WC_ret (thenRet ?_))))))
    refine ⟨_, [], [], fun Z w hs => .tmp rfl (.nil), ?_, fun Z w hs => hs.out (List.Sublist.refl _) (fun _ h => h)⟩
    try simp only [Bp, Bq] at *
    first
      | exact ⟨by rw [rangesF_nil (by omega)]; rfl, rfl, rfl⟩
      | exact ⟨by rw [rangesF_at hk0 (by omega), if_pos (by omega)]; rfl, rfl, rfl⟩
      | exact ⟨by rw [rangesF_at hk0 (by omega), if_neg (by omega)]; rfl, rfl, rfl⟩
      | exact ⟨by rw [rangesF_ck (by omega) (by omega)]; rfl, rfl, rfl⟩
  · refine WC_skip (thenN (WC_seq (WC_seq (WC_region (Lq (q_move rfl) (WL_main rfl (OW_call0 (check_s A c xs hl) (.cons rfl (.nil)) (by decide) (memc (.head _) mem0) fun u3_1 Lo fs hres => ?_)))))))
    obtain ⟨rfl, rfl, rfl⟩ := hres
    refine Lq (q_move rfl) (Lq (q_extract (vs := [_, _]) rfl rfl) (Lq (q_extract (vs := [_, _]) rfl rfl) (Lq (q_assign rfl) (Lq (q_assign rfl) (WL_nil (thenN (WC_seq (WC_region (Lq (q_move rfl) (Lq (q_neq rfl rfl) (WL_nil (thenN (WC_fr [(16, _), (6, _), (4, _), (0, _), (1, _)] (.cons rfl (.cons rfl (.cons rfl (.cons rfl (.cons rfl (.nil _)))))) ?_)))))))))))))
    refine WC_cond rfl (fun h16 => ?_) (fun h16 => ?_)
    · refine WC_seq (WC_region (Lq (q_move rfl) (Lq (q_assign rfl) (WL_nil (thenN (WC_ret (thenRet ?_)))))))
      refine ⟨_, [], [], fun Z w hs => .tmp rfl (.nil), ?_, fun Z w hs => hs.out (List.Sublist.refl _) (fun _ h => h)⟩
      try simp only [Bp, Bq] at *
      first
        | exact ⟨by rw [rangesF_nil (by omega)]; rfl, rfl, rfl⟩
        | exact ⟨by rw [rangesF_at hk0 (by omega), if_pos (by omega)]; rfl, rfl, rfl⟩
        | exact ⟨by rw [rangesF_at hk0 (by omega), if_neg (by omega)]; rfl, rfl, rfl⟩
        | exact ⟨by rw [rangesF_ck (by omega) (by omega)]; rfl, rfl, rfl⟩
    · refine WC_skip (thenN (WC_seq (WC_seq ?_)))
      try simp only [Bp, Bq] at *
      have hk0 : xs.length - 1 < xs.length := by omega
      refine WC_elem (k := (xs.length - 1)) (.head _) (List.getElem?_eq_getElem hk0) (rg_open _) fun b6 q6 y6 e6 => ?_
      cases e6
      refine WC_region (Lq (q_move rfl) (Lq (q_move rfl) (Lq (q_len Tryd.underlying29 rfl) (Lq (q_sub rfl rfl (by rw [wr64 (by omega)]; omega) (c := ((xs.length - 1 : Nat) : Int))) (Lq (q_idxRd Tryd.underlying29 ti37 rfl rfl (by omega) (by omega)) (Lq (q_field (o' := _ + 1) Tryd.underlying37 rfl ti3 rfl rfl) (Lq (q_loadF1 (j := 1) Tryd.underlying3 rfl rfl (.head _) rfl rfl) (Lq (q_move rfl) (Lq (q_gtr rfl rfl) ?_)))))))))
      refine WL_nil (thenN (WC_fr [(26, _), (4, _)] (.cons rfl (.cons rfl (.nil _))) (WC_cond rfl (fun h26 => ?_) (fun h26 => ?_))))
      · refine WC_seq (WC_region (Lq (q_assign rfl) (WL_nil (thenN (WC_ret (thenRet ?_))))))
        refine ⟨_, [], [], fun Z w hs => .tmp rfl (.nil), ?_, fun Z w hs => hs.out (List.Sublist.refl _) (fun _ h => .tail _ h)⟩
        try simp only [Bp, Bq] at *
        first
          | exact ⟨by rw [rangesF_nil (by omega)]; rfl, rfl, rfl⟩
          | exact ⟨by rw [rangesF_at hk0 (by omega), if_pos (by omega)]; rfl, rfl, rfl⟩
          | exact ⟨by rw [rangesF_at hk0 (by omega), if_neg (by omega)]; rfl, rfl, rfl⟩
          | exact ⟨by rw [rangesF_ck (by omega) (by omega)]; rfl, rfl, rfl⟩
      · refine WC_skip (thenN (WC_seq (WC_region (Lq (q_assign rfl) (WL_nil (thenN (WC_ret ?_)))))))
        refine ⟨_, [], [], fun Z w hs => .tmp rfl (.nil), ?_, fun Z w hs => hs.out (List.Sublist.refl _) (fun _ h => .tail _ h)⟩
        try simp only [Bp, Bq] at *
        first
          | exact ⟨by rw [rangesF_nil (by omega)]; rfl, rfl, rfl⟩
          | exact ⟨by rw [rangesF_at hk0 (by omega), if_pos (by omega)]; rfl, rfl, rfl⟩
          | exact ⟨by rw [rangesF_at hk0 (by omega), if_neg (by omega)]; rfl, rfl, rfl⟩
          | exact ⟨by rw [rangesF_ck (by omega) (by omega)]; rfl, rfl, rfl⟩


set_option maxRecDepth 10000 in
theorem opCheck_s (o : GOp) (A : Option Addr) (c : Nat) (total : Int) (hs : o.text.size ≤ 4611686018427387904) (hl : o.rs.length ≤ 4398046511104) : Sp Tryd.prog 60 [opV o A c, .int .i64 total] [] [barF, RdF rgD A c o.rs] (Is (.int .i64 (checkF o total))) := by
  refine Sp.of (n := 65) ⟨_, Tryd.func60, rfl, rfl, rfl, rfl⟩ (Nat.le_of_ble_eq_true rfl) fun Ps As => WC_seq (WC_region (WL_main rfl (OW_box (cs := [_, _, _, _, _, _, _, _, _]) rfl rfl (by decide) fun b2 => Lq (q_assign rfl) (WL_nil (thenN (WC_seq (WC_block (WC_seq (WC_region (Lq (q_move rfl) (Lq (q_lss rfl rfl) (Lq (q_move rfl) (WL_guard (t := 8) rfl (fun g8 => ?_) (fun g8 => ?_))))))))))))))
  · refine Ln rfl rfl rfl g8 (Ln rfl rfl rfl g8 (Lq (q_pickT rfl g8 rfl) (Lq (q_assign rfl) (WL_nil (thenN (WC_true rfl rfl (WC_seq (WC_region (Lq (q_assign rfl) (WL_nil (thenN (WC_ret (blockRet (thenRet ?_))))))))))))))
    refine ⟨_, [], [], fun Z w hs => .tmp rfl (.nil), ?_, fun Z w hs => hs.out (List.Sublist.cons _ (List.Sublist.refl _)) (fun _ h => h)⟩
    try simp only [Bp, Bq] at *
    exact ⟨congrArg (Value.int .i64) (by unfold checkF rightF; simp_all <;> omega), rfl, rfl⟩
  · refine Lg rfl rfl rfl g8 (q_move rfl) (Lg rfl rfl rfl g8 (q_gtr rfl rfl) (Lq (q_pickF rfl g8 rfl) (Lq (q_assign rfl) (WL_nil (thenN (WC_cond rfl (fun h5 => ?_) (fun h5 => ?_)))))))
    · refine WC_seq (WC_region (Lq (q_assign rfl) (WL_nil (thenN (WC_ret (blockRet (thenRet ?_)))))))
      refine ⟨_, [], [], fun Z w hs => .tmp rfl (.nil), ?_, fun Z w hs => hs.out (List.Sublist.cons _ (List.Sublist.refl _)) (fun _ h => h)⟩
      try simp only [Bp, Bq] at *
      exact ⟨congrArg (Value.int .i64) (by unfold checkF rightF; simp_all <;> omega), rfl, rfl⟩
    · refine WC_seq (WC_region (Lq (q_field (o' := 0) Tryd.underlying31 rfl ti28 rfl rfl) (Lq (q_field (o' := 2) Tryd.underlying28 rfl ti26 rfl rfl) (Lq (q_load1 Tryd.underlying26 rfl rfl own0 rfl) (Lq (q_lss rfl rfl) (Lq (q_move rfl) (WL_guard (t := 17) rfl (fun g17 => ?_) (fun g17 => ?_))))))))
      · refine Ln rfl rfl rfl g17 (Ln rfl rfl rfl g17 (Ln rfl rfl rfl g17 (Ln rfl rfl rfl g17 (Lq (q_pickT rfl g17 rfl) (Lq (q_assign rfl) (WL_nil (thenN (WC_fr [(12, _), (4, _), (2, _), (1, _)] (.cons rfl (.cons rfl (.cons rfl (.cons rfl (.nil _))))) (WC_true rfl rfl (WC_seq (WC_region (Lq (q_assign rfl) ?_))))))))))))
        refine WL_nil (thenN (WC_ret (blockRet (thenRet ?_))))
        refine ⟨_, [], [], fun Z w hs => .tmp rfl (.nil), ?_, fun Z w hs => hs.out (List.Sublist.cons _ (List.Sublist.refl _)) (fun _ h => h)⟩
        try simp only [Bp, Bq] at *
        exact ⟨congrArg (Value.int .i64) (by unfold checkF rightF; simp_all <;> omega), rfl, rfl⟩
      · refine Lg rfl rfl rfl g17 (q_field (o' := 0) Tryd.underlying31 rfl ti28 rfl rfl) (Lg rfl rfl rfl g17 (q_field (o' := 2) Tryd.underlying28 rfl ti26 rfl rfl) (Lg rfl rfl rfl g17 (q_load1 Tryd.underlying26 rfl rfl own0 rfl) (Lg rfl rfl rfl g17 (q_gtr rfl rfl) (Lq (q_pickF rfl g17 rfl) (Lq (q_assign rfl) (WL_nil (thenN (WC_fr [(12, _), (4, _), (2, _), (1, _)] (.cons rfl (.cons rfl (.cons rfl (.cons rfl (.nil _))))) (WC_cond rfl (fun h12 => ?_) (fun h12 => ?_))))))))))
        · refine WC_seq (WC_region (Lq (q_assign rfl) (WL_nil (thenN (WC_ret (blockRet (thenRet ?_)))))))
          refine ⟨_, [], [], fun Z w hs => .tmp rfl (.nil), ?_, fun Z w hs => hs.out (List.Sublist.cons _ (List.Sublist.refl _)) (fun _ h => h)⟩
          try simp only [Bp, Bq] at *
          exact ⟨congrArg (Value.int .i64) (by unfold checkF rightF; simp_all <;> omega), rfl, rfl⟩
        · refine WC_seq (WC_region (Lq (q_field (o' := 0) Tryd.underlying31 rfl ti28 rfl rfl) (Lq (q_field (o' := 0) Tryd.underlying28 rfl ti25 rfl rfl) (Lq (q_loadN (vs := [_, _]) Tryd.underlying25 rfl ti25 rfl own0 rfl rfl) (Lq (q_build (.nil) (bd25Xw8)) (Lq (q_aggneq rfl rfl (eq25 _ _ _ _)) (Lq (q_move rfl) (WL_guard (t := 29) rfl (fun g29 => ?_) (fun g29 => ?_)))))))))
          · refine Lg rfl rfl rfl g29 (q_field (o' := 0) Tryd.underlying31 rfl ti28 rfl rfl) (Lg rfl rfl rfl g29 (q_field (o' := 0) Tryd.underlying28 rfl ti25 rfl rfl) (Lg rfl rfl rfl g29 (q_loadN (vs := [_, _]) Tryd.underlying25 rfl ti25 rfl own0 rfl rfl) (WL_gmain rfl rfl rfl g29 (OW_call0 (right_s o.c o.n) (.cons rfl (.nil)) (by decide) mem0 fun u5_9 Lo fs hres => ?_))))
            obtain ⟨rfl, rfl, rfl⟩ := hres
            refine Lg rfl rfl rfl g29 (q_not rfl) (Lq (q_pickT rfl g29 rfl) (Lq (q_assign rfl) (WL_nil (thenN (WC_fr [(23, _), (4, _), (2, _), (1, _)] (.cons rfl (.cons rfl (.cons rfl (.cons rfl (.nil _))))) (WC_cond rfl (fun h23 => ?_) (fun h23 => ?_)))))))
            · refine WC_seq (WC_region (Lq (q_assign rfl) (WL_nil (thenN (WC_ret (blockRet (thenRet ?_)))))))
              refine ⟨_, [], [], fun Z w hs => .tmp rfl (.nil), ?_, fun Z w hs => hs.out (List.Sublist.cons _ (List.Sublist.refl _)) (fun _ h => h)⟩
              try simp only [Bp, Bq] at *
              exact ⟨congrArg (Value.int .i64) (by unfold checkF rightF; simp_all <;> omega), rfl, rfl⟩
            · refine WC_seq (WC_region (Lq (q_loadN (vs := [_, _, _, _, _, _, _, _, _]) Tryd.underlying31 rfl ti31 rfl own0 rfl rfl) (WL_main rfl (OW_call0 (extra_s o A c) (.cons rfl (.nil)) (by decide) mem0 fun u7_1 Lo fs hres => ?_))))
              obtain ⟨rfl, rfl, rfl⟩ := hres
              refine Lq (q_assign rfl) (WL_nil (thenN (WC_cond rfl (fun h36 => ?_) (fun h36 => ?_))))
              · refine WC_seq (WC_region (Lq (q_assign rfl) (WL_nil (thenN (WC_ret (blockRet (thenRet ?_)))))))
                refine ⟨_, [], [], fun Z w hs => .tmp rfl (.nil), ?_, fun Z w hs => hs.out (List.Sublist.cons _ (List.Sublist.refl _)) (fun _ h => h)⟩
                try simp only [Bp, Bq] at *
                exact ⟨congrArg (Value.int .i64) (by unfold checkF rightF; simp_all <;> omega), rfl, rfl⟩
              · refine WC_skip (blockN (thenN (WC_seq (WC_seq (WC_region (Lq (q_field (o' := 0) Tryd.underlying31 rfl ti28 rfl rfl) (Lq (q_field (o' := 2) Tryd.underlying28 rfl ti26 rfl rfl) (Lq (q_load1 Tryd.underlying26 rfl rfl own0 rfl) (WL_nil (thenN (WC_block (WC_seq (WC_region (Lq (q_eql rfl rfl) (Lq (q_assign rfl) (WL_nil (thenN (WC_cond rfl (fun h42 => ?_) (fun h42 => ?_)))))))))))))))))))
                · refine WC_seq (WC_region (Lq (q_loadN (vs := [_, _, _, _, _, _, _, _, _]) Tryd.underlying31 rfl ti31 rfl own0 rfl rfl) (Lq (q_move rfl) ?_)))
                  try simp only [Bp, Bq] at *
                  refine WL_main rfl (OW_call0 (checkIns_s o A c total hs ⟨by omega, by omega⟩) (.cons rfl (.cons rfl (.nil))) (by decide) (memc (.head _) mem0) fun u11_2 Lo fs hres => ?_)
                  obtain ⟨rfl, rfl, rfl⟩ := hres
                  refine Lq (q_assign rfl) (WL_nil (thenN (WC_fr [(4, _), (2, _), (1, _)] (.cons rfl (.cons rfl (.cons rfl (.nil _)))) (WC_ret (blockRet (thenRet ?_))))))
                  refine ⟨_, [], [], fun Z w hs => .tmp rfl (.nil), ?_, fun Z w hs => hs.out (List.Sublist.cons _ (List.Sublist.refl _)) (fun _ h => h)⟩
                  try simp only [Bp, Bq] at *
                  exact ⟨congrArg (Value.int .i64) (by unfold checkF rightF; simp_all <;> omega), rfl, rfl⟩
                · refine WC_seq (WC_region (Lq (q_eql rfl rfl) (Lq (q_assign rfl) (WL_nil (thenN (WC_fr [(47, _), (4, _), (2, _), (1, _)] (.cons rfl (.cons rfl (.cons rfl (.cons rfl (.nil _))))) (WC_cond rfl (fun h47 => ?_) (fun h47 => ?_))))))))
                  · refine WC_seq (WC_seq (WC_region (Lq (q_field (o' := 6) Tryd.underlying31 rfl ti25 rfl rfl) (Lq (q_loadN (vs := [_, _]) Tryd.underlying25 rfl ti25 rfl own0 rfl rfl) (WL_main rfl (OW_call0 (right_s o.tc o.tn) (.cons rfl (.nil)) (by decide) mem0 fun u13_2 Lo fs hres => ?_))))))
                    obtain ⟨rfl, rfl, rfl⟩ := hres
                    refine Lq (q_not rfl) (Lq (q_move rfl) (WL_guard (t := 53) rfl (fun g53 => ?_) (fun g53 => ?_)))
                    · refine Ln rfl rfl rfl g53 (Ln rfl rfl rfl g53 (Ln rfl rfl rfl g53 (Ln rfl rfl rfl g53 (Ln rfl rfl rfl g53 (Ln rfl rfl rfl g53 (Lq (q_pickT rfl g53 rfl) (WL_nil (thenN (WC_fr [(60, _), (4, _), (2, _), (1, _)] (.cons rfl (.cons rfl (.cons rfl (.cons rfl (.nil _))))) (WC_true rfl rfl (WC_seq (WC_region ?_))))))))))))
                      refine Lq (q_assign rfl) (WL_nil (thenN (WC_ret (thenRet (blockRet (thenRet ?_))))))
                      refine ⟨_, [], [], fun Z w hs => .tmp rfl (.nil), ?_, fun Z w hs => hs.out (List.Sublist.cons _ (List.Sublist.refl _)) (fun _ h => h)⟩
                      try simp only [Bp, Bq] at *
                      exact ⟨congrArg (Value.int .i64) (by unfold checkF rightF; simp_all <;> omega), rfl, rfl⟩
                    · refine Lg rfl rfl rfl g53 (q_field (o' := 6) Tryd.underlying31 rfl ti25 rfl rfl) (Lg rfl rfl rfl g53 (q_loadN (vs := [_, _]) Tryd.underlying25 rfl ti25 rfl own0 rfl rfl) (Lg rfl rfl rfl g53 (q_field (o' := 0) Tryd.underlying31 rfl ti28 rfl rfl) (Lg rfl rfl rfl g53 (q_field (o' := 0) Tryd.underlying28 rfl ti25 rfl rfl) (Lg rfl rfl rfl g53 (q_loadN (vs := [_, _]) Tryd.underlying25 rfl ti25 rfl own0 rfl rfl) (Lg rfl rfl rfl g53 (q_aggeql rfl rfl (eq25 _ _ _ _)) (Lq (q_pickF rfl g53 rfl) (WL_nil (thenN (WC_fr [(60, _), (4, _), (2, _), (1, _)] (.cons rfl (.cons rfl (.cons rfl (.cons rfl (.nil _))))) (WC_cond rfl (fun h60 => ?_) (fun h60 => ?_)))))))))))
                      · refine WC_seq (WC_region (Lq (q_assign rfl) (WL_nil (thenN (WC_ret (thenRet (blockRet (thenRet ?_))))))))
                        refine ⟨_, [], [], fun Z w hs => .tmp rfl (.nil), ?_, fun Z w hs => hs.out (List.Sublist.cons _ (List.Sublist.refl _)) (fun _ h => h)⟩
                        try simp only [Bp, Bq] at *
                        exact ⟨congrArg (Value.int .i64) (by unfold checkF rightF; simp_all <;> omega), rfl, rfl⟩
                      · refine WC_skip (thenN (WC_seq (WC_region (Lq (q_assign rfl) (WL_nil (thenN (WC_ret (blockRet (thenRet ?_)))))))))
                        refine ⟨_, [], [], fun Z w hs => .tmp rfl (.nil), ?_, fun Z w hs => hs.out (List.Sublist.cons _ (List.Sublist.refl _)) (fun _ h => h)⟩
                        try simp only [Bp, Bq] at *
                        exact ⟨congrArg (Value.int .i64) (by unfold checkF rightF; simp_all <;> omega), rfl, rfl⟩
                  · refine WC_skip (blockN (thenN (WC_seq (WC_region (Lq (q_field (o' := 5) Tryd.underlying31 rfl ti29 rfl rfl) (Lq (q_load1 Tryd.underlying29 rfl rfl own0 rfl) (Lq (q_move rfl) (WL_main rfl (OW_call0 (checkRanges_s A c o.rs total hl) (.cons rfl (.cons rfl (.nil))) (by decide) (memc (.tail _ (.head _)) mem0) fun u16_3 Lo fs hres => ?_)))))))))
                    obtain ⟨rfl, rfl, rfl⟩ := hres
                    refine Lq (q_assign rfl) (WL_nil (thenN (WC_ret ?_)))
                    refine ⟨_, [], [], fun Z w hs => .tmp rfl (.nil), ?_, fun Z w hs => hs.out (List.Sublist.cons _ (List.Sublist.refl _)) (fun _ h => h)⟩
                    try simp only [Bp, Bq] at *
                    exact ⟨congrArg (Value.int .i64) (by unfold checkF rightF; simp_all <;> omega), rfl, rfl⟩
          · refine Ln rfl rfl rfl g29 (Ln rfl rfl rfl g29 (Ln rfl rfl rfl g29 (Ln rfl rfl rfl g29 (Ln rfl rfl rfl g29 (Lq (q_pickF rfl g29 rfl) (Lq (q_assign rfl) (WL_nil (thenN (WC_fr [(23, _), (4, _), (2, _), (1, _)] (.cons rfl (.cons rfl (.cons rfl (.cons rfl (.nil _))))) (WC_false rfl rfl (WC_seq (WC_region ?_))))))))))))
            refine Lq (q_loadN (vs := [_, _, _, _, _, _, _, _, _]) Tryd.underlying31 rfl ti31 rfl own0 rfl rfl) (WL_main rfl (OW_call0 (extra_s o A c) (.cons rfl (.nil)) (by decide) mem0 fun u7_1 Lo fs hres => ?_))
            obtain ⟨rfl, rfl, rfl⟩ := hres
            refine Lq (q_assign rfl) (WL_nil (thenN (WC_cond rfl (fun h36 => ?_) (fun h36 => ?_))))
            · refine WC_seq (WC_region (Lq (q_assign rfl) (WL_nil (thenN (WC_ret (blockRet (thenRet ?_)))))))
              refine ⟨_, [], [], fun Z w hs => .tmp rfl (.nil), ?_, fun Z w hs => hs.out (List.Sublist.cons _ (List.Sublist.refl _)) (fun _ h => h)⟩
              try simp only [Bp, Bq] at *
              exact ⟨congrArg (Value.int .i64) (by unfold checkF rightF; simp_all <;> omega), rfl, rfl⟩
            · refine WC_skip (blockN (thenN (WC_seq (WC_seq (WC_region (Lq (q_field (o' := 0) Tryd.underlying31 rfl ti28 rfl rfl) (Lq (q_field (o' := 2) Tryd.underlying28 rfl ti26 rfl rfl) (Lq (q_load1 Tryd.underlying26 rfl rfl own0 rfl) (WL_nil (thenN (WC_block (WC_seq (WC_region (Lq (q_eql rfl rfl) (Lq (q_assign rfl) (WL_nil (thenN (WC_cond rfl (fun h42 => ?_) (fun h42 => ?_)))))))))))))))))))
              · refine WC_seq (WC_region (Lq (q_loadN (vs := [_, _, _, _, _, _, _, _, _]) Tryd.underlying31 rfl ti31 rfl own0 rfl rfl) (Lq (q_move rfl) ?_)))
                try simp only [Bp, Bq] at *
                refine WL_main rfl (OW_call0 (checkIns_s o A c total hs ⟨by omega, by omega⟩) (.cons rfl (.cons rfl (.nil))) (by decide) (memc (.head _) mem0) fun u11_2 Lo fs hres => ?_)
                obtain ⟨rfl, rfl, rfl⟩ := hres
                refine Lq (q_assign rfl) (WL_nil (thenN (WC_fr [(4, _), (2, _), (1, _)] (.cons rfl (.cons rfl (.cons rfl (.nil _)))) (WC_ret (blockRet (thenRet ?_))))))
                refine ⟨_, [], [], fun Z w hs => .tmp rfl (.nil), ?_, fun Z w hs => hs.out (List.Sublist.cons _ (List.Sublist.refl _)) (fun _ h => h)⟩
                try simp only [Bp, Bq] at *
                exact ⟨congrArg (Value.int .i64) (by unfold checkF rightF; simp_all <;> omega), rfl, rfl⟩
              · refine WC_seq (WC_region (Lq (q_eql rfl rfl) (Lq (q_assign rfl) (WL_nil (thenN (WC_fr [(47, _), (4, _), (2, _), (1, _)] (.cons rfl (.cons rfl (.cons rfl (.cons rfl (.nil _))))) (WC_cond rfl (fun h47 => ?_) (fun h47 => ?_))))))))
                · refine WC_seq (WC_seq (WC_region (Lq (q_field (o' := 6) Tryd.underlying31 rfl ti25 rfl rfl) (Lq (q_loadN (vs := [_, _]) Tryd.underlying25 rfl ti25 rfl own0 rfl rfl) (WL_main rfl (OW_call0 (right_s o.tc o.tn) (.cons rfl (.nil)) (by decide) mem0 fun u13_2 Lo fs hres => ?_))))))
                  obtain ⟨rfl, rfl, rfl⟩ := hres
                  refine Lq (q_not rfl) (Lq (q_move rfl) (WL_guard (t := 53) rfl (fun g53 => ?_) (fun g53 => ?_)))
                  · refine Ln rfl rfl rfl g53 (Ln rfl rfl rfl g53 (Ln rfl rfl rfl g53 (Ln rfl rfl rfl g53 (Ln rfl rfl rfl g53 (Ln rfl rfl rfl g53 (Lq (q_pickT rfl g53 rfl) (WL_nil (thenN (WC_fr [(60, _), (4, _), (2, _), (1, _)] (.cons rfl (.cons rfl (.cons rfl (.cons rfl (.nil _))))) (WC_true rfl rfl (WC_seq (WC_region ?_))))))))))))
                    refine Lq (q_assign rfl) (WL_nil (thenN (WC_ret (thenRet (blockRet (thenRet ?_))))))
                    refine ⟨_, [], [], fun Z w hs => .tmp rfl (.nil), ?_, fun Z w hs => hs.out (List.Sublist.cons _ (List.Sublist.refl _)) (fun _ h => h)⟩
                    try simp only [Bp, Bq] at *
                    exact ⟨congrArg (Value.int .i64) (by unfold checkF rightF; simp_all <;> omega), rfl, rfl⟩
                  · refine Lg rfl rfl rfl g53 (q_field (o' := 6) Tryd.underlying31 rfl ti25 rfl rfl) (Lg rfl rfl rfl g53 (q_loadN (vs := [_, _]) Tryd.underlying25 rfl ti25 rfl own0 rfl rfl) (Lg rfl rfl rfl g53 (q_field (o' := 0) Tryd.underlying31 rfl ti28 rfl rfl) (Lg rfl rfl rfl g53 (q_field (o' := 0) Tryd.underlying28 rfl ti25 rfl rfl) (Lg rfl rfl rfl g53 (q_loadN (vs := [_, _]) Tryd.underlying25 rfl ti25 rfl own0 rfl rfl) (Lg rfl rfl rfl g53 (q_aggeql rfl rfl (eq25 _ _ _ _)) (Lq (q_pickF rfl g53 rfl) (WL_nil (thenN (WC_fr [(60, _), (4, _), (2, _), (1, _)] (.cons rfl (.cons rfl (.cons rfl (.cons rfl (.nil _))))) (WC_cond rfl (fun h60 => ?_) (fun h60 => ?_)))))))))))
                    · refine WC_seq (WC_region (Lq (q_assign rfl) (WL_nil (thenN (WC_ret (thenRet (blockRet (thenRet ?_))))))))
                      refine ⟨_, [], [], fun Z w hs => .tmp rfl (.nil), ?_, fun Z w hs => hs.out (List.Sublist.cons _ (List.Sublist.refl _)) (fun _ h => h)⟩
                      try simp only [Bp, Bq] at *
                      exact ⟨congrArg (Value.int .i64) (by unfold checkF rightF; simp_all <;> omega), rfl, rfl⟩
                    · refine WC_skip (thenN (WC_seq (WC_region (Lq (q_assign rfl) (WL_nil (thenN (WC_ret (blockRet (thenRet ?_)))))))))
                      refine ⟨_, [], [], fun Z w hs => .tmp rfl (.nil), ?_, fun Z w hs => hs.out (List.Sublist.cons _ (List.Sublist.refl _)) (fun _ h => h)⟩
                      try simp only [Bp, Bq] at *
                      exact ⟨congrArg (Value.int .i64) (by unfold checkF rightF; simp_all <;> omega), rfl, rfl⟩
                · refine WC_skip (blockN (thenN (WC_seq (WC_region (Lq (q_field (o' := 5) Tryd.underlying31 rfl ti29 rfl rfl) (Lq (q_load1 Tryd.underlying29 rfl rfl own0 rfl) (Lq (q_move rfl) (WL_main rfl (OW_call0 (checkRanges_s A c o.rs total hl) (.cons rfl (.cons rfl (.nil))) (by decide) (memc (.tail _ (.head _)) mem0) fun u16_3 Lo fs hres => ?_)))))))))
                  obtain ⟨rfl, rfl, rfl⟩ := hres
                  refine Lq (q_assign rfl) (WL_nil (thenN (WC_ret ?_)))
                  refine ⟨_, [], [], fun Z w hs => .tmp rfl (.nil), ?_, fun Z w hs => hs.out (List.Sublist.cons _ (List.Sublist.refl _)) (fun _ h => h)⟩
                  try simp only [Bp, Bq] at *
                  exact ⟨congrArg (Value.int .i64) (by unfold checkF rightF; simp_all <;> omega), rfl, rfl⟩

end Go.Proofs.YtggdddkbhigjoaaDoor
/- Walks: op.Apply. -/
namespace Go.Proofs.YtggdddkbhigjoaaDoor
open Go Go.GW
theorem EffOk.bump {x : GOp} {row : List Ce} (h : EffOk x row) (hb : row.length ≤ 60000) (hr : InR row) : (x.kind = 2 → BuOk x.rs 1 row ∧ x.rs ≠ []) ∧ (x.kind = 3 → BuOk x.rs (-1) row ∧ x.rs ≠ []) := by
  have key : ∀ k : Int, (x.kind = 2 ∧ k = 1) ∨ (x.kind = 3 ∧ k = -1) → BuOk x.rs k row ∧ x.rs ≠ [] := by
    intro k hk
    obtain ⟨h1, h2⟩ := (rangesF_ok (xs := x.rs) (w := row.length) (by omega)).1 ((check_cov (by omega) (by omega)).1 h.ck).2
    refine ⟨⟨h2.ck (by omega), h2.below, fun q c hq hi => ?_⟩, h1⟩
    have hc := hr c (List.mem_of_getElem? hq)
    rcases hk with ⟨hk, rfl⟩ | ⟨hk, rfl⟩
    · have := h.up hk q c hq hi; omega
    · have := h.dn hk q c hq hi; omega
  exact ⟨fun hk => key 1 (.inl ⟨hk, rfl⟩), fun hk => key (-1) (.inr ⟨hk, rfl⟩)⟩

set_option maxRecDepth 10000 in
theorem apply_s (b : Nat) (A Ax : Option Addr) (cx : Nat) (t : Tr) (x : GOp) (wt : Wf t) (hb : t.row.length ≤ 60000) (he : EffOk x t.row) (hs : x.text.size ≤ 1073741824) (hl : x.rs.length ≤ 4398046511104) : Sp Tryd.prog 33 [.pointer (some ⟨b, 0, none⟩), opV x Ax cx] [rpP b A] [barF, TrF A t, RdF rgD Ax cx x.rs] (RpP b (applyRow x t.row)) := by
  obtain ⟨hb2, hb3⟩ := he.bump hb wt.inR
  refine Sp.of (n := 38) ⟨_, Tryd.func33, rfl, rfl, rfl, rfl⟩ (Nat.le_of_ble_eq_true rfl) fun Ps As => WC_seq (WC_region (WL_main rfl (OW_box (cs := [_, _, _, _, _, _, _, _, _]) rfl rfl (by decide) fun b3 => Lq (q_assign rfl) (WL_nil (thenN (WC_seq (WC_seq (WC_region (Lq (q_move rfl) (Lq (q_peql Tryd.underlying55 rfl rfl (by simp)) (WL_nil (thenN (WC_false rfl rfl (WC_skip (thenN (WC_seq (WC_seq (WC_pick (.s (.z)) (WC_draw _ _ [] (.c 0 0 (.c 1 0 (.c 2 2 (.c 3 2 (.c 4 0 .nil))))) mixed (fun _ _ _ _ h => h) (List.Sublist.cons_cons _ (List.Sublist.cons_cons _ (List.Sublist.refl _))) (fun _ h => h) (by kernel_rfl) (by decide) fun ws Z0 => ?_)))))))))))))))))))
  refine Qe rfl (q_loadN (vs := [_, _, _, _, _, _, _, _, _]) Tryd.underlying31 rfl ti31 rfl (ownS (own0)) rfl rfl) (Qe rfl (q_move rfl) (WE_main rfl rfl (OW_call1 (rtotal_s b A t wt) (.cons rfl (.nil)) (by decide) (.z) (memc (.tail _ (.tail _ (.head _))) mem0) fun u3_2 Lo fs hres => ?_)))
  obtain ⟨rfl, rfl, rfl⟩ := hres
  refine ⟨⟨(List.Sublist.cons_cons _ (List.Sublist.cons_cons _ (List.Sublist.refl _))), (.head _)⟩, ?_⟩
  refine WE_main rfl rfl (OW_call0 (opCheck_s x Ax cx t.row.length (by omega) hl) (.cons rfl (.cons rfl (.nil))) (by decide) (memc (.tail _ (.head _)) (memc (.tail _ (.tail _ (.tail _ (.head _)))) mem0)) fun u3_3 Lo fs hres => ?_)
  obtain ⟨rfl, rfl, rfl⟩ := hres
  refine ⟨⟨(List.Sublist.cons_cons _ (List.Sublist.cons_cons _ (List.Sublist.refl _))), (.head _)⟩, ?_⟩
  refine Qe rfl (q_assign rfl) (WE_end (WF_nil (thenN (WC_seq (WC_region (Lq (q_move rfl) (Lq (q_neq rfl rfl) (WL_nil (thenN (WC_false rfl (by rw [he.ck]; rfl) (WC_skip (thenN (WC_seq (WC_seq (WC_region (Lq (q_field (o' := 0) Tryd.underlying31 rfl ti28 rfl rfl) (Lq (q_field (o' := 2) Tryd.underlying28 rfl ti26 rfl rfl) ?_)))))))))))))))))
  refine Lq (q_load1 Tryd.underlying26 rfl rfl (ownS (own0)) rfl) (WL_nil (thenN (WC_fr [(17, _), (4, _), (3, _), (0, _)] (.cons rfl (.cons rfl (.cons rfl (.cons rfl (.nil _))))) (WC_block (WC_seq (WC_region (Lq (q_eql rfl rfl) (Lq (q_assign rfl) (WL_nil (thenN (WC_cond rfl (fun h18 => ?_) (fun h18 => ?_))))))))))))
  · have hk : x.kind = 1 := by simpa using h18
    obtain ⟨hu, hn, hat, hw⟩ := insF_ok.1 ((check_ins hk (by omega)).1 he.ck).2
    have hru := utF_runes hu
    refine WC_seq (WC_region (Lq (q_move rfl) (Lq (q_field (o' := 3) Tryd.underlying31 rfl ti3 rfl rfl) (Lq (q_load1 Tryd.underlying3 rfl rfl (ownS (own0)) rfl) (Lq (q_field (o' := 4) Tryd.underlying31 rfl ti9 rfl rfl) (Lq (q_load1 Tryd.underlying9 rfl rfl (ownS (own0)) rfl) (WL_main rfl (OW_call1 (rinsert_s b A t x.at_ x.text 0 wt hat hs hu (by omega) (by omega) (by omega)) (.cons rfl (.cons rfl (.cons rfl (.cons rfl (.nil))))) (by decide) (.z) (memc (.tail _ (.head _)) (memc (.tail _ (.tail _ (.head _))) mem0)) fun u8_5 Lo fs hres => ?_))))))))
    obtain ⟨A2, t2, rfl, rfl, rfl, wt2, r2⟩ := hres
    refine Lq (q_assign rfl) (WL_nil (thenN (WC_ret (blockRet (thenRet ?_)))))
    refine ⟨_, [_], [_], fun Z w hs => .tmp rfl (.nil), ?_, fun Z w hs => hs.out (List.Sublist.cons_cons _ (List.Sublist.cons _ (List.Sublist.refl _))) (memc (.head _) (fun _ h => .tail _ (.tail _ h)))⟩
    exact ⟨_, _, rfl, rfl, rfl, wt2, by rw [r2]; unfold applyRow; rw [if_pos hk]⟩
  · refine WC_seq (WC_region (Lq (q_eql rfl rfl) (Lq (q_assign rfl) (WL_nil (thenN (WC_cond rfl (fun h26 => ?_) (fun h26 => ?_)))))))
    · have hk : x.kind = 2 := by simpa using h26
      refine WC_seq (WC_region (Lq (q_move rfl) (Lq (q_field (o' := 5) Tryd.underlying31 rfl ti29 rfl rfl) (Lq (q_load1 Tryd.underlying29 rfl rfl (ownS (own0)) rfl) (WL_main rfl (OW_call1 (bumpUp_s b A Ax cx t x.rs wt (by omega) (hb2 hk).1 (hb2 hk).2) (.cons rfl (.cons rfl (.cons rfl (.nil)))) (by decide) (.z) (memc (.tail _ (.tail _ (.head _))) (memc (.tail _ (.tail _ (.tail _ (.head _)))) mem0)) fun u10_3 Lo fs hres => ?_))))))
      obtain ⟨A2, t2, rfl, rfl, rfl, wt2, r2⟩ := hres
      refine Lq (q_assign rfl) (WL_nil (thenN (WC_ret (blockRet (thenRet ?_)))))
      refine ⟨_, [_], [_], fun Z w hs => .tmp rfl (.nil), ?_, fun Z w hs => hs.out (List.Sublist.cons_cons _ (List.Sublist.cons _ (List.Sublist.refl _))) (memc (.head _) (fun _ h => .tail _ (.tail _ h)))⟩
      exact ⟨_, _, rfl, rfl, rfl, wt2, by rw [r2]; unfold applyRow; rw [if_neg (by omega), if_pos hk]⟩
    · refine WC_seq (WC_region (Lq (q_eql rfl rfl) (Lq (q_assign rfl) (WL_nil (thenN (WC_cond rfl (fun h32 => ?_) (fun h32 => ?_)))))))
      · have hk : x.kind = 3 := by simpa using h32
        refine WC_seq (WC_region (Lq (q_move rfl) (Lq (q_field (o' := 5) Tryd.underlying31 rfl ti29 rfl rfl) (Lq (q_load1 Tryd.underlying29 rfl rfl (ownS (own0)) rfl) (WL_main rfl (OW_call1 (bumpDn_s b A Ax cx t x.rs wt (by omega) (hb3 hk).1 (hb3 hk).2) (.cons rfl (.cons rfl (.cons rfl (.nil)))) (by decide) (.z) (memc (.tail _ (.tail _ (.head _))) (memc (.tail _ (.tail _ (.tail _ (.head _)))) mem0)) fun u12_3 Lo fs hres => ?_))))))
        obtain ⟨A2, t2, rfl, rfl, rfl, wt2, r2⟩ := hres
        refine Lq (q_assign rfl) (WL_nil (thenN (WC_fr [(4, _)] (.cons rfl (.nil _)) (WC_ret (blockRet (thenRet ?_))))))
        refine ⟨_, [_], [_], fun Z w hs => .tmp rfl (.nil), ?_, fun Z w hs => hs.out (List.Sublist.cons_cons _ (List.Sublist.cons _ (List.Sublist.refl _))) (memc (.head _) (fun _ h => .tail _ (.tail _ h)))⟩
        exact ⟨_, _, rfl, rfl, rfl, wt2, by rw [r2]; unfold applyRow; rw [if_neg (by omega), if_neg (by omega), if_pos hk]⟩
      · exfalso
        have := he.kind
        simp at h18 h26 h32
        omega

end Go.Proofs.YtggdddkbhigjoaaDoor
/- Plain texts of the statements: words' runes; what Check says of them. -/
namespace Go.Proofs.YtggdddkbhigjoaaDoor
open Go Go.GW
def mkB (l : List UInt8) : ByteArray := ⟨l.toArray⟩
theorem mkB_size (l : List UInt8) : (mkB l).size = l.length := by simp [mkB, ByteArray.size]
theorem mkB_get (a b : List UInt8) (k : Nat) (h : k < b.length) : (mkB (a ++ b)).get! (a.length + k) = b[k] := by
  have hlt : a.length + k < (a ++ b).length := by simp; omega
  show (a ++ b).toArray[a.length + k]! = b[k]
  rw [List.getElem!_toArray, getElem!_pos (a ++ b) (a.length + k) hlt, List.getElem_append_right (by omega)]
  congr 1; omega
theorem mkB_append (a b : List UInt8) : mkB a ++ mkB b = mkB (a ++ b) := ByteArray.mk_append_mk a b
theorem decode_wide (a b : List UInt8) : Utf8.decode (mkB (a ++ ([0xE2, 0x82, 0xAC] ++ b))) a.length = (8364, 3) := by
  have g : ∀ k (h : k < ([0xE2, 0x82, 0xAC] ++ b : List UInt8).length), (mkB (a ++ ([0xE2, 0x82, 0xAC] ++ b))).get! (a.length + k) = ([0xE2, 0x82, 0xAC] ++ b : List UInt8)[k] := fun k h => mkB_get a _ k h
  have g0 := g 0 (by simp)
  have g1 := g 1 (by simp)
  have g2 := g 2 (by simp)
  have s : (mkB (a ++ ([0xE2, 0x82, 0xAC] ++ b))).size = a.length + (3 + b.length) := by rw [mkB_size]; simp; omega
  have e0 : ([0xE2, 0x82, 0xAC] ++ b : List UInt8)[0]'(by simp) = 0xE2 := rfl
  have e1 : ([0xE2, 0x82, 0xAC] ++ b : List UInt8)[1]'(by simp) = 0x82 := rfl
  have e2 : ([0xE2, 0x82, 0xAC] ++ b : List UInt8)[2]'(by simp) = 0xAC := rfl
  rw [e0] at g0; rw [e1] at g1; rw [e2] at g2
  unfold Utf8.decode
  simp only [g0, g1, g2, s]
  have h1 : a.length + 1 < a.length + (3 + b.length) := by omega
  have h2 : a.length + 2 < a.length + (3 + b.length) := by omega
  simp only [h1, h2, decide_true, Bool.true_and, show (0xE2 : UInt8).toNat = 226 from rfl, show (0x82 : UInt8).toNat = 130 from rfl, show (0xAC : UInt8).toNat = 172 from rfl]
  rw [if_neg (by decide), if_neg (by decide), if_pos (by decide), if_pos (by decide)]
theorem decode_one (a b : List UInt8) (c : UInt8) (hc : c.toNat < 128) : Utf8.decode (mkB (a ++ ([c] ++ b))) a.length = (c.toNat, 1) := by
  have g0 := mkB_get a ([c] ++ b) 0 (by simp)
  have e0 : ([c] ++ b : List UInt8)[0]'(by simp) = c := rfl
  rw [e0] at g0
  unfold Utf8.decode
  simp only [g0]
  rw [if_pos hc]
theorem letF_wide : letF 8364 = true := by decide
theorem letF_low {c : Int} (h1 : 97 ≤ c) (h2 : c ≤ 122) : letF c = true := by
  unfold letF barL
  simp only [List.all_cons, List.all_nil, Bool.and_true, Bool.and_eq_true, Bool.not_eq_true', Bool.and_eq_false_iff, decide_eq_false_iff_not, decide_eq_true_eq]
  omega
end Go.Proofs.YtggdddkbhigjoaaDoor
/- Views, plain: histories that were fed, what a statement notes of them; moves that are made right. -/
namespace Go.Proofs.YtggdddkbhigjoaaDoor
open Go Go.GW
/-! ### Texts of letters -/
def bytesL (x : Option Nat) : List UInt8 := match x with
  | none => [0xE2, 0x82, 0xAC]
  | some r => [UInt8.ofNat (97 + r % 26)]
def txL (ls : List (Option Nat)) : List UInt8 := ls.flatMap bytesL
def txOf (ls : List (Option Nat)) : ByteArray := mkB (txL ls)
theorem bytesL_len (x : Option Nat) : 1 ≤ (bytesL x).length ∧ (bytesL x).length ≤ 3 := by cases x <;> simp [bytesL]
theorem txL_len : ∀ (ls : List (Option Nat)), (txL ls).length ≤ 3 * ls.length
  | [] => by simp [txL]
  | x :: ls => by
    have := txL_len ls
    have := bytesL_len x
    simp only [txL, List.flatMap_cons, List.length_append, List.length_cons] at *; omega
theorem txOf_size (ls : List (Option Nat)) : (txOf ls).size ≤ 3 * ls.length := by unfold txOf; rw [mkB_size]; exact txL_len ls
theorem txOf_append (ls : List (Option Nat)) (x : Option Nat) : txOf ls ++ mkB (bytesL x) = txOf (ls ++ [x]) := by
  unfold txOf txL; rw [mkB_append, List.flatMap_append]; simp
theorem utAt_letters : ∀ (ls : List (Option Nat)) (q : Nat) (pre : List UInt8), utAt (mkB (pre ++ txL ls)) pre.length q = (((q + ls.length : Nat) : Int), 0, 0)
  | [], q, pre => by
    rw [utAt_end (by rw [mkB_size]; simp [txL])]; rfl
  | x :: ls, q, pre => by
    have hl := bytesL_len x
    have hp : pre.length < (mkB (pre ++ txL (x :: ls))).size := by rw [mkB_size, txL, List.flatMap_cons]; simp only [List.length_append]; omega
    have ih := utAt_letters ls (q + 1) (pre ++ bytesL x)
    rw [List.append_assoc] at ih
    have key : ∃ c : Nat, Utf8.decode (mkB (pre ++ (bytesL x ++ txL ls))) pre.length = (c, (bytesL x).length) ∧ (c : Int) ≠ 65533 ∧ letF c = true := by
      cases x with
      | none => exact ⟨8364, by unfold bytesL; rw [decode_wide]; rfl, by decide, letF_wide⟩
      | some k =>
        have hk : k % 26 < 26 := Nat.mod_lt _ (by decide)
        have hc : (UInt8.ofNat (97 + k % 26)).toNat = 97 + k % 26 := by
          rw [UInt8.toNat_ofNat']; omega
        refine ⟨97 + k % 26, ?_, by omega, letF_low (by omega) (by omega)⟩
        unfold bytesL
        rw [decode_one _ _ _ (by rw [hc]; omega), hc]; rfl
    obtain ⟨c, h1, h2, h3⟩ := key
    rw [txL, List.flatMap_cons] at hp ⊢
    rw [utAt_next hp]
    · rw [show (mkB (pre ++ (bytesL x ++ List.flatMap bytesL ls))) = mkB (pre ++ (bytesL x ++ txL ls)) from rfl, h1]
      simp only
      rw [List.length_append] at ih
      rw [ih]
      simp only [List.length_cons]
      congr 2; omega
    · rw [show (mkB (pre ++ (bytesL x ++ List.flatMap bytesL ls))) = mkB (pre ++ (bytesL x ++ txL ls)) from rfl, h1]; unfold begF; simp [h2]
    · rw [show (mkB (pre ++ (bytesL x ++ List.flatMap bytesL ls))) = mkB (pre ++ (bytesL x ++ txL ls)) from rfl, h1]; simp [h3]
theorem utF_letters (ls : List (Option Nat)) : utF (txOf ls) = ((ls.length : Int), 0, 0) := by
  have := utAt_letters ls 0 []
  simp only [List.nil_append, List.length_nil, Nat.zero_add] at this
  exact this
/-! ### What is noted -/
def idsOf (es : List Ent) : List (Int × Int) := es.map fun e => (e.op.c, e.op.n)
def kindN (o : GOp) : Int := if o.kind = 4 then 2 else if o.kind = 2 then 1 else 0
def kindsOf (es : List Ent) : List Int := es.map fun e => kindN e.op
def textsOf (es : List Ent) : List ByteArray := es.map fun e => e.op.text
def insAt {α : Type} (l : List α) (i : Nat) (x : α) : List α := l.take i ++ x :: l.drop i
def nxF (nx : List Int) (c n : Int) : List Int := if nx.getD c.toNat 0 < n then nx.set c.toNat n else nx
theorem zipE_noted {β : Type} (f : GOp → β) (hf : ∀ a b, Same a b → f b = f a) : ∀ (xs : List GOp) (es : List Ent), Sames (es.map (·.op)) xs → (zipE xs es).map (fun e => f e.op) = es.map fun e => f e.op
  | [], [], _ => rfl
  | x :: xs, e :: es, h => by
    cases h with
    | cons h hr => simp only [zipE, List.map_cons, hf _ _ h, zipE_noted f hf xs es hr]
  | [], e :: es, h => by cases h
  | x :: xs, [], h => by cases h
theorem PutIs.noted {β : Type} (f : GOp → β) (hf : ∀ a b, Same a b → f b = f a) {H : Hist} (h : HV H) {i : Nat} {o : GOp} {es : List Ent} {nw : List Rg} {eff : GOp} (g : Good H i o) (p : PutIs H i o es nw eff) :
    (putF H i o).1.ents.map (fun e => f e.op) = insAt (H.ents.map fun e => f e.op) i (f o) := by
  have hs := p.sames h g
  rw [p.put]
  show (newEnts i o nw es (carryF o (H.ops.drop i)).2).map (fun e => f e.op) = _
  unfold newEnts insAt
  rw [List.map_append, List.map_cons, zipE_noted f hf _ _ hs]
  have e0 : (es.map fun e => f e.op) = H.ents.map fun e => f e.op := by
    have := congrArg (List.map f) (p.es_ops g)
    unfold Hist.ops at this
    rw [List.map_map, List.map_map] at this
    exact this
  rw [← List.map_take, ← List.map_drop, List.map_take, List.map_drop, e0, ← List.map_take, ← List.map_drop, List.map_take, List.map_drop]
theorem PutIs.length {H : Hist} (h : HV H) {i : Nat} {o : GOp} {es : List Ent} {nw : List Rg} {eff : GOp} (g : Good H i o) (p : PutIs H i o es nw eff) : (putF H i o).1.ents.length = H.ents.length + 1 := by
  have hs := p.sames h g
  rw [p.put]
  show (newEnts i o nw es (carryF o (H.ops.drop i)).2).length = _
  rw [newEnts_length hs (by rw [p.len g]; exact g.le), p.len g]
/-- A history that was fed, and the row of its effects. -/
inductive Made : Nat → Hist → List Ce → Prop
  | zero : Made 0 ⟨[], 0⟩ []
  | step {n : Nat} {H : Hist} {X : List Ce} {i : Nat} {o : GOp} (h : Made n H X) (g : Good H i o) : Made (n + 1) (putF H i o).1 (applyRow (putF H i o).2.1 X)
theorem Made.inv {n : Nat} {H : Hist} {X : List Ce} (h : Made n H X) : n ≤ 1000 → HV H ∧ Rule H X ∧ H.ents.length = n := by
  induction h with
  | zero =>
    intro _
    refine ⟨⟨trivial, rfl, by decide, fun e he => (by cases he), fun e he => (by cases he), fun e he => (by cases he), List.nodup_nil⟩, ⟨rfl, fun q c hq => (by simp at hq)⟩, rfl⟩
  | step h g ih =>
    intro hn
    obtain ⟨h1, h2, h3⟩ := ih (by omega)
    obtain ⟨es, nw, eff, p⟩ := put_good h1 g
    have h4 := put_hv h1 g p
    have h5 := (put_row h1 g p h2 (by omega)).2.2
    refine ⟨by rw [p.put]; exact h4, by rw [p.put]; exact h5, by rw [p.length h1 g, h3]⟩
/-- What holds of a view: N is no less than any number that was noted. -/
structure VI (N : Int) (n : Nat) (H : Hist) (X : List Ce) (nx : List Int) : Prop where
  made : Made n H X
  le : n ≤ 200
  nxl : nx.length = 9
  nxe : ∀ e ∈ H.ents, ∃ x, nx[e.op.c.toNat]? = some x ∧ e.op.n ≤ x
  nx0 : ∀ x ∈ nx, 0 ≤ x ∧ x ≤ N
theorem VI.hv {N : Int} {n : Nat} {H : Hist} {X : List Ce} {nx : List Int} (h : VI N n H X nx) : HV H := (h.made.inv (by have := h.le; omega)).1
theorem VI.rule {N : Int} {n : Nat} {H : Hist} {X : List Ce} {nx : List Int} (h : VI N n H X nx) : Rule H X := (h.made.inv (by have := h.le; omega)).2.1
theorem VI.len {N : Int} {n : Nat} {H : Hist} {X : List Ce} {nx : List Int} (h : VI N n H X nx) : H.ents.length = n := (h.made.inv (by have := h.le; omega)).2.2
theorem VI.total {N : Int} {n : Nat} {H : Hist} {X : List Ce} {nx : List Int} (h : VI N n H X nx) : 0 ≤ H.total ∧ H.total ≤ 256 * n := by
  have h1 := h.hv
  refine ⟨h1.total0, ?_⟩
  have key : ∀ (l : List GOp) (w : Int), CtxOk w l → sumO l ≤ 256 * l.length := by
    intro l
    induction l with
    | nil => intro w _; simp [sumO]
    | cons o l ih =>
      intro w hc
      have := ih _ hc.2
      have := hc.1.width
      simp only [sumO, List.length_cons]; omega
  have := key _ _ h1.ctx
  rw [← h1.tot] at this
  have e : H.ops.length = n := by unfold Hist.ops; rw [List.length_map, h.len]
  rw [e] at this; exact this
theorem right_bd {c n : Int} (h : rightF c n = true) : 1 ≤ c ∧ c ≤ 8 ∧ 1 ≤ n ∧ n ≤ 1024 := by unfold rightF at h; simpa using h
theorem nxF_length (nx : List Int) (c n : Int) : (nxF nx c n).length = nx.length := by unfold nxF; split <;> simp
theorem VI.zero : VI 0 0 ⟨[], 0⟩ [] (List.replicate 9 0) := ⟨.zero, by decide, rfl, fun e he => (by cases he), fun x hx => by have := List.eq_of_mem_replicate hx; omega⟩
theorem VI.step {N N' : Int} {n : Nat} {H : Hist} {X : List Ce} {nx : List Int} (h : VI N n H X nx) {i : Nat} {o : GOp} (g : Good H i o) (hn : n < 200) (hN : N ≤ N') (ho : o.n ≤ N') : VI N' (n + 1) (putF H i o).1 (applyRow (putF H i o).2.1 X) (nxF nx o.c o.n) := by
  have hb := right_bd g.idr
  have hl := h.nxl
  obtain ⟨es, nw, eff, p⟩ := put_good h.hv g
  refine ⟨.step h.made g, by omega, by rw [nxF_length]; exact hl, ?_, ?_⟩
  · intro e he
    have hids := p.noted (fun o => (o.c, o.n)) (fun a b hs => by rw [hs.c, hs.n]) h.hv g
    have hm : (e.op.c, e.op.n) ∈ insAt (H.ents.map fun e => (e.op.c, e.op.n)) i (o.c, o.n) := by
      rw [← hids]; exact List.mem_map.2 ⟨e, he, rfl⟩
    have hold : (e.op.c = o.c ∧ e.op.n = o.n) ∨ ∃ x ∈ H.ents, e.op.c = x.op.c ∧ e.op.n = x.op.n := by
      unfold insAt at hm
      rcases List.mem_append.1 hm with hm | hm
      · obtain ⟨x, hx, hh⟩ := List.mem_map.1 (List.mem_of_mem_take hm)
        simp only [Prod.mk.injEq] at hh
        exact .inr ⟨x, hx, hh.1.symm, hh.2.symm⟩
      · rcases List.mem_cons.1 hm with hm | hm
        · simp only [Prod.mk.injEq] at hm; exact .inl hm
        · obtain ⟨x, hx, hh⟩ := List.mem_map.1 (List.mem_of_mem_drop hm)
          simp only [Prod.mk.injEq] at hh
          exact .inr ⟨x, hx, hh.1.symm, hh.2.symm⟩
    rcases hold with ⟨e1, e2⟩ | ⟨x, hx, e1, e2⟩
    · rw [e1, e2]
      unfold nxF
      have hlt : o.c.toNat < nx.length := by omega
      split
      · exact ⟨o.n, by rw [List.getElem?_set_self hlt], Int.le_refl _⟩
      · rename_i hh
        refine ⟨nx[o.c.toNat], List.getElem?_eq_getElem hlt, ?_⟩
        rw [List.getD_eq_getElem?_getD, List.getElem?_eq_getElem hlt] at hh
        simp only [Option.getD_some] at hh; omega
    · obtain ⟨y, hy, hle⟩ := h.nxe x hx
      rw [e1, e2]
      unfold nxF
      split
      · rename_i hh
        by_cases hc : o.c.toNat = x.op.c.toNat
        · rw [hc] at hh ⊢
          rw [List.getD_eq_getElem?_getD, hy] at hh
          simp only [Option.getD_some] at hh
          have hlt : x.op.c.toNat < nx.length := by
            rcases Nat.lt_or_ge x.op.c.toNat nx.length with h | h
            · exact h
            · rw [List.getElem?_eq_none h] at hy; cases hy
          exact ⟨o.n, by rw [List.getElem?_set_self hlt], by omega⟩
        · exact ⟨y, by rw [List.getElem?_set_ne hc]; exact hy, hle⟩
      · exact ⟨y, hy, hle⟩
  · intro x hx
    unfold nxF at hx
    split at hx
    · rcases List.mem_or_eq_of_mem_set hx with hx | rfl
      · have := h.nx0 x hx; omega
      · omega
    · have := h.nx0 x hx; omega
/-! ### Moves that are made -/
theorem VI.fresh {N : Int} {n : Nat} {H : Hist} {X : List Ce} {nx : List Int} (h : VI N n H X nx) {c : Int} {x : Int} (hc : nx[c.toNat]? = some x) (hc0 : 1 ≤ c ∧ c ≤ 8) {k : Int} (hk : x < k) : whereId H.ents c k = none := by
  cases hw : whereId H.ents c k with
  | none => rfl
  | some j =>
    obtain ⟨hj, h1, h2⟩ := whereId_some hw
    obtain ⟨y, hy, hle⟩ := h.nxe _ (List.getElem_mem hj)
    rw [h1, hc] at hy
    have := Option.some.inj hy
    omega
theorem whereId_of {es : List Ent} (hn : (es.map fun e => (e.op.c, e.op.n)).Nodup) {k : Nat} (hk : k < es.length) : whereId es es[k].op.c es[k].op.n = some k := by
  cases hw : whereId es es[k].op.c es[k].op.n with
  | none => exact absurd ⟨rfl, rfl⟩ (whereId_none hw _ (List.getElem_mem hk))
  | some j =>
    obtain ⟨hj, h1, h2⟩ := whereId_some hw
    have h3 := List.getElem_inj (h₀ := by simpa using hj) (h₁ := by simpa using hk) hn
    simp only [List.getElem_map, Prod.mk.injEq] at h3
    rw [h3.1 ⟨h1, h2⟩]
theorem good_head {o : GOp} (hk : 1 ≤ o.kind ∧ o.kind ≤ 4) (hr : rightF o.c o.n = true) (he : extraF o = false) : headF o := ⟨by omega, fun h => by rw [hr] at h; simp at h, by rw [he]; simp⟩
theorem VI.room {N : Int} {n : Nat} {H : Hist} {X : List Ce} {nx : List Int} (h : VI N n H X nx) (i : Nat) : 0 ≤ beforeF H i ∧ beforeF H i ≤ H.total := by
  obtain ⟨h1, h2, h3, h4⟩ := h.hv.split i
  have := sumO_nonneg h2
  omega
theorem good_ins {N : Int} {n : Nat} {H : Hist} {X : List Ce} {nx : List Int} (h : VI N n H X nx) {i : Nat} (hi : i ≤ n) {c k : Int} (hw : whereId H.ents c k = none) (hr : rightF c k = true) {a : Int} {ls : List (Option Nat)} (ha : 0 ≤ a ∧ a ≤ beforeF H i) (hl : 1 ≤ ls.length ∧ ls.length ≤ 256) : Good H i { zeroOp with c := c, n := k, kind := 1, at_ := a, text := txOf ls } := by
  have ht := h.total
  have hb := h.room i
  have hle := h.le
  have hu := utF_letters ls
  refine ⟨by rw [h.len]; exact hi, ⟨(check_ins rfl (by omega)).2 ⟨good_head (by dsimp only; omega) hr (by simp [extraF, zeroOp]), insF_ok.2 ?_⟩, .inl rfl⟩, hw, hr, fun e => (by cases e), ?_⟩
  · dsimp only
    rw [hu]; dsimp only; omega
  · have : widthF { zeroOp with c := c, n := k, kind := 1, at_ := a, text := txOf ls } = ls.length := by unfold widthF; rw [if_pos rfl]; dsimp only; rw [hu]
    rw [this]; omega
theorem good_hide {N : Int} {n : Nat} {H : Hist} {X : List Ce} {nx : List Int} (h : VI N n H X nx) {i : Nat} (hi : i ≤ n) {c k : Int} (hw : whereId H.ents c k = none) (hr : rightF c k = true) {rs : List Rg} (hp : Pls (beforeF H i) rs) (hne : rs ≠ []) : Good H i { zeroOp with c := c, n := k, kind := 2, rs := rs } := by
  have ht := h.total
  have hb := h.room i
  have hle := h.le
  refine ⟨by rw [h.len]; exact hi, ⟨(check_cov (.inl rfl) (by omega)).2 ⟨good_head (by dsimp only; omega) hr (by simp [extraF, zeroOp, emptyB]), (rangesF_ok (by omega)).2 ⟨hne, hp⟩⟩, .inr (.inl rfl)⟩, hw, hr, fun e => (by cases e), ?_⟩
  have : widthF { zeroOp with c := c, n := k, kind := 2, rs := rs } = 0 := by unfold widthF; rw [if_neg (by dsimp only; omega)]
  rw [this]; omega
theorem good_status {N : Int} {n : Nat} {H : Hist} {X : List Ce} {nx : List Int} (h : VI N n H X nx) {i : Nat} (hi : i ≤ n) {c k : Int} (hw : whereId H.ents c k = none) (hr : rightF c k = true) {j : Nat} (hj : j < H.ents.length) (hji : j < i) (hk : H.ents[j].op.kind ≠ 4) (on : Bool) : Good H i { zeroOp with c := c, n := k, kind := 4, tc := H.ents[j].op.c, tn := H.ents[j].op.n, on := on } := by
  have ht := h.total
  have hb := h.room i
  have hle := h.le
  have hne : ¬ (H.ents[j].op.c = c ∧ H.ents[j].op.n = k) := whereId_none hw _ (List.getElem_mem hj)
  refine ⟨by rw [h.len]; exact hi, ⟨(check_st rfl (by omega)).2 ⟨good_head (by dsimp only; omega) hr (by simp [extraF, zeroOp, emptyB]), h.hv.idr _ (List.getElem_mem hj), hne⟩, .inr (.inr rfl)⟩, hw, hr, fun _ => ⟨j, whereId_of h.hv.ids hj, hji, _, List.getElem?_eq_getElem hj, hk⟩, ?_⟩
  have : widthF { zeroOp with c := c, n := k, kind := 4, tc := H.ents[j].op.c, tn := H.ents[j].op.n, on := on } = 0 := by unfold widthF; rw [if_neg (show ¬ (4 : Int) = 1 by decide)]
  rw [this]; omega
/-! ### Cells that texts put in -/
theorem emptyB_eq {s : ByteArray} (h : (s == ⟨#[]⟩) = true) : s = ⟨#[]⟩ := by
  rw [beq_toListBytes, ByteArray.toList_eq, ByteArray.toList_eq] at h
  have := eq_of_beq h
  obtain ⟨⟨x⟩⟩ := s
  simp at this
  subst this; rfl
theorem right_runes {w : Int} {o : GOp} (h : Right w o) : ((runesF o.text).length : Int) = widthF o := by
  rcases h.kind with hk | hk | hk
  · exact runes_width h hk
  all_goals
    have hh := (h.head h.w0).2.2
    have ht : o.text = ⟨#[]⟩ := by
      unfold extraF at hh
      have h1 : o.kind ≠ 1 := by omega
      apply emptyB_eq
      cases hq : (o.text == ⟨#[]⟩) with
      | true => rfl
      | false => exfalso; apply hh; simp [h1, hq]
    have hw : widthF o = 0 := by unfold widthF; rw [if_neg (by omega)]
    rw [ht, hw]
    have : runesF ⟨#[]⟩ = [] := by unfold runesF; rw [runesAt_end (by decide)]
    rw [this]; rfl
def cellsN (ts : List ByteArray) : Nat := (ts.map fun s => (runesF s).length).sum
theorem cells_before {H : Hist} (h : HV H) (i : Nat) : (cellsN ((textsOf H.ents).take i) : Int) = beforeF H i := by
  have key : ∀ (l : List GOp) (w : Int), CtxOk w l → ((cellsN (l.map (·.text)) : Nat) : Int) = sumO l := by
    intro l
    induction l with
    | nil => intro w _; rfl
    | cons o l ih =>
      intro w hc
      have h1 := ih _ hc.2
      have h2 := right_runes hc.1
      simp only [cellsN, List.map_cons, List.sum_cons, sumO] at h1 ⊢
      omega
  have e : (textsOf H.ents).take i = (H.ops.take i).map (·.text) := by unfold textsOf Hist.ops; rw [← List.map_take, ← List.map_take, List.map_map]; rfl
  rw [e, key _ 0 (h.split i).1, before_ops]
end Go.Proofs.YtggdddkbhigjoaaDoor
/- Views in memory. -/
namespace Go.Proofs.YtggdddkbhigjoaaDoor
open Go Go.GW
def idC (x : Int × Int) : List Value := [.int .i64 x.1, .int .i64 x.2]
def idD : De (Int × Int) where
  sz := 2
  rep _ _ x cs := cs = idC x
  len h := by subst h; rfl
  one h := by subst h; rfl
  stable _ _ _ _ _ h := h
theorem id_open (u : Int × Int) : ∀ Z w cs, idD.rep Z w u cs → ∃ y : Unit, cs = idC u ∧ ∀ B ∈ ([] : List Fact), B.holds Z w := fun _ _ _ h => ⟨(), h, fun _ h => by cases h⟩
theorem str_open (u : ByteArray) : ∀ Z w cs, De.str.rep Z w u cs → ∃ y : Unit, cs = [.string u] ∧ ∀ B ∈ ([] : List Fact), B.holds Z w := fun _ _ _ h => ⟨(), h, fun _ h => by cases h⟩
theorem i64_open (u : Int) : ∀ Z w cs, (De.int .i64).rep Z w u cs → ∃ y : Unit, cs = [.int .i64 u] ∧ ∀ B ∈ ([] : List Fact), B.holds Z w := fun _ _ _ h => ⟨(), h, fun _ h => by cases h⟩
/-- Cells of lists whose elements are plain cells. -/
def flatC {α : Type} (f : α → List Value) (xs : List α) : List Value := (xs.map f).flatten
theorem flatC_append {α : Type} (f : α → List Value) (xs ys : List α) : flatC f (xs ++ ys) = flatC f xs ++ flatC f ys := by unfold flatC; simp
theorem flatC_one {α : Type} (f : α → List Value) (x : α) : flatC f [x] = f x := by unfold flatC; simp
theorem reps_of {α : Type} {e : De α} {f : α → List Value} (h : ∀ Z w x, e.rep Z w x (f x)) (xs : List α) (Z : Nat → Prop) (w : World) : Reps (e.rep Z w) xs (xs.map f) := by
  induction xs with
  | nil => exact .nil
  | cons x xs ih => exact .cons (h Z w x) ih
abbrev vwP (v h b : Nat) (A1 : Option Addr) (n c1 : Nat) (A2 : Option Addr) (c2 : Nat) (A3 : Option Addr) (c3 : Nat) (nx : List Int) : Part :=
  [(v, cellsO (.pointer (some ⟨h, 0, none⟩) :: .pointer (some ⟨b, 0, none⟩) :: .slice A1 n c1 :: .slice A2 n c2 :: .slice A3 n c3 :: ints .i64 nx) 61)]
/-- A view that lies somewhere. -/
def ViewAt (v h m b : Nat) (H : Hist) (X : List Ce) (nx : List Int) (Lo : List Part) (fs : List Fact) : Prop :=
  ∃ (L : List MR) (A : Option Addr) (cap : Nat) (B : Option Addr) (t : Tr) (A1 : Option Addr) (c1 : Nat) (A2 : Option Addr) (c2 : Nat) (A3 : Option Addr) (c3 : Nat),
    Lo = [vwP v h b A1 H.ents.length c1 A2 c2 A3 c3 nx, hdP h A H.ops.length cap m H.total, mpP m L, mkP L, rpP b B] ∧
    fs = [RdF opD A cap H.ops, AllF L nowF, TrF B t, RdF idD A1 c1 (idsOf H.ents), RdF (De.int .i64) A2 c2 (kindsOf H.ents), RdF De.str A3 c3 (textsOf H.ents)] ∧
    HR H L ∧ Wf t ∧ t.row = X
/-! ### Small laws of the functions of the statements -/
theorem tmod_rest (a : Int) (m : Nat) (hm : 0 < m) : (a.tmod m + m).tmod m = a % m := by
  have h1 := Int.emod_nonneg a (show (m : Int) ≠ 0 by omega)
  have h2 := Int.emod_lt_of_pos a (show (0 : Int) < m by omega)
  have h3 : 0 ≤ a.tmod m + m := by
    have := Int.lt_tmod_of_pos a (show (0 : Int) < m by omega)
    omega
  rw [Int.tmod_eq_emod_of_nonneg h3, Int.add_emod_right]
  rcases Int.le_total 0 a with h | h
  · rw [Int.tmod_eq_emod_of_nonneg h, Int.emod_emod_of_dvd _ (Int.dvd_refl _)]
  · have h4 : a.tmod m = -((-a) % m) := by
      have := Int.neg_tmod (-a) m
      rw [Int.neg_neg] at this
      rw [this, Int.tmod_eq_emod_of_nonneg (by omega)]
    rw [h4]
    have := Int.emod_add_mul_ediv (-a) m
    have h5 : -((-a) % m) = a + m * ((-a) / m) := by omega
    rw [h5, Int.add_mul_emod_self_left]
theorem tmod_bd (a : Int) (m : Nat) (hm : 0 < m) : -(m : Int) < a.tmod m ∧ a.tmod m < m :=
  ⟨Int.lt_tmod_of_pos a (by omega), Int.tmod_lt_of_pos a (by omega)⟩
def editsL (ids : List (Int × Int)) (ks : List Int) : List (Int × Int) := ((ids.zip ks).filter fun x => !(x.2 == 2)).map (·.1)
theorem editsL_snoc {ids : List (Int × Int)} {ks : List Int} {i : Nat} (h1 : i < ids.length) (h2 : i < ks.length) : editsL (ids.take (i + 1)) (ks.take (i + 1)) = editsL (ids.take i) (ks.take i) ++ (if !(ks[i] == 2) then [ids[i]] else []) := by
  unfold editsL
  rw [List.take_succ_eq_append_getElem h1, List.take_succ_eq_append_getElem h2, List.zip_append (by rw [List.length_take, List.length_take]; omega), List.filter_append, List.map_append]
  congr 1
  simp only [List.zip_cons_cons, List.zip_nil_right, List.filter_cons, List.filter_nil]
  split <;> rfl
theorem editsL_len (ids : List (Int × Int)) (ks : List Int) : (editsL ids ks).length ≤ ids.length := by
  unfold editsL
  rw [List.length_map]
  have := List.length_filter_le (fun x : (Int × Int) × Int => !(x.2 == 2)) (ids.zip ks)
  have h2 : (ids.zip ks).length ≤ ids.length := by rw [List.length_zip]; omega
  omega
theorem cellsN_snoc {ts : List ByteArray} {i : Nat} (h : i < ts.length) : cellsN (ts.take (i + 1)) = cellsN (ts.take i) + (runesF ts[i]).length := by
  unfold cellsN
  rw [List.take_succ_eq_append_getElem h, List.map_append, List.sum_append]; simp
/-- total's inner loop. -/
structure ToI (s : ByteArray) (k p j : Nat) : Prop where
  le : p ≤ s.size
  eq : j + (runesAt s p).length = k + (runesF s).length
/-- some's loop. -/
structure SoI (n q : Nat) (xs : List Rg) (v : Value) (p : Part) : Prop where
  le : q ≤ n
  pls : Pls q xs
  row : Row 37 2 v xs.length (rgs xs) p
theorem SoI.len {n q : Nat} {xs : List Rg} {v : Value} {p : Part} (h : SoI n q xs v p) : xs.length ≤ q := by
  have := h.pls.len (by omega); omega
theorem pls_mono {T T' : Int} {xs : List Rg} (h : Pls T xs) (ht : T ≤ T') : Pls T' xs := ⟨h.norm, h.below.mono ht⟩
theorem pls_join {q : Nat} {ys : List Rg} {r : Rg} (h : Pls q (ys ++ [r])) (hr : r.hi = q) : Pls ((q + 1 : Nat) : Int) (ys ++ [⟨r.lo, q + 1⟩]) := by
  obtain ⟨g1, g2⟩ := normB_append.1 h.norm
  obtain ⟨k1, k2⟩ := BelowR.append.1 h.below
  refine ⟨normB_append.2 ⟨g1, g2.1, by have := g2.2.1; show r.lo < (q : Int) + 1; omega, trivial⟩, BelowR.append.2 ⟨k1.mono (by omega), fun x hx => ?_⟩⟩
  rw [List.mem_singleton] at hx; subst hx
  show (q : Int) + 1 ≤ _; omega
theorem pls_more {q : Nat} {xs : List Rg} (h : Pls q xs) (hl : ∀ r, xs.getLast? = some r → r.hi ≠ q) : Pls ((q + 1 : Nat) : Int) (xs ++ [⟨q, q + 1⟩]) := by
  refine ⟨normB_append.2 ⟨h.norm, ?_, by show (q : Int) < q + 1; omega, trivial⟩, BelowR.append.2 ⟨h.below.mono (by omega), fun x hx => ?_⟩⟩
  · rcases List.eq_nil_or_concat xs with rfl | ⟨ys, r, rfl⟩
    · show (0 : Int) ≤ q; omega
    · rw [List.concat_eq_append] at *
      have h1 := h.below r (by simp)
      have h2 := hl r (by simp)
      rw [endB_append]
      show r.hi + 1 ≤ (q : Int); omega
  · rw [List.mem_singleton] at hx; subst hx
    show (q : Int) + 1 ≤ _; omega
theorem vw_next {a b c d e : Value} {nx : List Int} {k : Nat} {x : Int} (h : nx[k]? = some x) : (a :: b :: c :: d :: e :: ints .i64 nx)[5 + ((k : Nat) : Int).toNat * 1]? = some (.int .i64 x) := by
  rw [Int.toNat_natCast, Nat.mul_one, Nat.add_comm 5 k]
  simp [ints, h]
structure Mv where
  kind : Int
  i : Int
  client : Int
  a : Int
  b : Int
  n : Int
def mvC (m : Mv) : List Value := [.int .i64 m.kind, .int .i64 m.i, .int .i64 m.client, .int .i64 m.a, .int .i64 m.b, .int .i64 m.n]
def mvV (m : Mv) : Value := .agg (mvC m).toArray
theorem editsL_mem {ids : List (Int × Int)} {ks : List Int} {x : Int × Int} (h : x ∈ editsL ids ks) : ∃ (j : Nat) (k : Int), ids[j]? = some x ∧ ks[j]? = some k ∧ k ≠ 2 := by
  unfold editsL at h
  obtain ⟨⟨y, k⟩, h1, rfl⟩ := List.mem_map.1 h
  obtain ⟨h2, h3⟩ := List.mem_filter.1 h1
  obtain ⟨j, hj⟩ := List.mem_iff_getElem?.1 h2
  rw [List.getElem?_zip_eq_some] at hj
  exact ⟨j, k, hj.1, hj.2, by simpa using h3⟩
theorem edits_target {H : Hist} {i : Nat} {x : Int × Int} (h : x ∈ editsL ((idsOf H.ents).take i) ((kindsOf H.ents).take i)) : ∃ (j : Nat) (hj : j < H.ents.length), j < i ∧ H.ents[j].op.c = x.1 ∧ H.ents[j].op.n = x.2 ∧ H.ents[j].op.kind ≠ 4 := by
  obtain ⟨j, k, h1, h2, h3⟩ := editsL_mem h
  rw [List.getElem?_take] at h1 h2
  split at h1
  · rename_i hji
    rw [if_pos hji] at h2
    unfold idsOf at h1
    unfold kindsOf at h2
    rw [List.getElem?_map] at h1 h2
    cases he : H.ents[j]? with
    | none => rw [he] at h1; cases h1
    | some e =>
      have hj : j < H.ents.length := by
        rcases Nat.lt_or_ge j H.ents.length with h | h
        · exact h
        · rw [List.getElem?_eq_none h] at he; cases he
      have hee : H.ents[j] = e := by rw [List.getElem?_eq_getElem hj] at he; exact Option.some.inj he
      rw [he] at h1 h2
      simp only [Option.map_some, Option.some.injEq] at h1 h2
      subst h1
      refine ⟨j, hj, hji, by rw [hee], by rw [hee], ?_⟩
      rw [hee]
      intro hk
      unfold kindN at h2
      rw [if_pos hk] at h2
      exact h3 h2.symm
  · cases h1
/-- An operation that is right whatever its id. -/
structure Body (H : Hist) (i : Nat) (o : GOp) : Prop where
  good : ∀ c k : Int, whereId H.ents c k = none → rightF c k = true → Good H i { o with c := c, n := k }
  text : o.text.size ≤ 1000
  rs : o.rs.length ≤ 60000
theorem VI.cellsB {N : Int} {n : Nat} {H : Hist} {X : List Ce} {nx : List Int} (h : VI N n H X nx) (i : Nat) : cellsN ((textsOf H.ents).take i) ≤ 51200 := by
  have h1 := cells_before h.hv i
  have h2 := h.room i
  have h3 := h.total
  have h4 := h.le
  omega
end Go.Proofs.YtggdddkbhigjoaaDoor
/- What the statements' makers make, as_ functions: two runs of them on one input make the same. -/
namespace Go.Proofs.YtggdddkbhigjoaaDoor
open Go Go.GW
def letAt (k : Int) (i : Nat) : Option Nat := if IntKind.i64.wrap (k + i) % ((7 : Nat) : Int) = 3 then none else some (IntKind.i64.wrap (k + i) % ((26 : Nat) : Int)).toNat
def lsN (k : Int) : Nat → List (Option Nat)
  | 0 => []
  | i + 1 => lsN k i ++ [letAt k i]
theorem lsN_len (k : Int) : ∀ i, (lsN k i).length = i
  | 0 => rfl
  | i + 1 => by simp [lsN, lsN_len k i]
def stepS (a c : Int) (q : Nat) (xs : List Rg) : List Rg :=
  if ((q * (a % ((7 : Nat) : Int)).toNat + (c % ((11 : Nat) : Int)).toNat : Nat) : Int) % ((11 : Nat) : Int) ≥ 5 then xs
  else match xs.getLast? with
    | none => [⟨q, q + 1⟩]
    | some r => if r.hi = q then xs.dropLast ++ [⟨r.lo, q + 1⟩] else xs ++ [⟨q, q + 1⟩]
def smN (a c : Int) : Nat → List Rg
  | 0 => []
  | q + 1 => stepS a c q (smN a c q)
def someL (n : Nat) (a c : Int) : List Rg := if smN a c n = [] then [⟨((c % (n : Int)).toNat : Nat), n⟩] else smN a c n
theorem stepS_skip {a c : Int} {q r t u : Nat} {xs : List Rg} (h1 : (r : Int) = a % ((7 : Nat) : Int)) (h2 : (t : Int) = c % ((11 : Nat) : Int)) (h3 : (u : Int) = ((q * r + t : Nat) : Int) % ((11 : Nat) : Int)) (h : (u : Int) ≥ 5) : stepS a c q xs = xs := by
  unfold stepS
  rw [← h1, ← h2, Int.toNat_natCast, Int.toNat_natCast, ← h3, if_pos h]
theorem stepS_nil {a c : Int} {q r t u : Nat} (h1 : (r : Int) = a % ((7 : Nat) : Int)) (h2 : (t : Int) = c % ((11 : Nat) : Int)) (h3 : (u : Int) = ((q * r + t : Nat) : Int) % ((11 : Nat) : Int)) (h : ¬ (u : Int) ≥ 5) : stepS a c q [] = [] ++ [⟨q, q + 1⟩] := by
  unfold stepS
  rw [← h1, ← h2, Int.toNat_natCast, Int.toNat_natCast, ← h3, if_neg h]; rfl
theorem stepS_join {a c : Int} {q r t u : Nat} {ys : List Rg} {g : Rg} (h1 : (r : Int) = a % ((7 : Nat) : Int)) (h2 : (t : Int) = c % ((11 : Nat) : Int)) (h3 : (u : Int) = ((q * r + t : Nat) : Int) % ((11 : Nat) : Int)) (h : ¬ (u : Int) ≥ 5) (hj : g.hi = q) : stepS a c q (ys ++ [g]) = ys ++ [⟨g.lo, q + 1⟩] := by
  unfold stepS
  rw [← h1, ← h2, Int.toNat_natCast, Int.toNat_natCast, ← h3, if_neg h, List.getLast?_concat]
  simp only
  rw [if_pos hj, List.dropLast_concat]
theorem stepS_more {a c : Int} {q r t u : Nat} {ys : List Rg} {g : Rg} (h1 : (r : Int) = a % ((7 : Nat) : Int)) (h2 : (t : Int) = c % ((11 : Nat) : Int)) (h3 : (u : Int) = ((q * r + t : Nat) : Int) % ((11 : Nat) : Int)) (h : ¬ (u : Int) ≥ 5) (hj : g.hi ≠ q) : stepS a c q (ys ++ [g]) = (ys ++ [g]) ++ [⟨q, q + 1⟩] := by
  unfold stepS
  rw [← h1, ← h2, Int.toNat_natCast, Int.toNat_natCast, ← h3, if_neg h, List.getLast?_concat]
  simp only
  rw [if_neg hj]
def cutN (H : Hist) (i : Nat) : Nat := cellsN ((textsOf H.ents).take i)
def edsN (H : Hist) (i : Nat) : List (Int × Int) := editsL ((idsOf H.ents).take i) ((kindsOf H.ents).take i)
/-- The command of a move. -/
def makeG (H : Hist) (i : Nat) (m : Mv) (c x : Int) : GOp :=
  if m.kind % ((3 : Nat) : Int) = 1 ∧ 0 < cutN H i then { zeroOp with c := c, n := x + 1, kind := 2, rs := someL (cutN H i) m.a m.b }
  else if m.kind % ((3 : Nat) : Int) = 2 ∧ 0 < (edsN H i).length then { zeroOp with c := c, n := x + 1, kind := 4, tc := ((edsN H i).getD (m.a % ((edsN H i).length : Int)).toNat (0, 0)).1, tn := ((edsN H i).getD (m.a % ((edsN H i).length : Int)).toNat (0, 0)).2, on := (m.b % ((2 : Nat) : Int) == 1) }
  else { zeroOp with c := c, n := x + 1, kind := 1, at_ := m.a % ((cutN H i + 1 : Nat) : Int), text := txOf (lsN m.b (1 + (m.n % ((12 : Nat) : Int)).toNat)) }
def makeF (H : Hist) (i : Nat) (nx : List Int) (m : Mv) : GOp := makeG H i m (1 + m.client % ((8 : Nat) : Int)) (nx.getD (1 + m.client % ((8 : Nat) : Int)).toNat 0)
structure FS where
  H : Hist
  X : List Ce
  nx : List Int
def stepF (s : FS) (i : Nat) (o : GOp) : FS := ⟨(putF s.H i o).1, applyRow (putF s.H i o).2.1 s.X, nxF s.nx o.c o.n⟩
def fedStep (k : Nat) (s : FS) (m : Mv) : FS :=
  stepF s (m.i % ((k + 1 : Nat) : Int)).toNat (makeF s.H (m.i % ((k + 1 : Nat) : Int)).toNat s.nx m)
def fedN (ms : List Mv) : Nat → FS
  | 0 => ⟨⟨[], 0⟩, [], List.replicate 9 0⟩
  | k + 1 => match ms[k]? with
    | some m => fedStep k (fedN ms k) m
    | none => fedN ms k
theorem fedN_next {ms : List Mv} {k : Nat} (hk : k < ms.length) : fedN ms (k + 1) = fedStep k (fedN ms k) ms[k] := by
  simp only [fedN, List.getElem?_eq_getElem hk]
end Go.Proofs.YtggdddkbhigjoaaDoor
/- Walks: the statements' small functions. -/
namespace Go.Proofs.YtggdddkbhigjoaaDoor
open Go Go.GW
set_option maxRecDepth 10000 in
theorem rest_g (a : Int) (m : Nat) (hm : 0 < m ∧ m ≤ 1099511627776) : Sp Tryd.prog 19 [.int .i64 a, .int .i64 m] [] [] (Is (.int .i64 (a % m))) := by
  have htb := tmod_bd a m hm.1
  refine Sp.of (n := 12) ⟨_, Tryd.func19, rfl, rfl, rfl, rfl⟩ (Nat.le_of_ble_eq_true rfl) fun Ps As => WC_seq (WC_region (Lq (q_assign rfl) (WL_nil (thenN (WC_seq (WC_region (Lq (q_move rfl) (Lq (q_move rfl) (Lq (q_rem rfl rfl (by omega) rfl) (Lq (q_move rfl) (Lq (q_add rfl rfl (wr64 (by omega))) (Lq (q_move rfl) ?_))))))))))))
  refine Lq (q_rem rfl rfl (by omega) (tmod_rest a m hm.1)) (Lq (q_assign rfl) (WL_nil (thenN (WC_ret ?_))))
  refine ⟨_, [], [], fun Z w hs => .tmp rfl (.nil), ?_, fun Z w hs => hs.out (List.Sublist.refl _) (fun _ h => h)⟩
  exact ⟨rfl, rfl, rfl⟩

theorem conv_rune2 (x : Int) (h : 0 ≤ x ∧ x ≤ 2147483647) (w : World) : (convert 3 21 (.int .i64 x)).run Tryd.prog w = .ok (.int .i32 x) w := by
  have h1 : (convert 3 21 (.int .i64 x)).run Tryd.prog w = .ok (.int .i32 (IntKind.i32.wrap x)) w := by kernel_rfl
  have h2 : (x + 2147483648) % 4294967296 - 2147483648 = x := by omega
  rw [h1, IntKind.wrap_i32, h2]
theorem conv_text2 (x : Int) (w : World) : (convert 21 9 (.int .i32 x)).run Tryd.prog w = .ok (.string (Utf8.encode x)) w := by kernel_rfl
def letV : Option Nat → Int
  | none => 8364
  | some r => 97 + (r % 26 : Nat)
theorem encode_let (x : Option Nat) : Utf8.encode (letV x) = mkB (bytesL x) := by
  cases x with
  | none => decide
  | some r =>
    have hr : r % 26 < 26 := Nat.mod_lt _ (by decide)
    have e : letV (some r) = ((97 + r % 26 : Nat) : Int) := by simp [letV]
    rw [e]
    unfold Utf8.encode
    have hv : Utf8.valid ((97 + r % 26 : Nat) : Int) = true := by unfold Utf8.valid; simp; omega
    simp only [hv, if_true, Int.toNat_natCast, if_pos (show 97 + r % 26 < 128 by omega)]; rfl
def WordsP (n : Nat) (k : Int) : Value → List Part → List Fact → Prop := fun v Lo fs => ∃ ls : List (Option Nat), ls.length = n ∧ v = .string (txOf ls) ∧ Lo = [] ∧ fs = [] ∧ ls = lsN k n

set_option maxRecDepth 10000 in
theorem words_g (n : Nat) (k : Int) (hn : n ≤ 1000000) : Sp Tryd.prog 10 [.int .i64 n, .int .i64 k] [] [] (WordsP n k) := by
  refine Sp.of (n := 29) ⟨_, Tryd.func10, rfl, rfl, rfl, rfl⟩ (Nat.le_of_ble_eq_true rfl) fun Ps As => WC_seq (WC_region (Lq (q_assign rfl) (WL_nil (thenN (WC_seq (WC_region (Lq (q_assign rfl) (WL_nil (thenN (WC_seq (WC_seq (WC_region (Lq (q_assign rfl) (WL_nil (thenN (WC_block ?_))))))))))))))))
  refine WC_loopE (α := Nat × List (Option Nat)) (fun (i, ls) => n - i)
    (fun (i, ls) => [(0, .int .i64 n), (1, .int .i64 k), (5, .string (txOf ls)), (6, .int .i64 i)])
    (fun (i, ls) => Ps)
    (fun (i, ls) => As)
    (fun (i, ls) => i ≤ n ∧ ls = lsN k i)
    (0, []) ?_ (.cons rfl (.cons rfl (.cons rfl (.cons rfl (.nil _))))) (List.Sublist.refl _) (fun _ h => h) ?_
  · exact ⟨Nat.zero_le _, rfl⟩
  · rintro ⟨i, ls⟩ hI
    have hle := hI.1
    have hll : ls.length = i := by rw [hI.2, lsN_len]
    refine WC_seq (WC_seq (WC_region (Lq (q_move rfl) (Lq (q_move rfl) (Lq (q_lss rfl rfl) (WL_nil (thenN (WC_cond rfl (fun h10 => ?_) (fun h10 => ?_)))))))))
    · refine WC_skip (thenN (WC_seq (WC_block (WC_seq (WC_region (Lq (q_move rfl) (Lq (q_move rfl) (Lq (q_add rfl rfl rfl) (WL_main rfl (OW_call0 (rest_g (IntKind.i64.wrap (k + i)) 26 (by omega)) (.cons rfl (.cons rfl (.nil))) (by decide) mem0 fun u5_3 Lo fs hres => ?_))))))))))
      obtain ⟨rfl, rfl, rfl⟩ := hres
      refine Lq (q_add rfl rfl (wr64 (by omega))) (Lq (q_conv rfl (conv_rune2 _ (by omega))) (Lq (q_assign rfl) (WL_nil (thenN (WC_seq (WC_seq (WC_region (Lq (q_move rfl) (Lq (q_move rfl) (Lq (q_add rfl rfl rfl) (WL_main rfl (OW_call0 (rest_g (IntKind.i64.wrap (k + i)) 7 (by omega)) (.cons rfl (.cons rfl (.nil))) (by decide) mem0 fun u6_3 Lo fs hres => ?_))))))))))))
      obtain ⟨rfl, rfl, rfl⟩ := hres
      refine Lq (q_eql rfl rfl) (WL_nil (thenN (WC_cond rfl (fun h23 => ?_) (fun h23 => ?_))))
      · refine WC_region (Lq (q_assign rfl) (WL_nil (thenN ?_)))
        try simp only [Bp, Bq] at *
        obtain ⟨lx, hlx⟩ : ∃ lx : Option Nat, lx = none := ⟨_, rfl⟩
        have hv : (8364 : Int) = letV lx := by rw [hlx]; rfl
        have hlt : lx = letAt k i := by rw [hlx]; unfold letAt; rw [if_pos h23] <;> rfl
        have henc : Utf8.encode 8364 = mkB (bytesL lx) := by rw [hv]; exact encode_let lx
        have htl := txOf_size ls
        have hbl := bytesL_len lx
        refine WC_region (Lq (q_move rfl) (Lq (q_move rfl) (Lq (q_conv rfl (fun w => (conv_text2 _ w).trans (by rw [henc]))) (Lq (q_cat rfl rfl (by rw [mkB_size]; omega)) (Lq (q_assign rfl) (WL_nil (blockN (thenN (WC_region (Lq (q_move rfl) (Lq (q_add rfl rfl (wr64 (by omega))) (Lq (q_assign rfl) ?_))))))))))))
        refine WL_nil (thenK ?_)
        have htx : txOf ls ++ mkB (bytesL lx) = txOf (ls ++ [lx]) := txOf_append ls lx
        refine ⟨(i + 1, ls ++ [lx]), ?_, (.cons rfl (.cons rfl (.cons (congrArg (fun z => some (Value.string z)) htx) (.cons rfl (.nil _))))), (List.Sublist.refl _), (fun _ h => h)⟩
        exact ⟨by show n - (i + 1) < n - i; omega, by omega, by rw [hI.2, hlt]; rfl⟩
      · refine WC_skip (thenN ?_)
        try simp only [Bp, Bq] at *
        obtain ⟨lx, hlx⟩ : ∃ lx : Option Nat, lx = some (IntKind.i64.wrap (k + i) % 26).toNat := ⟨_, rfl⟩
        have hv : (97 : Int) + IntKind.i64.wrap (k + i) % (26 : Nat) = letV lx := by rw [hlx]; simp only [letV]; omega
        have hlt : lx = letAt k i := by rw [hlx]; unfold letAt; rw [if_neg h23] <;> rfl
        have henc : Utf8.encode (97 + IntKind.i64.wrap (k + i) % (26 : Nat)) = mkB (bytesL lx) := by rw [hv]; exact encode_let lx
        have htl := txOf_size ls
        have hbl := bytesL_len lx
        refine WC_region (Lq (q_move rfl) (Lq (q_move rfl) (Lq (q_conv rfl (fun w => (conv_text2 _ w).trans (by rw [henc]))) (Lq (q_cat rfl rfl (by rw [mkB_size]; omega)) (Lq (q_assign rfl) (WL_nil (blockN (thenN (WC_region (Lq (q_move rfl) (Lq (q_add rfl rfl (wr64 (by omega))) (Lq (q_assign rfl) ?_))))))))))))
        refine WL_nil (thenK ?_)
        have htx : txOf ls ++ mkB (bytesL lx) = txOf (ls ++ [lx]) := txOf_append ls lx
        refine ⟨(i + 1, ls ++ [lx]), ?_, (.cons rfl (.cons rfl (.cons (congrArg (fun z => some (Value.string z)) htx) (.cons rfl (.nil _))))), (List.Sublist.refl _), (fun _ h => h)⟩
        exact ⟨by show n - (i + 1) < n - i; omega, by omega, by rw [hI.2, hlt]; rfl⟩
    · refine WC_exit (thenExit (thenExit (blockHit (thenN (WC_seq (WC_region (Lq (q_move rfl) (Lq (q_assign rfl) (WL_nil (thenN (WC_ret ?_)))))))))))
      refine ⟨_, [], [], fun Z w hs => .tmp rfl (.nil), ?_, fun Z w hs => hs.out (List.Sublist.refl _) (fun _ h => h)⟩
      try simp only [Bp, Bq] at *
      have hin : i = n := by omega
      exact ⟨ls, by omega, rfl, rfl, rfl, by rw [hI.2, hin]⟩


set_option maxRecDepth 10000 in
theorem vtotal_s (v h b n : Nat) (A1 : Option Addr) (c1 : Nat) (A2 : Option Addr) (c2 : Nat) (A3 : Option Addr) (c3 : Nat) (nx : List Int) (ts : List ByteArray) (i : Nat) (hn : n = ts.length) (hi : i ≤ n) (hi2 : i ≤ 1048576) (hb : ∀ j, j ≤ i → cellsN (ts.take j) ≤ 1048576) : Sp Tryd.prog 44 [.pointer (some ⟨v, 0, none⟩), .int .i64 i] [vwP v h b A1 n c1 A2 c2 A3 c3 nx] [RdF De.str A3 c3 ts] (fun u Lo fs => u = .int .i64 (cellsN (ts.take i)) ∧ Lo = [vwP v h b A1 n c1 A2 c2 A3 c3 nx] ∧ fs = []) := by
  subst hn
  refine Sp.of (n := 25) ⟨_, Tryd.func44, rfl, rfl, rfl, rfl⟩ (Nat.le_of_ble_eq_true rfl) fun Ps As => WC_seq (WC_region (Lq (q_assign rfl) (WL_nil (thenN (WC_seq (WC_region (Lq (q_assign rfl) (WL_nil (thenN (WC_seq (WC_seq (WC_region (Lq (q_assign rfl) (WL_nil (thenN (WC_block ?_))))))))))))))))
  refine WC_loopE (α := Nat) (fun k => i - k)
    (fun k => [(0, .pointer (some ⟨v, 0, none⟩)), (1, .int .i64 i), (5, .int .i64 (cellsN (ts.take k) : Nat)), (6, .int .i64 k)])
    (fun k => (vwP v h b A1 ts.length c1 A2 c2 A3 c3 nx :: Ps))
    (fun k => (RdF De.str A3 c3 ts :: As))
    (fun k => k ≤ i)
    0 ?_ (.cons rfl (.cons rfl (.cons rfl (.cons rfl (.nil _))))) (List.Sublist.cons_cons _ (List.Sublist.refl _)) (fun _ h => h) ?_
  · exact Nat.zero_le _
  · rintro k hI
    refine WC_seq (WC_seq (WC_region (Lq (q_move rfl) (Lq (q_move rfl) (Lq (q_lss rfl rfl) (WL_nil (thenN (WC_cond rfl (fun h9 => ?_) (fun h9 => ?_)))))))))
    · refine WC_skip (thenN (WC_seq (WC_block (WC_seq ?_))))
      try simp only [Bp, Bq] at *
      have hkt : k < ts.length := by omega
      have hsn := cellsN_snoc hkt
      have hb1 := hb (k + 1) (by omega)
      refine WC_elem (k := k) (.head _) (List.getElem?_eq_getElem hkt) (str_open _) fun b5 q5 y5 e5 => ?_
      cases e5
      refine WC_region (Lq (q_move rfl) (Lq (q_nil rfl) (Lq (q_field (o' := 4) Tryd.underlying61 rfl ti58 rfl rfl) (Lq (q_load1 Tryd.underlying58 rfl rfl own0 rfl) (Lq (q_move rfl) (Lq (q_idxRd Tryd.underlying58 ti9 rfl rfl (by omega) (by omega)) (Lq (q_loadF1 (j := 0) Tryd.underlying9 rfl rfl (.head _) rfl rfl) (WL_main rfl (OW_rangeS Tryd.underlying9 rfl (by decide) fun b19 => WL_nil (thenN (WC_block ?_)))))))))))
      refine WC_loopE (α := Nat × Nat) (fun (p, j) => ts[k].size - p)
        (fun (p, j) => [(0, .pointer (some ⟨v, 0, none⟩)), (1, .int .i64 i), (5, .int .i64 j), (6, .int .i64 k), (19, .pointer (some ⟨b19, 0, none⟩))])
        (fun (p, j) => ([(b19, .stringIter ts[k] p)] :: vwP v h b A1 ts.length c1 A2 c2 (some ⟨b5, q5, none⟩) c3 nx :: Ps))
        (fun (p, j) => (RdF De.str (some ⟨b5, q5, none⟩) c3 ts :: As))
        (fun (p, j) => ToI ts[k] (cellsN (ts.take k)) p j)
        (0, cellsN (ts.take k)) ?_ (.cons rfl (.cons rfl (.cons rfl (.cons rfl (.cons rfl (.nil _)))))) (List.Sublist.cons_cons _ (List.Sublist.cons_cons _ (List.Sublist.refl _))) (fun _ h => .tail _ h) ?_
      · exact ⟨Nat.zero_le _, rfl⟩
      · rintro ⟨p, j⟩ hJ
        have hle := hJ.le
        have hje := hJ.eq
        refine WC_seq ?_
        by_cases hp : p < ts[k].size
        · refine WC_region (WL_main rfl (OW_nextS1 rfl hp (.z) (by decide) (Lq (q_extract (vs := [_, _, _]) rfl rfl) (WL_nil (thenN (WC_seq (WC_true rfl rfl (WC_skip (thenN (WC_block (WC_region (Lq (q_move rfl) (Lq (q_add rfl rfl (wr64 (by omega)) (c := ((j + 1 : Nat) : Int))) (Lq (q_assign rfl) (WL_nil (blockN (thenK ?_)))))))))))))))))
          have hd := decode_pos ts[k] p
          have hd2 := decode_leP hp
          refine ⟨(p + (Utf8.decode ts[k] p).2, j + 1), ?_, (.cons rfl (.cons rfl (.cons rfl (.cons rfl (.cons rfl (.nil _)))))), (List.Sublist.cons_cons _ (List.Sublist.cons_cons _ (List.Sublist.refl _))), (fun _ h => h)⟩
          refine ⟨by show ts[k].size - (p + (Utf8.decode ts[k] p).2) < ts[k].size - p; omega, hd2, ?_⟩
          have := hJ.eq
          rw [runesAt_next hp, List.length_cons] at this
          show j + 1 + _ = _
          omega
        · refine WC_region (WL_main rfl (OW_nextS0 rfl own0 hp (by decide) (Lq (q_extract (vs := [_]) rfl rfl) (WL_nil (thenN (WC_seq (WC_false rfl rfl (WC_exit (thenExit (thenExit (blockHit (blockN (thenN (WC_region (Lq (q_move rfl) (Lq (q_add rfl rfl (wr64 (by omega)) (c := ((k + 1 : Nat) : Int))) (Lq (q_assign rfl) (WL_nil (thenK ?_)))))))))))))))))))
          have hjj : j = cellsN (ts.take (k + 1)) := by
            have := hJ.eq
            rw [runesAt_end hp, List.length_nil] at this
            rw [hsn]; omega
          refine ⟨k + 1, ?_, (.cons rfl (.cons rfl (.cons (congrArg (fun z : Nat => some (Value.int .i64 z)) hjj) (.cons rfl (.nil _))))), (List.Sublist.cons _ (List.Sublist.cons_cons _ (List.Sublist.refl _))), (fun _ h => h)⟩
          exact ⟨by show i - (k + 1) < i - k; omega, by omega⟩
    · refine WC_exit (thenExit (thenExit (blockHit (thenN (WC_seq (WC_region (Lq (q_move rfl) (Lq (q_assign rfl) (WL_nil (thenN (WC_ret ?_)))))))))))
      refine ⟨_, [_], [], fun Z w hs => .tmp rfl (.nil), ?_, fun Z w hs => hs.out (List.Sublist.cons_cons _ (List.Sublist.refl _)) (fun _ h => h)⟩
      simp only [decide_eq_false_iff_not] at h9
      obtain rfl : k = i := by omega
      exact ⟨rfl, rfl, rfl⟩


set_option maxRecDepth 10000 in
theorem vedits_s (v h b n : Nat) (A1 : Option Addr) (c1 : Nat) (A2 : Option Addr) (c2 : Nat) (A3 : Option Addr) (c3 : Nat) (nx : List Int) (ids : List (Int × Int)) (ks : List Int) (i : Nat) (hn : n = ids.length) (hk : ks.length = ids.length) (hi : i ≤ n) (hi2 : i ≤ 1048576) : Sp Tryd.prog 29 [.pointer (some ⟨v, 0, none⟩), .int .i64 i] [vwP v h b A1 n c1 A2 c2 A3 c3 nx] [RdF idD A1 c1 ids, RdF (De.int .i64) A2 c2 ks] (fun u Lo fs => ∃ A c, u = .slice A (editsL (ids.take i) (ks.take i)).length c ∧ Lo = [vwP v h b A1 n c1 A2 c2 A3 c3 nx] ∧ fs = [RdF idD A c (editsL (ids.take i) (ks.take i))]) := by
  subst hn
  refine Sp.of (n := 31) ⟨_, Tryd.func29, rfl, rfl, rfl, rfl⟩ (Nat.le_of_ble_eq_true rfl) fun Ps As => WC_seq (WC_region (Lq (q_assign rfl) (WL_nil (thenN (WC_seq (WC_region (Lq (q_assign rfl) (WL_nil (thenN (WC_seq (WC_seq (WC_region (Lq (q_assign rfl) (WL_nil (thenN (WC_block (WC_nilPart ?_)))))))))))))))))
  refine WC_loopE (α := Nat × Value × Part) (fun (k, w, p) => i - k)
    (fun (k, w, p) => [(0, .pointer (some ⟨v, 0, none⟩)), (1, .int .i64 i), (5, w), (6, .int .i64 k)])
    (fun (k, w, p) => (p :: vwP v h b A1 ids.length c1 A2 c2 A3 c3 nx :: Ps))
    (fun (k, w, p) => (RdF idD A1 c1 ids :: RdF (De.int .i64) A2 c2 ks :: As))
    (fun (k, w, p) => k ≤ i ∧ Row 25 2 w (editsL (ids.take k) (ks.take k)).length (flatC idC (editsL (ids.take k) (ks.take k))) p)
    (0, .slice none 0 0, []) ?_ (.cons rfl (.cons rfl (.cons rfl (.cons rfl (.nil _))))) (List.Sublist.cons_cons _ (List.Sublist.cons_cons _ (List.Sublist.refl _))) (fun _ h => h) ?_
  · exact ⟨Nat.zero_le _, Row.nil _ _⟩
  · rintro ⟨k, w, pa⟩ hI
    refine WC_seq (WC_seq (WC_region (Lq (q_move rfl) (Lq (q_move rfl) (Lq (q_lss rfl rfl) (WL_nil (thenN (WC_cond rfl (fun h9 => ?_) (fun h9 => ?_)))))))))
    · refine WC_skip (thenN (WC_seq (WC_block (WC_seq ?_))))
      try simp only [Bp, Bq] at *
      have hkt : k < ids.length := by omega
      have hkk : k < ks.length := by omega
      have hsn := editsL_snoc hkt hkk
      have hel := editsL_len (ids.take k) (ks.take k)
      rw [List.length_take] at hel
      refine WC_elem (k := k) (.tail _ (.head _)) (List.getElem?_eq_getElem hkk) (i64_open _) fun b5 q5 y5 e5 => ?_
      cases e5
      refine WC_region (Lq (q_move rfl) (Lq (q_nil rfl) (Lq (q_field (o' := 3) Tryd.underlying61 rfl ti57 rfl rfl) (Lq (q_load1 Tryd.underlying57 rfl rfl (ownS (own0)) rfl) (Lq (q_move rfl) (Lq (q_idxRd Tryd.underlying57 ti3 rfl rfl (by omega) (by omega)) (Lq (q_loadF1 (j := 0) Tryd.underlying3 rfl rfl (.head _) rfl rfl) (Lq (q_neq rfl rfl) (WL_nil (thenN ?_))))))))))
      refine WC_cond rfl (fun h19 => ?_) (fun h19 => ?_)
      · refine WC_elem (k := k) (.tail _ (.head _)) (List.getElem?_eq_getElem hkt) (id_open _) fun b6 q6 y6 e6 => ?_
        cases e6
        refine WC_region (Lq (q_move rfl) (Lq (q_move rfl) (Lq (q_nil rfl) (Lq (q_field (o' := 2) Tryd.underlying61 rfl ti56 rfl rfl) (Lq (q_load1 Tryd.underlying56 rfl rfl (ownS (own0)) rfl) (Lq (q_move rfl) (Lq (q_idxRd Tryd.underlying56 ti25 rfl rfl (by omega) (by omega)) (Lq (q_loadFN (k := 0) (vs := [_, _]) Tryd.underlying25 rfl ti25 rfl (.head _) rfl rfl rfl) (WL_main rfl (OW_slice1 (cs := [_, _]) Tryd.underlying56 ti25 (by decide) (by decide) rfl rfl rfl rfl (by decide) fun b28 => ?_))))))))))
        refine WL_main rfl (OW_append1 (news := [_, _]) Tryd.underlying56 ti25 rfl (by decide) rfl rfl hI.2 own0 rfl rfl (by omega) (by unfold maxLen; omega) (by decide) (DelAt.perm (.s (.z))) fun v29 p29 hr29 => Lq (q_assign rfl) (WL_nil (blockN (thenN (WC_region (Lq (q_move rfl) (Lq (q_add rfl rfl (wr64 (by omega)) (c := ((k + 1 : Nat) : Int))) (Lq (q_assign rfl) (WL_nil (thenK ?_))))))))))
        have hk2 : (!(ks[k] == 2)) = true := h19
        rw [hk2, if_pos rfl] at hsn
        refine ⟨(k + 1, v29, p29), ?_, (.cons rfl (.cons rfl (.cons rfl (.cons rfl (.nil _))))), (List.Sublist.cons_cons _ (List.Sublist.cons _ (List.Sublist.cons_cons _ (List.Sublist.refl _)))), (fun _ h => .tail _ (.tail _ h))⟩
        refine ⟨by show i - (k + 1) < i - k; omega, by omega, ?_⟩
        show Row 25 2 v29 (editsL (ids.take (k + 1)) (ks.take (k + 1))).length _ p29
        rw [hsn, List.length_append, flatC_append, flatC_one]; exact hr29
      · refine WC_skip (blockN (thenN (WC_region (Lq (q_move rfl) (Lq (q_add rfl rfl (wr64 (by omega)) (c := ((k + 1 : Nat) : Int))) (Lq (q_assign rfl) (WL_nil (thenK ?_))))))))
        have hk2 : (!(ks[k] == 2)) = false := h19
        rw [hk2] at hsn
        simp only [Bool.false_eq_true, if_false, List.append_nil] at hsn
        refine ⟨(k + 1, w, pa), ?_, (.cons rfl (.cons rfl (.cons rfl (.cons rfl (.nil _))))), (List.Sublist.cons_cons _ (List.Sublist.cons_cons _ (List.Sublist.refl _))), (fun _ h => .tail _ h)⟩
        refine ⟨by show i - (k + 1) < i - k; omega, by omega, ?_⟩
        show Row 25 2 w (editsL (ids.take (k + 1)) (ks.take (k + 1))).length _ pa
        rw [hsn]; exact hI.2
    · refine WC_exit (thenExit (thenExit (blockHit (thenN (WC_seq ?_)))))
      simp only [decide_eq_false_iff_not] at h9
      obtain rfl : k = i := by omega
      refine WC_fact (A := RepsF idD (editsL (ids.take k) (ks.take k)) ((editsL (ids.take k) (ks.take k)).map idC)) (fun Z w _ => reps_of (fun _ _ _ => rfl) _ Z w) (WC_freeze (e := idD) (xs := (editsL (ids.take k) (ks.take k))) (css := ((editsL (ids.take k) (ks.take k)).map idC)) hI.2 (.z) rfl (.head _) fun A9 c9 e9 => ?_)
      cases e9
      refine WC_region (Lq (q_move rfl) (Lq (q_assign rfl) (WL_nil (thenN (WC_ret ?_)))))
      refine ⟨_, [_], [_], fun Z w hs => .tmp rfl (.nil), ?_, fun Z w hs => hs.out (List.Sublist.cons_cons _ (List.Sublist.refl _)) (memc (.head _) (fun _ h => .tail _ (.tail _ h)))⟩
      exact ⟨_, _, rfl, rfl, rfl⟩

end Go.Proofs.YtggdddkbhigjoaaDoor
/- Walks: some. -/
namespace Go.Proofs.YtggdddkbhigjoaaDoor
open Go Go.GW
def RestP (a : Int) (m : Nat) : Value → List Part → List Fact → Prop := fun v Lo fs => ∃ r : Nat, (r : Int) = a % m ∧ r < m ∧ v = .int .i64 r ∧ Lo = [] ∧ fs = []
theorem rest_r (a : Int) (m : Nat) (hm : 0 < m ∧ m ≤ 1099511627776) : Sp Tryd.prog 19 [.int .i64 a, .int .i64 m] [] [] (RestP a m) := by
  refine (rest_g a m hm).mono ?_
  rintro v Lo fs ⟨rfl, rfl, rfl⟩
  have h1 := Int.emod_nonneg a (show (m : Int) ≠ 0 by omega)
  have h2 := Int.emod_lt_of_pos a (show (0 : Int) < m by omega)
  exact ⟨(a % m).toNat, by omega, by omega, by rw [Int.toNat_of_nonneg h1], rfl, rfl⟩
theorem bd37_0_1Xw36 (x0_ : Int) (x1_ : Int) (w : World) : (Instr.build 37 #[(0, .int .i64 x0_), (1, .int .i64 x1_)]).run Tryd.prog w = .ok (.agg #[.int .i64 x0_, .int .i64 x1_]) w := by kernel_rfl

set_option maxRecDepth 10000 in
theorem some_s (n : Nat) (a c : Int) (hn : 0 < n ∧ n ≤ 60000) : Sp Tryd.prog 45 [.int .i64 n, .int .i64 a, .int .i64 c] [] [] (fun v Lo fs => ∃ (A : Option Addr) (cc : Nat) (xs : List Rg), v = .slice A xs.length cc ∧ Lo = [] ∧ fs = [RdF rgD A cc xs] ∧ Pls n xs ∧ xs ≠ [] ∧ xs = someL n a c) := by
  refine Sp.of (n := 64) ⟨_, Tryd.func45, rfl, rfl, rfl, rfl⟩ (Nat.le_of_ble_eq_true rfl) fun Ps As => WC_seq (WC_region (Lq (q_assign rfl) (WL_nil (thenN (WC_seq (WC_region (Lq (q_assign rfl) (WL_nil (thenN (WC_seq (WC_seq (WC_region (Lq (q_assign rfl) (WL_nil (thenN (WC_block (WC_nilPart ?_)))))))))))))))))
  refine WC_loopE (α := Nat × List Rg × Value × Part) (fun (q, xs, v, p) => n - q)
    (fun (q, xs, v, p) => [(0, .int .i64 n), (1, .int .i64 a), (2, .int .i64 c), (7, v), (8, .int .i64 q)])
    (fun (q, xs, v, p) => (p :: Ps))
    (fun (q, xs, v, p) => As)
    (fun (q, xs, v, p) => SoI n q xs v p ∧ xs = smN a c q)
    (0, [], .slice none 0 0, []) ?_ (.cons rfl (.cons rfl (.cons rfl (.cons rfl (.cons rfl (.nil _)))))) (List.Sublist.cons_cons _ (List.Sublist.refl _)) (fun _ h => h) ?_
  · exact ⟨⟨Nat.zero_le _, ⟨trivial, fun r hr => by cases hr⟩, Row.nil _ _⟩, rfl⟩
  · rintro ⟨q, xs, v, pa⟩ ⟨hI, hsq⟩
    obtain ⟨Av, cv, rfl⟩ := hI.row.slice
    refine WC_seq (WC_seq (WC_region (Lq (q_move rfl) (Lq (q_move rfl) (Lq (q_lss rfl rfl) (WL_nil (thenN (WC_cond rfl (fun h12 => ?_) (fun h12 => ?_)))))))))
    · refine WC_skip (thenN (WC_seq (WC_block (WC_seq (WC_seq ?_)))))
      try simp only [Bp, Bq] at *
      have hql := hI.le
      have hxl := hI.len
      have hsn : smN a c (q + 1) = stepS a c q (smN a c q) := rfl
      rw [← hsq] at hsn
      refine WC_region (Lq (q_move rfl) (Lq (q_move rfl) (WL_main rfl (OW_call0 (rest_r a 7 (by omega)) (.cons rfl (.cons rfl (.nil))) (by decide) mem0 fun u5_2 Lo fs hres => ?_))))
      obtain ⟨r17, hr17, hm17, rfl, rfl, rfl⟩ := hres
      have hmq : q * r17 ≤ 60000 * 7 := Nat.mul_le_mul (by omega) (by omega)
      refine Lq (q_mul rfl rfl (mul_nat q r17 (by omega))) (Lq (q_move rfl) (WL_main rfl (OW_call0 (rest_r c 11 (by omega)) (.cons rfl (.cons rfl (.nil))) (by decide) mem0 fun u5_5 Lo fs hres => ?_)))
      obtain ⟨r20, hr20, hm20, rfl, rfl, rfl⟩ := hres
      refine Lq (q_add rfl rfl (wr64 (by omega)) (c := ((q * r17 + r20 : Nat) : Int))) (WL_main rfl (OW_call0 (rest_r ((q * r17 + r20 : Nat) : Int) 11 (by omega)) (.cons rfl (.cons rfl (.nil))) (by decide) mem0 fun u5_7 Lo fs hres => ?_))
      obtain ⟨r22, hr22, hm22, rfl, rfl, rfl⟩ := hres
      refine Lq (q_geq rfl rfl) (WL_nil (thenN (WC_cond rfl (fun h23 => ?_) (fun h23 => ?_))))
      · refine WC_exit (thenExit (blockHit (thenN (WC_region (Lq (q_move rfl) (Lq (q_add rfl rfl (wr64 (by omega)) (c := ((q + 1 : Nat) : Int))) (Lq (q_assign rfl) (WL_nil (thenK ?_)))))))))
        refine ⟨(q + 1, xs, _, pa), ?_, (.cons rfl (.cons rfl (.cons rfl (.cons rfl (.cons rfl (.nil _)))))), (List.Sublist.cons_cons _ (List.Sublist.refl _)), (fun _ h => h)⟩
        exact ⟨by show n - (q + 1) < n - q; omega, ⟨by omega, pls_mono hI.pls (by omega), hI.row⟩, by rw [hsn, stepS_skip hr17 hr20 hr22 (by simpa using h23)]⟩
      · refine WC_skip (thenN (WC_seq (WC_region (Lq (q_move rfl) (Lq (q_len Tryd.underlying29 rfl) (Lq (q_assign rfl) (WL_nil (thenN (WC_seq ?_)))))))))
        have hrow := hI.row
        have hpls := hI.pls
        rcases List.eq_nil_or_concat xs with rfl | ⟨ys, r, rfl⟩
        · refine WC_region (Lq (q_move rfl) (Lq (q_gtr rfl rfl) (Lq (q_move rfl) (Ln rfl rfl rfl rfl (Ln rfl rfl rfl rfl (Ln rfl rfl rfl rfl (Ln rfl rfl rfl rfl (Ln rfl rfl rfl rfl (Ln rfl rfl rfl rfl ?_)))))))))
          refine Ln rfl rfl rfl rfl (Ln rfl rfl rfl rfl (Lq (q_pickF rfl rfl rfl) (WL_nil (thenN (WC_false rfl rfl (WC_region (Lq (q_move rfl) (Lq (q_move rfl) (Lq (q_move rfl) (Lq (q_add rfl rfl (wr64 (by omega))) (Lq (q_build (.cons rfl (.cons rfl (.nil))) (bd37_0_1Xw36 _ _)) (WL_main rfl (OW_slice1 (cs := [_, _]) Tryd.underlying29 ti37 (by decide) (by decide) rfl rfl rfl rfl (by decide) fun b50 => ?_)))))))))))))
          refine WL_main rfl (OW_append1 (news := [_, _]) Tryd.underlying29 ti37 rfl (by decide) rfl rfl hrow own0 rfl rfl (by omega) (by unfold maxLen; omega) (by decide) (DelAt.perm (.s (.z))) fun v51 p51 hr51 => Lq (q_assign rfl) (WL_nil (blockN (thenN (WC_region (Lq (q_move rfl) (Lq (q_add rfl rfl (wr64 (by omega)) (c := ((q + 1 : Nat) : Int))) (Lq (q_assign rfl) (WL_nil (thenK ?_))))))))))
          refine ⟨(q + 1, [] ++ [⟨q, q + 1⟩], v51, p51), ?_, (.cons rfl (.cons rfl (.cons rfl (.cons rfl (.cons rfl (.nil _)))))), (List.Sublist.cons_cons _ (List.Sublist.cons _ (List.Sublist.refl _))), (fun _ h => h)⟩
          refine ⟨by show n - (q + 1) < n - q; omega, ⟨by omega, pls_more hpls (fun r hr => by cases hr), ?_⟩, by rw [hsn, stepS_nil hr17 hr20 hr22 (by simpa using h23)]⟩
          rw [rgs_append, rgs_one, List.length_append]; exact hr51
        · rw [List.concat_eq_append] at *
          have hn : (ys ++ [r]).length = ys.length + 1 := by simp
          obtain ⟨hlen, ⟨_, h0, _⟩ | ⟨bo, cap, jk, hv, hp, h1, h2, h3⟩⟩ := hI.row
          · omega
          obtain ⟨rfl, _, rfl⟩ := Value.slice.inj hv
          subst hp
          have hcs : (rgs (ys ++ [r]) ++ jk).length = ((ys ++ [r]).length) * 2 + jk.length := by rw [List.length_append, hlen]
          have hix : ((((ys ++ [r]).length : Nat) : Int) - 1).toNat = ys.length := by omega
          refine WC_region (Lq (q_move rfl) (Lq (q_gtr rfl rfl) (Lq (q_move rfl) (Lg rfl rfl rfl (by simp) (q_move rfl) (Lg rfl rfl rfl (by simp) (q_move rfl) (Lg rfl rfl rfl (by simp) (q_sub rfl rfl (wr64 (by omega))) (Lg rfl rfl rfl (by simp) (q_idxOwn Tryd.underlying29 ti37 rfl rfl (by omega) (by omega)) (Lg rfl rfl rfl (by simp) (q_field (o' := _ + 1) Tryd.underlying37 rfl ti3 rfl rfl) (Lg rfl rfl rfl (by simp) (q_load1 Tryd.underlying3 rfl rfl own0 (by rw [hix]; exact rgs_last ys r jk)) ?_)))))))))
          refine Lg rfl rfl rfl (by simp) (q_move rfl) (Lg rfl rfl rfl (by simp) (q_eql rfl rfl) (Lq (q_pickT rfl (by simp) rfl) (WL_nil (thenN (WC_cond rfl (fun h37 => ?_) (fun h37 => ?_))))))
          · refine WC_region (Lq (q_move rfl) (Lq (q_move rfl) (Lq (q_sub rfl rfl (wr64 (by omega))) (Lq (q_move rfl) (Lq (q_add rfl rfl (wr64 (by omega))) (Lq (q_idxOwn Tryd.underlying29 ti37 rfl rfl (by omega) (by omega)) (Lq (q_field (o' := _ + 1) Tryd.underlying37 rfl ti3 rfl rfl) (WL_main rfl (OW_storeC ti3 rfl rfl rfl (by rw [hcs, hix]; omega) (.z) (WL_nil (blockN (thenN (WC_region ?_)))))))))))))
            refine Lq (q_move rfl) (Lq (q_add rfl rfl (wr64 (by omega)) (c := ((q + 1 : Nat) : Int))) (Lq (q_assign rfl) (WL_nil (thenK ?_))))
            refine ⟨(q + 1, ys ++ [⟨r.lo, q + 1⟩], _, _), ?_, (.cons rfl (.cons rfl (.cons rfl (.cons rfl (.cons rfl (.nil _)))))), (List.Sublist.cons_cons _ (List.Sublist.refl _)), (fun _ h => h)⟩
            refine ⟨by show n - (q + 1) < n - q; omega, ⟨by omega, pls_join hpls (by simpa using h37), ?_⟩, by rw [hsn, stepS_join hr17 hr20 hr22 (by simpa using h23) (by simpa using h37)]⟩
            rw [hix, rgs_set, show (ys ++ [r]).length = (ys ++ [(⟨r.lo, (q : Int) + 1⟩ : Rg)]).length from by simp]
            refine ⟨rgs_length _, .inr ⟨bo, _, jk, rfl, rfl, ?_, by simpa using h2, h3⟩⟩
            rw [List.length_append, rgs_length] at h1 ⊢
            simpa using h1
          · refine WC_region (Lq (q_move rfl) (Lq (q_move rfl) (Lq (q_move rfl) (Lq (q_add rfl rfl (wr64 (by omega))) (Lq (q_build (.cons rfl (.cons rfl (.nil))) (bd37_0_1Xw36 _ _)) (WL_main rfl (OW_slice1 (cs := [_, _]) Tryd.underlying29 ti37 (by decide) (by decide) rfl rfl rfl rfl (by decide) fun b50 => WL_main rfl (OW_append1 (news := [_, _]) Tryd.underlying29 ti37 rfl (by decide) rfl rfl hrow own0 rfl rfl (by omega) (by unfold maxLen; omega) (by decide) (DelAt.perm (.s (.z))) fun v51 p51 hr51 => Lq (q_assign rfl) (WL_nil (blockN (thenN (WC_region ?_))))))))))))
            refine Lq (q_move rfl) (Lq (q_add rfl rfl (wr64 (by omega)) (c := ((q + 1 : Nat) : Int))) (Lq (q_assign rfl) (WL_nil (thenK ?_))))
            refine ⟨(q + 1, (ys ++ [r]) ++ [⟨q, q + 1⟩], v51, p51), ?_, (.cons rfl (.cons rfl (.cons rfl (.cons rfl (.cons rfl (.nil _)))))), (List.Sublist.cons_cons _ (List.Sublist.cons _ (List.Sublist.refl _))), (fun _ h => h)⟩
            refine ⟨by show n - (q + 1) < n - q; omega, ⟨by omega, pls_more hpls (fun r2 hr2 => by rw [List.getLast?_concat] at hr2; obtain rfl := Option.some.inj hr2; simpa using h37), ?_⟩, by rw [hsn, stepS_more hr17 hr20 hr22 (by simpa using h23) (by simpa using h37)]⟩
            rw [rgs_append, rgs_one, List.length_append]; exact hr51
    · refine WC_exit (thenExit (thenExit (blockHit (thenN (WC_seq (WC_seq ?_))))))
      simp only [decide_eq_false_iff_not] at h12
      obtain rfl : q = n := by have := hI.le; omega
      have hxl := hI.len
      refine WC_region (Lq (q_move rfl) (Lq (q_len Tryd.underlying29 rfl) (Lq (q_eql rfl rfl) (WL_nil (thenN (WC_cond rfl (fun h54 => ?_) (fun h54 => ?_)))))))
      · refine WC_region (Lq (q_move rfl) (Lq (q_move rfl) (Lq (q_move rfl) (WL_main rfl (OW_call0 (rest_r c q (by omega)) (.cons rfl (.cons rfl (.nil))) (by decide) mem0 fun u11_3 Lo fs hres => ?_)))))
        obtain ⟨r58, hr58, hm58, rfl, rfl, rfl⟩ := hres
        refine Lq (q_move rfl) (Lq (q_build (.cons rfl (.cons rfl (.nil))) (bd37_0_1Xw36 _ _)) (WL_main rfl (OW_slice1 (cs := [_, _]) Tryd.underlying29 ti37 (by decide) (by decide) rfl rfl rfl rfl (by decide) fun b61 => WL_main rfl (OW_append1 (news := [_, _]) Tryd.underlying29 ti37 rfl (by decide) rfl rfl hI.row own0 rfl rfl (by omega) (by unfold maxLen; omega) (by decide) (DelAt.perm (.s (.z))) fun v62 p62 hr62 => Lq (q_assign rfl) (WL_nil (thenN (WC_seq ?_)))))))
        have hz : xs = [] := by simpa using h54
        subst hz
        have hfx : Pls q [⟨(r58 : Int), (q : Int)⟩] := ⟨⟨by show (0 : Int) ≤ r58; omega, by show (r58 : Int) < q; omega, trivial⟩, fun x hx => by rw [List.mem_singleton] at hx; subst hx; exact Int.le_refl _⟩
        have hne : [(⟨(r58 : Int), (q : Int)⟩ : Rg)] ≠ [] := by simp
        have hfn : [(⟨(r58 : Int), (q : Int)⟩ : Rg)] = someL q a c := by unfold someL; rw [← hsq, if_pos rfl, ← hr58, Int.toNat_natCast]
        refine WC_fact (A := RepsF rgD [⟨(r58 : Int), (q : Int)⟩] (([⟨(r58 : Int), (q : Int)⟩] : List Rg).map rgC)) (fun Z w _ => rgs_reps _ Z w) (WC_freeze (e := rgD) (xs := [⟨(r58 : Int), (q : Int)⟩]) (css := (([⟨(r58 : Int), (q : Int)⟩] : List Rg).map rgC)) hr62 (.z) rfl (.head _) fun A9 c9 e9 => ?_)
        cases e9
        refine WC_region (Lq (q_move rfl) (Lq (q_assign rfl) (WL_nil (thenN (WC_ret ?_)))))
        refine ⟨_, [], [_], fun Z w hs => .tmp rfl (.nil), ?_, fun Z w hs => hs.out (List.Sublist.cons _ (List.Sublist.refl _)) (memc (.head _) (fun _ h => .tail _ (.tail _ h)))⟩
        exact ⟨_, _, _, rfl, rfl, rfl, hfx, hne, hfn⟩
      · refine WC_skip (thenN (WC_seq ?_))
        have hfx := hI.pls
        have hne : xs ≠ [] := fun e => by rw [e] at h54; simp at h54
        have hfn : xs = someL q a c := by unfold someL; rw [← hsq, if_neg hne]
        refine WC_fact (A := RepsF rgD xs ((xs : List Rg).map rgC)) (fun Z w _ => rgs_reps _ Z w) (WC_freeze (e := rgD) (xs := xs) (css := ((xs : List Rg).map rgC)) hI.row (.z) rfl (.head _) fun A9 c9 e9 => ?_)
        cases e9
        refine WC_region (Lq (q_move rfl) (Lq (q_assign rfl) (WL_nil (thenN (WC_ret ?_)))))
        refine ⟨_, [], [_], fun Z w hs => .tmp rfl (.nil), ?_, fun Z w hs => hs.out (List.Sublist.refl _) (memc (.head _) (fun _ h => .tail _ (.tail _ h)))⟩
        exact ⟨_, _, _, rfl, rfl, rfl, hfx, hne, hfn⟩

end Go.Proofs.YtggdddkbhigjoaaDoor
