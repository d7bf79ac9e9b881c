/- Walks: span.Through. -/
import Derived.Test.YtggdddkbhigjoaaDoorWd
set_option linter.unusedVariables false
set_option linter.unusedSimpArgs false
namespace Go.Proofs.YtggdddkbhigjoaaDoor
open Go Go.GW
def ThrP (xs : List Rg) (at_ n : Int) : Value → List Part → List Fact → Prop := fun v Lo fs =>
  ∃ (A' : Option Addr) (c' : Nat), v = .tuple #[.slice A' (thrF xs at_ n).1.length c', .int .i64 (thrF xs at_ n).2] ∧ Lo = [] ∧ fs = [RdF rgD A' c' (thrF xs at_ n).1]

set_option maxRecDepth 10000 in
theorem through_s (A : Option Addr) (c : Nat) (xs : List Rg) (at_ n : Int) (hl : xs.length ≤ 4398046511104) : Sp Tryd.prog 67 [.slice A xs.length c, .int .i64 at_, .int .i64 n] [] [RdF rgD A c xs] (ThrP xs at_ n) := by
  refine Sp.of (n := 78) ⟨_, Tryd.func67, rfl, rfl, rfl, rfl⟩ (Nat.le_of_ble_eq_true rfl) fun Ps As => ?_
  refine WC_seq ?_
  refine WC_region ?_
  refine WL_q (q_assign rfl) (by decide) ?_
  refine WL_q (q_assign rfl) (by decide) ?_
  refine WL_nil ?_
  refine thenN ?_
  refine WC_seq ?_
  refine WC_seq ?_
  refine WC_region ?_
  refine WL_q (q_move rfl) (by decide) ?_
  refine WL_main rfl (OW_call0 (check_s A c xs hl) (.cons rfl (.nil)) (by decide) (memc (.head _) mem0) fun u1_1 Lo fs hres => ?_)
  obtain ⟨rfl, rfl, rfl⟩ := hres
  refine WL_q (q_move rfl) (by decide) ?_
  refine WL_q (q_extract (vs := [_, _]) rfl rfl) (by decide) ?_
  refine WL_q (q_extract (vs := [_, _]) rfl rfl) (by decide) ?_
  refine WL_q (q_assign rfl) (by decide) ?_
  refine WL_q (q_assign rfl) (by decide) ?_
  refine WL_nil ?_
  refine thenN ?_
  refine WC_seq ?_
  refine WC_region ?_
  refine WL_q (q_move rfl) (by decide) ?_
  refine WL_q (q_neq rfl rfl) (by decide) ?_
  refine WL_nil ?_
  refine thenN ?_
  refine WC_fr [(20, _), (9, _), (7, _), (6, _), (0, _), (1, _), (2, _)] (.cons rfl (.cons rfl (.cons rfl (.cons rfl (.cons rfl (.cons rfl (.cons rfl (.nil _)))))))) ?_
  refine WC_cond rfl (fun h20 => ?_) (fun h20 => ?_)
  · refine WC_seq ?_
    refine WC_region ?_
    refine WL_q (q_move rfl) (by decide) ?_
    refine WL_q (q_assign rfl) (by decide) ?_
    refine WL_q (q_assign rfl) (by decide) ?_
    refine WL_nil ?_
    refine thenN ?_
    refine WC_ret ?_
    refine thenRet ?_
    refine ⟨_, [], [RdF rgD none 0 []], fun Z w hs => .tmp rfl (.tmp rfl (.nil)), ?_, fun Z w hs => ⟨Z, ((hs.subParts (List.Sublist.refl _)).subFacts (fun _ h => h)).addFact (A := RdF rgD none 0 []) (RdS.nil _ _ _)⟩⟩
    try simp only [decide_eq_true_eq, decide_eq_false_iff_not, beq_iff_eq, bne_iff_ne, beq_eq_false_iff_ne, ne_eq, Bool.and_eq_true, Bool.not_eq_true', Bool.not_eq_false', Bool.not_eq_true, Bool.not_eq_false, bne_eq_false_iff_eq, Bool.and_eq_false_iff] at *
    have hF : thrF xs at_ n = _ := thrF_ck (by omega)
    exact ⟨none, 0, by rw [hF]; rfl, rfl, by rw [hF]⟩
  · refine WC_skip ?_
    refine thenN ?_
    refine WC_seq ?_
    refine WC_seq ?_
    refine WC_region ?_
    refine WL_q (q_move rfl) (by decide) ?_
    refine WL_main rfl (OW_call0 (outside_s at_) (.cons rfl (.nil)) (by decide) mem0 fun u4_1 Lo fs hres => ?_)
    obtain ⟨rfl, rfl, rfl⟩ := hres
    refine WL_q (q_move rfl) (by decide) ?_
    refine WL_guard (t := 24) rfl (fun g24 => ?_) (fun g24 => ?_)
    · refine WL_gno rfl rfl rfl g24 (by decide) ?_
      refine WL_gno rfl rfl rfl g24 (by decide) ?_
      refine WL_q (q_pickT rfl g24 rfl) (by decide) ?_
      refine WL_nil ?_
      refine thenN ?_
      refine WC_true rfl rfl ?_
      refine WC_seq ?_
      refine WC_region ?_
      refine WL_q (q_assign rfl) (by decide) ?_
      refine WL_q (q_assign rfl) (by decide) ?_
      refine WL_nil ?_
      refine thenN ?_
      refine WC_ret ?_
      refine thenRet ?_
      refine ⟨_, [], [RdF rgD none 0 []], fun Z w hs => .tmp rfl (.tmp rfl (.nil)), ?_, fun Z w hs => ⟨Z, ((hs.subParts (List.Sublist.refl _)).subFacts (fun _ h => h)).addFact (A := RdF rgD none 0 []) (RdS.nil _ _ _)⟩⟩
      try simp only [decide_eq_true_eq, decide_eq_false_iff_not, beq_iff_eq, bne_iff_ne, beq_eq_false_iff_ne, ne_eq, Bool.and_eq_true, Bool.not_eq_true', Bool.not_eq_false', Bool.not_eq_true, Bool.not_eq_false, bne_eq_false_iff_eq, Bool.and_eq_false_iff] at *
      have hF : thrF xs at_ n = _ := thrF_out (by omega) (by omega)
      exact ⟨none, 0, by rw [hF]; rfl, rfl, by rw [hF]⟩
    · refine WL_gq rfl rfl rfl g24 (q_move rfl) (by decide) ?_
      refine WL_gmain rfl rfl rfl g24 (OW_call0 (outside_s n) (.cons rfl (.nil)) (by decide) mem0 fun u4_4 Lo fs hres => ?_)
      obtain ⟨rfl, rfl, rfl⟩ := hres
      refine WL_q (q_pickF rfl g24 rfl) (by decide) ?_
      refine WL_nil ?_
      refine thenN ?_
      refine WC_cond rfl (fun h27 => ?_) (fun h27 => ?_)
      · refine WC_seq ?_
        refine WC_region ?_
        refine WL_q (q_assign rfl) (by decide) ?_
        refine WL_q (q_assign rfl) (by decide) ?_
        refine WL_nil ?_
        refine thenN ?_
        refine WC_ret ?_
        refine thenRet ?_
        refine ⟨_, [], [RdF rgD none 0 []], fun Z w hs => .tmp rfl (.tmp rfl (.nil)), ?_, fun Z w hs => ⟨Z, ((hs.subParts (List.Sublist.refl _)).subFacts (fun _ h => h)).addFact (A := RdF rgD none 0 []) (RdS.nil _ _ _)⟩⟩
        try simp only [decide_eq_true_eq, decide_eq_false_iff_not, beq_iff_eq, bne_iff_ne, beq_eq_false_iff_ne, ne_eq, Bool.and_eq_true, Bool.not_eq_true', Bool.not_eq_false', Bool.not_eq_true, Bool.not_eq_false, bne_eq_false_iff_eq, Bool.and_eq_false_iff] at *
        have hF : thrF xs at_ n = _ := thrF_out (by omega) (by omega)
        exact ⟨none, 0, by rw [hF]; rfl, rfl, by rw [hF]⟩
      · refine WC_skip ?_
        refine thenN ?_
        refine WC_seq ?_
        refine WC_seq ?_
        refine WC_region ?_
        refine WL_q (q_move rfl) (by decide) ?_
        refine WL_q (q_len Tryd.underlying29 rfl) (by decide) ?_
        refine WL_q (q_gtr rfl rfl) (by decide) ?_
        refine WL_nil ?_
        refine thenN ?_
        refine WC_fr [(30, _), (7, _), (6, _), (0, _), (1, _), (2, _)] (.cons rfl (.cons rfl (.cons rfl (.cons rfl (.cons rfl (.cons rfl (.nil _))))))) ?_
        refine WC_cond rfl (fun h30 => ?_) (fun h30 => ?_)
        · refine WC_seq ?_
          try simp only [decide_eq_true_eq, decide_eq_false_iff_not, beq_iff_eq, bne_iff_ne, beq_eq_false_iff_ne, ne_eq, Bool.and_eq_true, Bool.not_eq_true', Bool.not_eq_false', Bool.not_eq_true, Bool.not_eq_false, bne_eq_false_iff_eq, Bool.and_eq_false_iff] at *
          have hk0 : xs.length - 1 < xs.length := by omega
          have hg := ckF_at (by omega) hk0
          refine WC_elem (k := (xs.length - 1)) (.head _) (List.getElem?_eq_getElem hk0) (rg_open _) fun b7 q7 y7 e7 => ?_
          cases e7
          refine WC_region ?_
          refine WL_q (q_move rfl) (by decide) ?_
          refine WL_q (q_move rfl) (by decide) ?_
          refine WL_q (q_len Tryd.underlying29 rfl) (by decide) ?_
          refine WL_q (q_sub rfl rfl (by rw [wr64 (by omega)]; omega) (c := ((xs.length - 1 : Nat) : Int))) (by decide) ?_
          refine WL_q (q_idxRd Tryd.underlying29 ti37 rfl rfl (by omega) (by omega)) (by decide) ?_
          refine WL_q (q_field (o' := _ + 1) Tryd.underlying37 rfl ti3 rfl rfl) (by decide) ?_
          refine WL_q (q_loadF1 (j := 1) Tryd.underlying3 rfl rfl (.head _) rfl rfl) (by decide) ?_
          refine WL_q (q_assign rfl) (by decide) ?_
          refine WL_nil ?_
          refine thenN ?_
          refine WC_fr [(10, _), (7, _), (6, _), (0, _), (1, _), (2, _)] (.cons rfl (.cons rfl (.cons rfl (.cons rfl (.cons rfl (.cons rfl (.nil _))))))) ?_
          refine WC_seq ?_
          refine WC_region ?_
          refine WL_q (q_move rfl) (by decide) ?_
          refine WL_q (q_move rfl) (by decide) ?_
          refine WL_q (q_gtr rfl rfl) (by decide) ?_
          refine WL_q (q_move rfl) (by decide) ?_
          refine WL_guard (t := 41) rfl (fun g41 => ?_) (fun g41 => ?_)
          · refine WL_gq rfl rfl rfl g41 (q_move rfl) (by decide) ?_
            refine WL_gq rfl rfl rfl g41 (q_move rfl) (by decide) ?_
            refine WL_gq rfl rfl rfl g41 (q_add rfl rfl (wr64 (by omega))) (by decide) ?_
            refine WL_gq rfl rfl rfl g41 (q_gtr rfl rfl) (by decide) ?_
            refine WL_q (q_pickT rfl g41 rfl) (by decide) ?_
            refine WL_nil ?_
            refine thenN ?_
            refine WC_fr [(46, _), (7, _), (6, _), (0, _), (1, _), (2, _)] (.cons rfl (.cons rfl (.cons rfl (.cons rfl (.cons rfl (.cons rfl (.nil _))))))) ?_
            refine WC_cond rfl (fun h46 => ?_) (fun h46 => ?_)
            · refine WC_seq ?_
              refine WC_region ?_
              refine WL_q (q_assign rfl) (by decide) ?_
              refine WL_q (q_assign rfl) (by decide) ?_
              refine WL_nil ?_
              refine thenN ?_
              refine WC_ret ?_
              refine thenRet ?_
              refine ⟨_, [], [RdF rgD none 0 []], fun Z w hs => .tmp rfl (.tmp rfl (.nil)), ?_, fun Z w hs => ⟨Z, ((hs.subParts (List.Sublist.refl _)).subFacts (fun _ h => .tail _ h)).addFact (A := RdF rgD none 0 []) (RdS.nil _ _ _)⟩⟩
              try simp only [decide_eq_true_eq, decide_eq_false_iff_not, beq_iff_eq, bne_iff_ne, beq_eq_false_iff_ne, ne_eq, Bool.and_eq_true, Bool.not_eq_true', Bool.not_eq_false', Bool.not_eq_true, Bool.not_eq_false, bne_eq_false_iff_eq, Bool.and_eq_false_iff] at *
              have hF : thrF xs at_ n = _ := thrF_grow (by omega) (by omega) (by omega) ⟨by omega, by omega⟩
              exact ⟨none, 0, by rw [hF]; rfl, rfl, by rw [hF]⟩
            · refine WC_skip ?_
              refine thenN ?_
              refine WC_seq ?_
              refine WC_region ?_
              refine WL_q (q_assign rfl) (by decide) ?_
              refine WL_nil ?_
              refine thenN ?_
              refine WC_seq ?_
              refine WC_seq ?_
              refine WC_region ?_
              refine WL_q (q_move rfl) (by decide) ?_
              refine WL_q (q_len Tryd.underlying29 rfl) (by decide) ?_
              refine WL_q (q_move rfl) (by decide) ?_
              refine WL_nil ?_
              refine thenN ?_
              refine WC_block ?_
              try simp only [decide_eq_true_eq, decide_eq_false_iff_not, beq_iff_eq, bne_iff_ne, beq_eq_false_iff_ne, ne_eq, Bool.and_eq_true, Bool.not_eq_true', Bool.not_eq_false', Bool.not_eq_true, Bool.not_eq_false, bne_eq_false_iff_eq, Bool.and_eq_false_iff] at *
              have hC : (ckF xs).2 = 0 := by omega
              have hl2 := (ckF_good hC).1
              have hOK : thrF xs at_ n = boundF (thrL at_ n [] xs) := by
                first
                | exact thrF_ok (by omega) (by omega) hk0 (by omega)
                | (obtain rfl : xs = [] := List.length_eq_zero_iff.1 (by omega); exact thrF_nil (by omega))
              refine WC_nilPart ?_
              refine WC_loopE (α := Nat × List Rg × Value × Part) (fun (k, acc, v, p) => xs.length - k)
                (fun (k, acc, v, p) => [(1, .int .i64 at_), (2, .int .i64 n), (11, v), (47, .slice (some ⟨b7, q7, none⟩) xs.length c), (48, .int .i64 xs.length), (49, .int .i64 k)])
                (fun (k, acc, v, p) => p :: Ps)
                (fun (k, acc, v, p) => (RdF rgD (some ⟨b7, q7, none⟩) c xs :: As))
                (fun (k, acc, v, p) => ThI xs at_ n k acc v p)
                (0, [], .slice none 0 0, []) ?_ (.cons rfl (.cons rfl (.cons rfl (.cons rfl (.cons rfl (.cons rfl (.nil _))))))) (List.Sublist.cons_cons _ (List.Sublist.refl _)) (fun _ h => .tail _ h) ?_
              · exact ⟨Nat.zero_le _, Row.nil _ _, by simp, rfl⟩
              · rintro ⟨k, acc, v, p⟩ hI
                refine WC_seq ?_
                refine WC_region ?_
                refine WL_q (q_lss rfl rfl) (by decide) ?_
                refine WL_nil ?_
                refine thenN ?_
                refine WC_seq ?_
                refine WC_cond rfl (fun h50 => ?_) (fun h50 => ?_)
                · refine WC_skip ?_
                  refine thenN ?_
                  refine WC_seq ?_
                  refine WC_block ?_
                  refine WC_seq ?_
                  have hk : k < xs.length := by simpa using h50
                  have hg2 := ckF_at hC hk
                  refine WC_elem (k := k) (.head _) (List.getElem?_eq_getElem hk) (rg_open _) fun b13 q13 y13 e13 => ?_
                  cases e13
                  refine WC_region ?_
                  refine WL_q (q_idxRd Tryd.underlying29 ti37 rfl rfl (by omega) (by omega)) (by decide) ?_
                  refine WL_q (q_loadFN (k := 0) (vs := [_, _]) Tryd.underlying37 rfl ti37 rfl (.head _) rfl rfl rfl) (by decide) ?_
                  refine WL_main rfl (OW_alloc (cs := [_, _]) ti37 rfl (by decide) fun b13 => ?_)
                  refine WL_main rfl (OW_storeN (cs' := [_, _]) (vs := [_, _]) ti37 rfl rfl rfl rfl rfl (Nat.le_of_ble_eq_true rfl) (.z) ?_)
                  refine WL_nil ?_
                  refine thenN ?_
                  refine WC_seq ?_
                  refine WC_region ?_
                  refine WL_q (q_move rfl) (by decide) ?_
                  refine WL_q (q_field (o' := 0) Tryd.underlying37 rfl ti3 rfl rfl) (by decide) ?_
                  refine WL_q (q_load1 Tryd.underlying3 rfl rfl own0 rfl) (by decide) ?_
                  refine WL_q (q_field (o' := 1) Tryd.underlying37 rfl ti3 rfl rfl) (by decide) ?_
                  refine WL_q (q_load1 Tryd.underlying3 rfl rfl own0 rfl) (by decide) ?_
                  refine WL_q (q_move rfl) (by decide) ?_
                  refine WL_q (q_min rfl rfl) (by decide) ?_
                  refine WL_main rfl (OW_call1 (add_s v acc p xs[k].lo (min xs[k].hi at_) hI.row (by have := hI.len; have := hI.le; omega)) (.cons rfl (.cons rfl (.cons rfl (.nil)))) (by decide) (.s (.z)) mem0 fun va Lo fs hres => ?_)
                  obtain ⟨pa, hra, rfl, rfl⟩ := hres
                  refine WL_q (q_assign rfl) (by decide) ?_
                  refine WL_nil ?_
                  refine thenN ?_
                  refine WC_region ?_
                  refine WL_q (q_move rfl) (by decide) ?_
                  refine WL_q (q_field (o' := 0) Tryd.underlying37 rfl ti3 rfl rfl) (by decide) ?_
                  refine WL_q (q_load1 Tryd.underlying3 rfl rfl (ownS (own0)) rfl) (by decide) ?_
                  refine WL_q (q_move rfl) (by decide) ?_
                  refine WL_q (q_max rfl rfl) (by decide) ?_
                  refine WL_q (q_move rfl) (by decide) ?_
                  refine WL_q (q_add rfl rfl (wr64 (by omega))) (by decide) ?_
                  refine WL_q (q_field (o' := 1) Tryd.underlying37 rfl ti3 rfl rfl) (by decide) ?_
                  refine WL_q (q_load1 Tryd.underlying3 rfl rfl (ownS (own0)) rfl) (by decide) ?_
                  refine WL_q (q_move rfl) (by decide) ?_
                  refine WL_q (q_add rfl rfl (wr64 (by omega))) (by decide) ?_
                  refine WL_main rfl (OW_call1 (add_s va (addF acc xs[k].lo (min xs[k].hi at_)) pa (max xs[k].lo at_ + n) (xs[k].hi + n) hra (by have := hI.len; have := hI.le; have := addF_len acc xs[k].lo (min xs[k].hi at_); omega)) (.cons rfl (.cons rfl (.cons rfl (.nil)))) (by decide) (.z) mem0 fun vb Lo fs hres => ?_)
                  obtain ⟨pb, hrb, rfl, rfl⟩ := hres
                  refine WL_q (q_assign rfl) (by decide) ?_
                  refine WL_nil ?_
                  refine blockN ?_
                  refine thenN ?_
                  refine WC_region ?_
                  refine WL_q (q_add rfl rfl (wr64 (by omega))) (by decide) ?_
                  refine WL_q (q_move rfl) (by decide) ?_
                  refine WL_nil ?_
                  refine thenK ?_
                  refine ⟨(k + 1, addF (addF acc xs[k].lo (min xs[k].hi at_)) (max xs[k].lo at_ + n) (xs[k].hi + n), vb, pb), ?_, (.cons rfl (.cons rfl (.cons rfl (.cons rfl (.cons rfl (.cons rfl (.nil _))))))), (List.Sublist.cons_cons _ (List.Sublist.cons _ (List.Sublist.refl _))), (fun _ h => .tail _ h)⟩
                  exact ⟨by show xs.length - (k + 1) < xs.length - k; omega, hI.next hk hrb⟩
                · refine WC_exit ?_
                  refine thenExit ?_
                  refine thenExit ?_
                  refine blockHit ?_
                  refine thenN ?_
                  refine WC_seq ?_
                  have hD := hI.done (by simpa using h50)
                  refine WC_fact (A := RepsF rgD acc (acc.map rgC)) (fun Z w _ => rgs_reps acc Z w) ?_
                  refine WC_freeze (e := rgD) (css := acc.map rgC) hI.row .z rfl (.head _) fun Af cf ef => ?_
                  subst ef
                  by_cases hb : acc.length > 32768
                  · refine WC_region ?_
                    refine WL_q (q_move rfl) (by decide) ?_
                    refine WL_main rfl (OW_call0 (bounded_1 Af cf acc hb) (.cons rfl (.nil)) (by decide) mem0 fun u17_1 Lo fs hres => ?_)
                    obtain ⟨rfl, rfl, rfl⟩ := hres
                    refine WL_q (q_extract (vs := [_, _]) rfl rfl) (by decide) ?_
                    refine WL_q (q_extract (vs := [_, _]) rfl rfl) (by decide) ?_
                    refine WL_q (q_assign rfl) (by decide) ?_
                    refine WL_q (q_assign rfl) (by decide) ?_
                    refine WL_nil ?_
                    refine thenN ?_
                    refine WC_ret ?_
                    refine ⟨_, [], [RdF rgD none 0 []], fun Z w hs => .tmp rfl (.tmp rfl (.nil)), ?_, fun Z w hs => ⟨Z, ((hs.subParts (List.Sublist.refl _)).subFacts (fun _ h => .tail _ (.tail _ h))).addFact (A := RdF rgD none 0 []) (RdS.nil _ _ _)⟩⟩
                    have hF : thrF xs at_ n = ([], 21) := by rw [hOK, hD]; unfold boundF; rw [if_pos hb]
                    exact ⟨none, 0, by rw [hF]; rfl, rfl, by rw [hF]⟩
                  · refine WC_region ?_
                    refine WL_q (q_move rfl) (by decide) ?_
                    refine WL_main rfl (OW_call0 (bounded_2 Af cf acc hb) (.cons rfl (.nil)) (by decide) mem0 fun u17_1 Lo fs hres => ?_)
                    obtain ⟨rfl, rfl, rfl⟩ := hres
                    refine WL_q (q_extract (vs := [_, _]) rfl rfl) (by decide) ?_
                    refine WL_q (q_extract (vs := [_, _]) rfl rfl) (by decide) ?_
                    refine WL_q (q_assign rfl) (by decide) ?_
                    refine WL_q (q_assign rfl) (by decide) ?_
                    refine WL_nil ?_
                    refine thenN ?_
                    refine WC_ret ?_
                    refine ⟨_, [], [RdF rgD Af cf acc], fun Z w hs => .tmp rfl (.tmp rfl (.nil)), ?_, fun Z w hs => hs.out (List.Sublist.refl _) (memc (.head _) (fun _ h => .tail _ (.tail _ h)))⟩
                    have hF : thrF xs at_ n = (acc, 0) := by rw [hOK, hD]; unfold boundF; rw [if_neg hb]
                    exact ⟨Af, cf, by rw [hF]; rfl, rfl, by rw [hF]⟩
          · refine WL_gno rfl rfl rfl g41 (by decide) ?_
            refine WL_gno rfl rfl rfl g41 (by decide) ?_
            refine WL_gno rfl rfl rfl g41 (by decide) ?_
            refine WL_gno rfl rfl rfl g41 (by decide) ?_
            refine WL_q (q_pickF rfl g41 rfl) (by decide) ?_
            refine WL_nil ?_
            refine thenN ?_
            refine WC_fr [(46, _), (7, _), (6, _), (0, _), (1, _), (2, _)] (.cons rfl (.cons rfl (.cons rfl (.cons rfl (.cons rfl (.cons rfl (.nil _))))))) ?_
            refine WC_false rfl rfl ?_
            refine WC_skip ?_
            refine thenN ?_
            refine WC_seq ?_
            refine WC_region ?_
            refine WL_q (q_assign rfl) (by decide) ?_
            refine WL_nil ?_
            refine thenN ?_
            refine WC_seq ?_
            refine WC_seq ?_
            refine WC_region ?_
            refine WL_q (q_move rfl) (by decide) ?_
            refine WL_q (q_len Tryd.underlying29 rfl) (by decide) ?_
            refine WL_q (q_move rfl) (by decide) ?_
            refine WL_nil ?_
            refine thenN ?_
            refine WC_block ?_
            try simp only [decide_eq_true_eq, decide_eq_false_iff_not, beq_iff_eq, bne_iff_ne, beq_eq_false_iff_ne, ne_eq, Bool.and_eq_true, Bool.not_eq_true', Bool.not_eq_false', Bool.not_eq_true, Bool.not_eq_false, bne_eq_false_iff_eq, Bool.and_eq_false_iff] at *
            have hC : (ckF xs).2 = 0 := by omega
            have hl2 := (ckF_good hC).1
            have hOK : thrF xs at_ n = boundF (thrL at_ n [] xs) := by
              first
              | exact thrF_ok (by omega) (by omega) hk0 (by omega)
              | (obtain rfl : xs = [] := List.length_eq_zero_iff.1 (by omega); exact thrF_nil (by omega))
            refine WC_nilPart ?_
            refine WC_loopE (α := Nat × List Rg × Value × Part) (fun (k, acc, v, p) => xs.length - k)
              (fun (k, acc, v, p) => [(1, .int .i64 at_), (2, .int .i64 n), (11, v), (47, .slice (some ⟨b7, q7, none⟩) xs.length c), (48, .int .i64 xs.length), (49, .int .i64 k)])
              (fun (k, acc, v, p) => p :: Ps)
              (fun (k, acc, v, p) => (RdF rgD (some ⟨b7, q7, none⟩) c xs :: As))
              (fun (k, acc, v, p) => ThI xs at_ n k acc v p)
              (0, [], .slice none 0 0, []) ?_ (.cons rfl (.cons rfl (.cons rfl (.cons rfl (.cons rfl (.cons rfl (.nil _))))))) (List.Sublist.cons_cons _ (List.Sublist.refl _)) (fun _ h => .tail _ h) ?_
            · exact ⟨Nat.zero_le _, Row.nil _ _, by simp, rfl⟩
            · rintro ⟨k, acc, v, p⟩ hI
              refine WC_seq ?_
              refine WC_region ?_
              refine WL_q (q_lss rfl rfl) (by decide) ?_
              refine WL_nil ?_
              refine thenN ?_
              refine WC_seq ?_
              refine WC_cond rfl (fun h50 => ?_) (fun h50 => ?_)
              · refine WC_skip ?_
                refine thenN ?_
                refine WC_seq ?_
                refine WC_block ?_
                refine WC_seq ?_
                have hk : k < xs.length := by simpa using h50
                have hg2 := ckF_at hC hk
                refine WC_elem (k := k) (.head _) (List.getElem?_eq_getElem hk) (rg_open _) fun b13 q13 y13 e13 => ?_
                cases e13
                refine WC_region ?_
                refine WL_q (q_idxRd Tryd.underlying29 ti37 rfl rfl (by omega) (by omega)) (by decide) ?_
                refine WL_q (q_loadFN (k := 0) (vs := [_, _]) Tryd.underlying37 rfl ti37 rfl (.head _) rfl rfl rfl) (by decide) ?_
                refine WL_main rfl (OW_alloc (cs := [_, _]) ti37 rfl (by decide) fun b13 => ?_)
                refine WL_main rfl (OW_storeN (cs' := [_, _]) (vs := [_, _]) ti37 rfl rfl rfl rfl rfl (Nat.le_of_ble_eq_true rfl) (.z) ?_)
                refine WL_nil ?_
                refine thenN ?_
                refine WC_seq ?_
                refine WC_region ?_
                refine WL_q (q_move rfl) (by decide) ?_
                refine WL_q (q_field (o' := 0) Tryd.underlying37 rfl ti3 rfl rfl) (by decide) ?_
                refine WL_q (q_load1 Tryd.underlying3 rfl rfl own0 rfl) (by decide) ?_
                refine WL_q (q_field (o' := 1) Tryd.underlying37 rfl ti3 rfl rfl) (by decide) ?_
                refine WL_q (q_load1 Tryd.underlying3 rfl rfl own0 rfl) (by decide) ?_
                refine WL_q (q_move rfl) (by decide) ?_
                refine WL_q (q_min rfl rfl) (by decide) ?_
                refine WL_main rfl (OW_call1 (add_s v acc p xs[k].lo (min xs[k].hi at_) hI.row (by have := hI.len; have := hI.le; omega)) (.cons rfl (.cons rfl (.cons rfl (.nil)))) (by decide) (.s (.z)) mem0 fun va Lo fs hres => ?_)
                obtain ⟨pa, hra, rfl, rfl⟩ := hres
                refine WL_q (q_assign rfl) (by decide) ?_
                refine WL_nil ?_
                refine thenN ?_
                refine WC_region ?_
                refine WL_q (q_move rfl) (by decide) ?_
                refine WL_q (q_field (o' := 0) Tryd.underlying37 rfl ti3 rfl rfl) (by decide) ?_
                refine WL_q (q_load1 Tryd.underlying3 rfl rfl (ownS (own0)) rfl) (by decide) ?_
                refine WL_q (q_move rfl) (by decide) ?_
                refine WL_q (q_max rfl rfl) (by decide) ?_
                refine WL_q (q_move rfl) (by decide) ?_
                refine WL_q (q_add rfl rfl (wr64 (by omega))) (by decide) ?_
                refine WL_q (q_field (o' := 1) Tryd.underlying37 rfl ti3 rfl rfl) (by decide) ?_
                refine WL_q (q_load1 Tryd.underlying3 rfl rfl (ownS (own0)) rfl) (by decide) ?_
                refine WL_q (q_move rfl) (by decide) ?_
                refine WL_q (q_add rfl rfl (wr64 (by omega))) (by decide) ?_
                refine WL_main rfl (OW_call1 (add_s va (addF acc xs[k].lo (min xs[k].hi at_)) pa (max xs[k].lo at_ + n) (xs[k].hi + n) hra (by have := hI.len; have := hI.le; have := addF_len acc xs[k].lo (min xs[k].hi at_); omega)) (.cons rfl (.cons rfl (.cons rfl (.nil)))) (by decide) (.z) mem0 fun vb Lo fs hres => ?_)
                obtain ⟨pb, hrb, rfl, rfl⟩ := hres
                refine WL_q (q_assign rfl) (by decide) ?_
                refine WL_nil ?_
                refine blockN ?_
                refine thenN ?_
                refine WC_region ?_
                refine WL_q (q_add rfl rfl (wr64 (by omega))) (by decide) ?_
                refine WL_q (q_move rfl) (by decide) ?_
                refine WL_nil ?_
                refine thenK ?_
                refine ⟨(k + 1, addF (addF acc xs[k].lo (min xs[k].hi at_)) (max xs[k].lo at_ + n) (xs[k].hi + n), vb, pb), ?_, (.cons rfl (.cons rfl (.cons rfl (.cons rfl (.cons rfl (.cons rfl (.nil _))))))), (List.Sublist.cons_cons _ (List.Sublist.cons _ (List.Sublist.refl _))), (fun _ h => .tail _ h)⟩
                exact ⟨by show xs.length - (k + 1) < xs.length - k; omega, hI.next hk hrb⟩
              · refine WC_exit ?_
                refine thenExit ?_
                refine thenExit ?_
                refine blockHit ?_
                refine thenN ?_
                refine WC_seq ?_
                have hD := hI.done (by simpa using h50)
                refine WC_fact (A := RepsF rgD acc (acc.map rgC)) (fun Z w _ => rgs_reps acc Z w) ?_
                refine WC_freeze (e := rgD) (css := acc.map rgC) hI.row .z rfl (.head _) fun Af cf ef => ?_
                subst ef
                by_cases hb : acc.length > 32768
                · refine WC_region ?_
                  refine WL_q (q_move rfl) (by decide) ?_
                  refine WL_main rfl (OW_call0 (bounded_1 Af cf acc hb) (.cons rfl (.nil)) (by decide) mem0 fun u17_1 Lo fs hres => ?_)
                  obtain ⟨rfl, rfl, rfl⟩ := hres
                  refine WL_q (q_extract (vs := [_, _]) rfl rfl) (by decide) ?_
                  refine WL_q (q_extract (vs := [_, _]) rfl rfl) (by decide) ?_
                  refine WL_q (q_assign rfl) (by decide) ?_
                  refine WL_q (q_assign rfl) (by decide) ?_
                  refine WL_nil ?_
                  refine thenN ?_
                  refine WC_ret ?_
                  refine ⟨_, [], [RdF rgD none 0 []], fun Z w hs => .tmp rfl (.tmp rfl (.nil)), ?_, fun Z w hs => ⟨Z, ((hs.subParts (List.Sublist.refl _)).subFacts (fun _ h => .tail _ (.tail _ h))).addFact (A := RdF rgD none 0 []) (RdS.nil _ _ _)⟩⟩
                  have hF : thrF xs at_ n = ([], 21) := by rw [hOK, hD]; unfold boundF; rw [if_pos hb]
                  exact ⟨none, 0, by rw [hF]; rfl, rfl, by rw [hF]⟩
                · refine WC_region ?_
                  refine WL_q (q_move rfl) (by decide) ?_
                  refine WL_main rfl (OW_call0 (bounded_2 Af cf acc hb) (.cons rfl (.nil)) (by decide) mem0 fun u17_1 Lo fs hres => ?_)
                  obtain ⟨rfl, rfl, rfl⟩ := hres
                  refine WL_q (q_extract (vs := [_, _]) rfl rfl) (by decide) ?_
                  refine WL_q (q_extract (vs := [_, _]) rfl rfl) (by decide) ?_
                  refine WL_q (q_assign rfl) (by decide) ?_
                  refine WL_q (q_assign rfl) (by decide) ?_
                  refine WL_nil ?_
                  refine thenN ?_
                  refine WC_ret ?_
                  refine ⟨_, [], [RdF rgD Af cf acc], fun Z w hs => .tmp rfl (.tmp rfl (.nil)), ?_, fun Z w hs => hs.out (List.Sublist.refl _) (memc (.head _) (fun _ h => .tail _ (.tail _ h)))⟩
                  have hF : thrF xs at_ n = (acc, 0) := by rw [hOK, hD]; unfold boundF; rw [if_neg hb]
                  exact ⟨Af, cf, by rw [hF]; rfl, rfl, by rw [hF]⟩
        · refine WC_skip ?_
          refine thenN ?_
          refine WC_seq ?_
          refine WC_region ?_
          refine WL_q (q_assign rfl) (by decide) ?_
          refine WL_nil ?_
          refine thenN ?_
          refine WC_seq ?_
          refine WC_seq ?_
          refine WC_region ?_
          refine WL_q (q_move rfl) (by decide) ?_
          refine WL_q (q_len Tryd.underlying29 rfl) (by decide) ?_
          refine WL_q (q_move rfl) (by decide) ?_
          refine WL_nil ?_
          refine thenN ?_
          refine WC_block ?_
          try simp only [decide_eq_true_eq, decide_eq_false_iff_not, beq_iff_eq, bne_iff_ne, beq_eq_false_iff_ne, ne_eq, Bool.and_eq_true, Bool.not_eq_true', Bool.not_eq_false', Bool.not_eq_true, Bool.not_eq_false, bne_eq_false_iff_eq, Bool.and_eq_false_iff] at *
          have hC : (ckF xs).2 = 0 := by omega
          have hl2 := (ckF_good hC).1
          have hOK : thrF xs at_ n = boundF (thrL at_ n [] xs) := by
            first
            | exact thrF_ok (by omega) (by omega) hk0 (by omega)
            | (obtain rfl : xs = [] := List.length_eq_zero_iff.1 (by omega); exact thrF_nil (by omega))
          refine WC_nilPart ?_
          refine WC_loopE (α := Nat × List Rg × Value × Part) (fun (k, acc, v, p) => xs.length - k)
            (fun (k, acc, v, p) => [(1, .int .i64 at_), (2, .int .i64 n), (11, v), (47, .slice A xs.length c), (48, .int .i64 xs.length), (49, .int .i64 k)])
            (fun (k, acc, v, p) => p :: Ps)
            (fun (k, acc, v, p) => (RdF rgD A c xs :: As))
            (fun (k, acc, v, p) => ThI xs at_ n k acc v p)
            (0, [], .slice none 0 0, []) ?_ (.cons rfl (.cons rfl (.cons rfl (.cons rfl (.cons rfl (.cons rfl (.nil _))))))) (List.Sublist.cons_cons _ (List.Sublist.refl _)) (fun _ h => h) ?_
          · exact ⟨Nat.zero_le _, Row.nil _ _, by simp, rfl⟩
          · rintro ⟨k, acc, v, p⟩ hI
            refine WC_seq ?_
            refine WC_region ?_
            refine WL_q (q_lss rfl rfl) (by decide) ?_
            refine WL_nil ?_
            refine thenN ?_
            refine WC_seq ?_
            refine WC_cond rfl (fun h50 => ?_) (fun h50 => ?_)
            · refine WC_skip ?_
              refine thenN ?_
              refine WC_seq ?_
              refine WC_block ?_
              refine WC_seq ?_
              have hk : k < xs.length := by simpa using h50
              have hg2 := ckF_at hC hk
              refine WC_elem (k := k) (.head _) (List.getElem?_eq_getElem hk) (rg_open _) fun b13 q13 y13 e13 => ?_
              cases e13
              refine WC_region ?_
              refine WL_q (q_idxRd Tryd.underlying29 ti37 rfl rfl (by omega) (by omega)) (by decide) ?_
              refine WL_q (q_loadFN (k := 0) (vs := [_, _]) Tryd.underlying37 rfl ti37 rfl (.head _) rfl rfl rfl) (by decide) ?_
              refine WL_main rfl (OW_alloc (cs := [_, _]) ti37 rfl (by decide) fun b13 => ?_)
              refine WL_main rfl (OW_storeN (cs' := [_, _]) (vs := [_, _]) ti37 rfl rfl rfl rfl rfl (Nat.le_of_ble_eq_true rfl) (.z) ?_)
              refine WL_nil ?_
              refine thenN ?_
              refine WC_seq ?_
              refine WC_region ?_
              refine WL_q (q_move rfl) (by decide) ?_
              refine WL_q (q_field (o' := 0) Tryd.underlying37 rfl ti3 rfl rfl) (by decide) ?_
              refine WL_q (q_load1 Tryd.underlying3 rfl rfl own0 rfl) (by decide) ?_
              refine WL_q (q_field (o' := 1) Tryd.underlying37 rfl ti3 rfl rfl) (by decide) ?_
              refine WL_q (q_load1 Tryd.underlying3 rfl rfl own0 rfl) (by decide) ?_
              refine WL_q (q_move rfl) (by decide) ?_
              refine WL_q (q_min rfl rfl) (by decide) ?_
              refine WL_main rfl (OW_call1 (add_s v acc p xs[k].lo (min xs[k].hi at_) hI.row (by have := hI.len; have := hI.le; omega)) (.cons rfl (.cons rfl (.cons rfl (.nil)))) (by decide) (.s (.z)) mem0 fun va Lo fs hres => ?_)
              obtain ⟨pa, hra, rfl, rfl⟩ := hres
              refine WL_q (q_assign rfl) (by decide) ?_
              refine WL_nil ?_
              refine thenN ?_
              refine WC_region ?_
              refine WL_q (q_move rfl) (by decide) ?_
              refine WL_q (q_field (o' := 0) Tryd.underlying37 rfl ti3 rfl rfl) (by decide) ?_
              refine WL_q (q_load1 Tryd.underlying3 rfl rfl (ownS (own0)) rfl) (by decide) ?_
              refine WL_q (q_move rfl) (by decide) ?_
              refine WL_q (q_max rfl rfl) (by decide) ?_
              refine WL_q (q_move rfl) (by decide) ?_
              refine WL_q (q_add rfl rfl (wr64 (by omega))) (by decide) ?_
              refine WL_q (q_field (o' := 1) Tryd.underlying37 rfl ti3 rfl rfl) (by decide) ?_
              refine WL_q (q_load1 Tryd.underlying3 rfl rfl (ownS (own0)) rfl) (by decide) ?_
              refine WL_q (q_move rfl) (by decide) ?_
              refine WL_q (q_add rfl rfl (wr64 (by omega))) (by decide) ?_
              refine WL_main rfl (OW_call1 (add_s va (addF acc xs[k].lo (min xs[k].hi at_)) pa (max xs[k].lo at_ + n) (xs[k].hi + n) hra (by have := hI.len; have := hI.le; have := addF_len acc xs[k].lo (min xs[k].hi at_); omega)) (.cons rfl (.cons rfl (.cons rfl (.nil)))) (by decide) (.z) mem0 fun vb Lo fs hres => ?_)
              obtain ⟨pb, hrb, rfl, rfl⟩ := hres
              refine WL_q (q_assign rfl) (by decide) ?_
              refine WL_nil ?_
              refine blockN ?_
              refine thenN ?_
              refine WC_region ?_
              refine WL_q (q_add rfl rfl (wr64 (by omega))) (by decide) ?_
              refine WL_q (q_move rfl) (by decide) ?_
              refine WL_nil ?_
              refine thenK ?_
              refine ⟨(k + 1, addF (addF acc xs[k].lo (min xs[k].hi at_)) (max xs[k].lo at_ + n) (xs[k].hi + n), vb, pb), ?_, (.cons rfl (.cons rfl (.cons rfl (.cons rfl (.cons rfl (.cons rfl (.nil _))))))), (List.Sublist.cons_cons _ (List.Sublist.cons _ (List.Sublist.refl _))), (fun _ h => .tail _ h)⟩
              exact ⟨by show xs.length - (k + 1) < xs.length - k; omega, hI.next hk hrb⟩
            · refine WC_exit ?_
              refine thenExit ?_
              refine thenExit ?_
              refine blockHit ?_
              refine thenN ?_
              refine WC_seq ?_
              have hD := hI.done (by simpa using h50)
              refine WC_fact (A := RepsF rgD acc (acc.map rgC)) (fun Z w _ => rgs_reps acc Z w) ?_
              refine WC_freeze (e := rgD) (css := acc.map rgC) hI.row .z rfl (.head _) fun Af cf ef => ?_
              subst ef
              by_cases hb : acc.length > 32768
              · refine WC_region ?_
                refine WL_q (q_move rfl) (by decide) ?_
                refine WL_main rfl (OW_call0 (bounded_1 Af cf acc hb) (.cons rfl (.nil)) (by decide) mem0 fun u17_1 Lo fs hres => ?_)
                obtain ⟨rfl, rfl, rfl⟩ := hres
                refine WL_q (q_extract (vs := [_, _]) rfl rfl) (by decide) ?_
                refine WL_q (q_extract (vs := [_, _]) rfl rfl) (by decide) ?_
                refine WL_q (q_assign rfl) (by decide) ?_
                refine WL_q (q_assign rfl) (by decide) ?_
                refine WL_nil ?_
                refine thenN ?_
                refine WC_ret ?_
                refine ⟨_, [], [RdF rgD none 0 []], fun Z w hs => .tmp rfl (.tmp rfl (.nil)), ?_, fun Z w hs => ⟨Z, ((hs.subParts (List.Sublist.refl _)).subFacts (fun _ h => .tail _ (.tail _ h))).addFact (A := RdF rgD none 0 []) (RdS.nil _ _ _)⟩⟩
                have hF : thrF xs at_ n = ([], 21) := by rw [hOK, hD]; unfold boundF; rw [if_pos hb]
                exact ⟨none, 0, by rw [hF]; rfl, rfl, by rw [hF]⟩
              · refine WC_region ?_
                refine WL_q (q_move rfl) (by decide) ?_
                refine WL_main rfl (OW_call0 (bounded_2 Af cf acc hb) (.cons rfl (.nil)) (by decide) mem0 fun u17_1 Lo fs hres => ?_)
                obtain ⟨rfl, rfl, rfl⟩ := hres
                refine WL_q (q_extract (vs := [_, _]) rfl rfl) (by decide) ?_
                refine WL_q (q_extract (vs := [_, _]) rfl rfl) (by decide) ?_
                refine WL_q (q_assign rfl) (by decide) ?_
                refine WL_q (q_assign rfl) (by decide) ?_
                refine WL_nil ?_
                refine thenN ?_
                refine WC_ret ?_
                refine ⟨_, [], [RdF rgD Af cf acc], fun Z w hs => .tmp rfl (.tmp rfl (.nil)), ?_, fun Z w hs => hs.out (List.Sublist.refl _) (memc (.head _) (fun _ h => .tail _ (.tail _ h)))⟩
                have hF : thrF xs at_ n = (acc, 0) := by rw [hOK, hD]; unfold boundF; rw [if_neg hb]
                exact ⟨Af, cf, by rw [hF]; rfl, rfl, by rw [hF]⟩

end Go.Proofs.YtggdddkbhigjoaaDoor
