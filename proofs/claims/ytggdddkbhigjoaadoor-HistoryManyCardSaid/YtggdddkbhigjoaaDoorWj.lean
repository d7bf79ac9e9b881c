/- Walks: xform.clones. -/
import Derived.Test.YtggdddkbhigjoaaDoorWi
set_option linter.unusedVariables false
set_option linter.unusedSimpArgs false
namespace Go.Proofs.YtggdddkbhigjoaaDoor
open Go Go.GW

set_option maxRecDepth 10000 in
theorem clones_s (A : Option Addr) (c : Nat) (xs : List GOp) (hf : ∀ o ∈ xs, Fit o) (hl : xs.length ≤ 1000000000) : Sp Tryd.prog 47 [.slice A xs.length c] [] [RdF opD A c xs] (fun v Lo fs => ∃ p css, RowS 31 9 v xs.length css.flatten p ∧ Lo = [p] ∧ fs = [RepsF opD xs css]) := by
  refine Sp.of (n := 22) ⟨_, Tryd.func47, rfl, rfl, rfl, rfl⟩ (Nat.le_of_ble_eq_true rfl) fun Ps As => ?_
  refine WC_seq ?_
  refine WC_region ?_
  refine WL_q (q_assign rfl) (by decide) ?_
  refine WL_nil ?_
  refine thenN ?_
  refine WC_seq ?_
  refine WC_region ?_
  refine WL_q (q_move rfl) (by decide) ?_
  refine WL_q (q_len Tryd.underlying45 rfl) (by decide) ?_
  refine WL_main rfl (OW_make0 Tryd.underlying45 ti31 rfl rfl (by omega) (by unfold maxLen; omega) (by decide) fun v0 p0 hr0 => ?_)
  refine WL_q (q_assign rfl) (by decide) ?_
  refine WL_nil ?_
  refine thenN ?_
  refine WC_seq ?_
  refine WC_seq ?_
  refine WC_region ?_
  refine WL_q (q_move rfl) (by decide) ?_
  refine WL_q (q_len Tryd.underlying45 rfl) (by decide) ?_
  refine WL_q (q_move rfl) (by decide) ?_
  refine WL_nil ?_
  refine thenN ?_
  refine WC_block ?_
  refine WC_fact (A := RepsF opD (xs.take 0) []) (fun Z w hs => Reps.nil) ?_
  refine WC_loopE (α := Nat × Value × Part × List (List Value)) (fun (k, v, p, css) => xs.length - k)
    (fun (k, v, p, css) => [(9, .slice A xs.length c), (10, .int .i64 xs.length), (11, .int .i64 k), (3, v)])
    (fun (k, v, p, css) => (p :: Ps))
    (fun (k, v, p, css) => (RepsF opD (xs.take k) css :: RdF opD A c xs :: As))
    (fun (k, v, p, css) => k ≤ xs.length ∧ RowS 31 9 v k css.flatten p)
    (0, v0, p0, []) ?_ (.cons rfl (.cons rfl (.cons rfl (.cons rfl (.nil _))))) (List.Sublist.refl _) (fun _ h => h) ?_
  · exact ⟨Nat.zero_le _, hr0⟩
  · rintro ⟨k, v, p, css⟩ hI
    have hle : k ≤ xs.length := hI.1
    refine WC_seq ?_
    refine WC_region ?_
    refine WL_q (q_lss rfl rfl) (by decide) ?_
    refine WL_nil ?_
    refine thenN ?_
    refine WC_seq ?_
    refine WC_cond rfl (fun h12 => ?_) (fun h12 => ?_)
    · refine WC_skip ?_
      refine thenN ?_
      refine WC_seq ?_
      refine WC_block ?_
      refine WC_seq ?_
      have hk : k < xs.length := by simpa using h12
      refine WC_elem (k := k) (.tail _ (.head _)) (List.getElem?_eq_getElem hk) (op_open _) fun b4 q4 y4 e4 => ?_
      cases e4
      refine WC_region ?_
      refine WL_q (q_idxRd Tryd.underlying45 ti31 rfl rfl (by omega) (by omega)) (by decide) ?_
      refine WL_q (q_loadFN (k := 0) (vs := [_, _, _, _, _, _, _, _, _]) Tryd.underlying31 rfl ti31 rfl (.head _) rfl rfl rfl) (by decide) ?_
      refine WL_main rfl (OW_alloc (cs := [_, _, _, _, _, _, _, _, _]) ti31 rfl (by decide) fun b5 => ?_)
      refine WL_main rfl (OW_storeN (cs' := [_, _, _, _, _, _, _, _, _]) (vs := [_, _, _, _, _, _, _, _, _]) ti31 rfl rfl rfl rfl rfl (Nat.le_of_ble_eq_true rfl) (.z) ?_)
      refine WL_nil ?_
      refine thenN ?_
      refine WC_region ?_
      refine WL_q (q_move rfl) (by decide) ?_
      refine WL_q (q_loadN (vs := [_, _, _, _, _, _, _, _, _]) Tryd.underlying31 rfl ti31 rfl own0 rfl rfl) (by decide) ?_
      refine WL_main rfl (OW_call0 (clone_s xs[k] y4.1 y4.2 (hf _ (List.getElem_mem hk)).rs) (.cons rfl (.nil)) (by decide) (memc (.tail _ (.head _)) mem0) fun u5_2 Lo fs hres => ?_)
      obtain ⟨A1, c1, rfl, rfl, rfl⟩ := hres
      refine WL_main rfl (OW_slice1 (cs := [_, _, _, _, _, _, _, _, _]) Tryd.underlying45 ti31 (by decide) (by decide) rfl rfl rfl rfl (by decide) fun b18 => ?_)
      refine WL_main rfl (OW_append1 (news := [_, _, _, _, _, _, _, _, _]) Tryd.underlying45 ti31 rfl (by decide) rfl rfl hI.2.row own0 rfl rfl (by omega) (by unfold maxLen; omega) (by decide) (DelAt.perm (.s (.s (.z)))) fun v19 p19 hr19 => ?_)
      refine WL_q (q_assign rfl) (by decide) ?_
      refine WL_nil ?_
      refine blockN ?_
      refine thenN ?_
      refine WC_repsAdd (u := xs[k]) (cs := opC xs[k] A1 c1) (.tail _ (.tail _ (.tail _ (.head _)))) (fun Z w hs => ⟨A1, c1, rfl, hs.facts _ (.head _)⟩) (List.take_succ_eq_append_getElem hk) ?_
      refine WC_region ?_
      refine WL_q (q_add rfl rfl (wr64 (by omega))) (by decide) ?_
      refine WL_q (q_move rfl) (by decide) ?_
      refine WL_nil ?_
      refine thenK ?_
      refine ⟨(k + 1, v19, p19, css ++ [opC xs[k] A1 c1]), ?_, (.cons rfl (.cons rfl (.cons rfl (.cons rfl (.nil _))))), (List.Sublist.cons_cons _ (List.Sublist.cons _ (List.Sublist.cons _ (List.Sublist.refl _)))), (memc (.head _) (fun _ h => .tail _ (.tail _ (.tail _ (.tail _ (.tail _ h))))))⟩
      refine ⟨by show xs.length - (k + 1) < xs.length - k; omega, by show k + 1 ≤ xs.length; omega, ?_⟩
      have := hr19.toS (by omega)
      rw [List.flatten_append, show [opC xs[k] A1 c1].flatten = opC xs[k] A1 c1 from by simp]
      exact this
    · refine WC_exit ?_
      refine thenExit ?_
      refine thenExit ?_
      refine blockHit ?_
      refine thenN ?_
      refine WC_seq ?_
      refine WC_region ?_
      refine WL_q (q_move rfl) (by decide) ?_
      refine WL_q (q_assign rfl) (by decide) ?_
      refine WL_nil ?_
      refine thenN ?_
      refine WC_ret ?_
      refine ⟨_, [p], [RepsF opD (xs.take k) css], fun Z w hs => .tmp rfl (.nil), ?_, fun Z w hs => hs.out (List.Sublist.cons_cons _ (List.Sublist.refl _)) (fun _ h => h)⟩
      try simp only [decide_eq_true_eq, decide_eq_false_iff_not, beq_iff_eq, bne_iff_ne, beq_eq_false_iff_ne, ne_eq, Bool.and_eq_true, Bool.not_eq_true', Bool.not_eq_false', Bool.not_eq_true, Bool.not_eq_false, bne_eq_false_iff_eq, Bool.and_eq_false_iff] at *
      obtain rfl : k = xs.length := by omega
      exact ⟨p, css, hI.2, rfl, by rw [List.take_length]⟩

end Go.Proofs.YtggdddkbhigjoaaDoor
