/- Walks: add. -/
import Derived.Test.YtggdddkbhigjoaaDoorWb
import Derived.Test.YtggdddkbhigjoaaDoorPl
set_option linter.unusedVariables false
set_option linter.unusedSimpArgs false
namespace Go.Proofs.YtggdddkbhigjoaaDoor
open Go Go.GW

set_option maxRecDepth 10000 in
theorem add_1 (v : Value) (xs : List Rg) (p : Part) (lo hi : Int) (hr : Row 37 2 v xs.length (rgs xs) p) (h : hi ≤ lo) : Sp Tryd.prog 90 [v, .int .i64 lo, .int .i64 hi] [p] [] (fun v' Lo fs => ∃ p', Row 37 2 v' (addF xs lo hi).length (rgs (addF xs lo hi)) p' ∧ Lo = [p'] ∧ fs = []) := by
  refine Sp.of (n := 46) ⟨_, Tryd.func90, rfl, rfl, rfl, rfl⟩ (Nat.le_of_ble_eq_true rfl) fun Ps As => ?_
  refine WC_seq ?_
  refine WC_region ?_
  refine WL_q (q_assign rfl) (by decide) ?_
  refine WL_nil ?_
  refine thenN ?_
  refine WC_seq ?_
  refine WC_seq ?_
  refine WC_region ?_
  refine WL_q (q_move rfl) (by decide) ?_
  refine WL_q (q_move rfl) (by decide) ?_
  refine WL_q (q_geq rfl rfl) (by decide) ?_
  refine WL_nil ?_
  refine thenN ?_
  refine WC_true rfl (by simpa using h) ?_
  refine WC_seq ?_
  refine WC_region ?_
  refine WL_q (q_move rfl) (by decide) ?_
  refine WL_q (q_assign rfl) (by decide) ?_
  refine WL_nil ?_
  refine thenN ?_
  refine WC_ret ?_
  refine thenRet ?_
  refine ⟨_, [p], [], fun Z w hs => .tmp rfl (.nil), ?_, fun Z w hs => hs.out (List.Sublist.cons_cons _ (List.Sublist.refl _)) (fun _ h => h)⟩
  exact ⟨p, by rw [addF_skip h]; exact hr, rfl, rfl⟩

theorem bd37_0_1Xw3 (x0_ : Int) (x1_ : Int) (w : World) : (Instr.build 37 #[(0, .int .i64 x0_), (1, .int .i64 x1_)]).run Tryd.prog w = .ok (.agg #[.int .i64 x0_, .int .i64 x1_]) w := by kernel_rfl

set_option maxRecDepth 10000 in
theorem add_2 (v : Value) (p : Part) (lo hi : Int) (hr : Row 37 2 v 0 (rgs []) p) (h : ¬ hi ≤ lo) : Sp Tryd.prog 90 [v, .int .i64 lo, .int .i64 hi] [p] [] (fun v' Lo fs => ∃ p', Row 37 2 v' (addF [] lo hi).length (rgs (addF [] lo hi)) p' ∧ Lo = [p'] ∧ fs = []) := by
  obtain ⟨A, cap, rfl⟩ := hr.slice
  refine Sp.of (n := 46) ⟨_, Tryd.func90, rfl, rfl, rfl, rfl⟩ (Nat.le_of_ble_eq_true rfl) fun Ps As => ?_
  refine WC_seq ?_
  refine WC_region ?_
  refine WL_q (q_assign rfl) (by decide) ?_
  refine WL_nil ?_
  refine thenN ?_
  refine WC_seq ?_
  refine WC_seq ?_
  refine WC_region ?_
  refine WL_q (q_move rfl) (by decide) ?_
  refine WL_q (q_move rfl) (by decide) ?_
  refine WL_q (q_geq rfl rfl) (by decide) ?_
  refine WL_nil ?_
  refine thenN ?_
  refine WC_false rfl (by simpa using h) ?_
  refine WC_skip ?_
  refine thenN ?_
  refine WC_seq ?_
  refine WC_seq ?_
  refine WC_region ?_
  refine WL_q (q_move rfl) (by decide) ?_
  refine WL_q (q_len Tryd.underlying29 rfl) (by decide) ?_
  refine WL_q (q_assign rfl) (by decide) ?_
  refine WL_nil ?_
  refine thenN ?_
  refine WC_seq ?_
  refine WC_region ?_
  refine WL_q (q_move rfl) (by decide) ?_
  refine WL_q (q_gtr rfl rfl) (by decide) ?_
  refine WL_q (q_move rfl) (by decide) ?_
  refine WL_gno rfl rfl rfl (by simp) (by decide) ?_
  refine WL_gno rfl rfl rfl (by simp) (by decide) ?_
  refine WL_gno rfl rfl rfl (by simp) (by decide) ?_
  refine WL_gno rfl rfl rfl (by simp) (by decide) ?_
  refine WL_gno rfl rfl rfl (by simp) (by decide) ?_
  refine WL_gno rfl rfl rfl (by simp) (by decide) ?_
  refine WL_gno rfl rfl rfl (by simp) (by decide) ?_
  refine WL_gno rfl rfl rfl (by simp) (by decide) ?_
  refine WL_q (q_pickF rfl (by simp) rfl) (by decide) ?_
  refine WL_nil ?_
  refine thenN ?_
  refine WC_fr [(25, _), (7, _), (6, _), (0, _), (1, _), (2, _)] (.cons rfl (.cons rfl (.cons rfl (.cons rfl (.cons rfl (.cons rfl (.nil _))))))) ?_
  refine WC_false rfl rfl ?_
  refine WC_skip ?_
  refine thenN ?_
  refine WC_seq ?_
  refine WC_region ?_
  refine WL_q (q_move rfl) (by decide) ?_
  refine WL_q (q_move rfl) (by decide) ?_
  refine WL_q (q_move rfl) (by decide) ?_
  refine WL_q (q_build (.cons rfl (.cons rfl (.nil))) (bd37_0_1Xw3 _ _)) (by decide) ?_
  refine WL_main rfl (OW_slice1 (cs := [_, _]) Tryd.underlying29 ti37 (by decide) (by decide) rfl rfl rfl rfl (by decide) fun b44 => ?_)
  refine WL_main rfl (OW_append1 (news := [_, _]) Tryd.underlying29 ti37 rfl (by decide) rfl rfl hr own0 rfl rfl (by omega) (by unfold maxLen; omega) (by decide) (DelAt.perm (.s (.z))) fun v45 p45 hr45 => ?_)
  refine WL_q (q_assign rfl) (by decide) ?_
  refine WL_nil ?_
  refine thenN ?_
  refine WC_ret ?_
  refine ⟨_, [p45], [], fun Z w hs => .tmp rfl (.nil), ?_, fun Z w hs => hs.out (List.Sublist.cons_cons _ (List.Sublist.cons _ (List.Sublist.refl _))) (fun _ h => h)⟩
  exact ⟨p45, by rw [addF_nil h, rgs_one]; exact hr45, rfl, rfl⟩


set_option maxRecDepth 10000 in
theorem add_3 (v : Value) (ys : List Rg) (r : Rg) (p : Part) (lo hi : Int) (hr : Row 37 2 v (ys ++ [r]).length (rgs (ys ++ [r])) p) (hb : ys.length ≤ 1000000) (h : ¬ hi ≤ lo) (hj : lo ≤ r.hi) : Sp Tryd.prog 90 [v, .int .i64 lo, .int .i64 hi] [p] [] (fun v' Lo fs => ∃ p', Row 37 2 v' (addF (ys ++ [r]) lo hi).length (rgs (addF (ys ++ [r]) lo hi)) p' ∧ Lo = [p'] ∧ fs = []) := by
  have hn : (ys ++ [r]).length = ys.length + 1 := by simp
  obtain ⟨hlen, ⟨_, h0, _⟩ | ⟨b, cap, jk, rfl, rfl, h1, h2, h3⟩⟩ := hr
  · omega
  have hcs : (rgs (ys ++ [r]) ++ jk).length = ((ys ++ [r]).length) * 2 + jk.length := by rw [List.length_append, hlen]
  have hix : ((((ys ++ [r]).length : Nat) : Int) - 1).toNat = ys.length := by omega
  refine Sp.of (n := 46) ⟨_, Tryd.func90, rfl, rfl, rfl, rfl⟩ (Nat.le_of_ble_eq_true rfl) fun Ps As => ?_
  refine WC_seq ?_
  refine WC_region ?_
  refine WL_q (q_assign rfl) (by decide) ?_
  refine WL_nil ?_
  refine thenN ?_
  refine WC_seq ?_
  refine WC_seq ?_
  refine WC_region ?_
  refine WL_q (q_move rfl) (by decide) ?_
  refine WL_q (q_move rfl) (by decide) ?_
  refine WL_q (q_geq rfl rfl) (by decide) ?_
  refine WL_nil ?_
  refine thenN ?_
  refine WC_false rfl (by simpa using h) ?_
  refine WC_skip ?_
  refine thenN ?_
  refine WC_seq ?_
  refine WC_seq ?_
  refine WC_region ?_
  refine WL_q (q_move rfl) (by decide) ?_
  refine WL_q (q_len Tryd.underlying29 rfl) (by decide) ?_
  refine WL_q (q_assign rfl) (by decide) ?_
  refine WL_nil ?_
  refine thenN ?_
  refine WC_seq ?_
  refine WC_region ?_
  refine WL_q (q_move rfl) (by decide) ?_
  refine WL_q (q_gtr rfl rfl) (by decide) ?_
  refine WL_q (q_move rfl) (by decide) ?_
  refine WL_gq rfl rfl rfl (by simp) (q_move rfl) (by decide) ?_
  refine WL_gq rfl rfl rfl (by simp) (q_move rfl) (by decide) ?_
  refine WL_gq rfl rfl rfl (by simp) (q_sub rfl rfl (wr64 (by omega))) (by decide) ?_
  refine WL_gq rfl rfl rfl (by simp) (q_idxOwn Tryd.underlying29 ti37 rfl rfl (by omega) (by omega)) (by decide) ?_
  refine WL_gq rfl rfl rfl (by simp) (q_field (o' := _ + 1) Tryd.underlying37 rfl ti3 rfl rfl) (by decide) ?_
  refine WL_gq rfl rfl rfl (by simp) (q_load1 Tryd.underlying3 rfl rfl own0 (by rw [hix]; exact rgs_last ys r jk)) (by decide) ?_
  refine WL_gq rfl rfl rfl (by simp) (q_move rfl) (by decide) ?_
  refine WL_gq rfl rfl rfl (by simp) (q_geq rfl rfl) (by decide) ?_
  refine WL_q (q_pickT rfl (by simp) rfl) (by decide) ?_
  refine WL_nil ?_
  refine thenN ?_
  refine WC_fr [(25, _), (7, _), (6, _), (0, _), (1, _), (2, _)] (.cons rfl (.cons rfl (.cons rfl (.cons rfl (.cons rfl (.cons rfl (.nil _))))))) ?_
  refine WC_true rfl (by simpa using hj) ?_
  refine WC_seq ?_
  refine WC_region ?_
  refine WL_q (q_move rfl) (by decide) ?_
  refine WL_q (q_move rfl) (by decide) ?_
  refine WL_q (q_sub rfl rfl (wr64 (by omega))) (by decide) ?_
  refine WL_q (q_move rfl) (by decide) ?_
  refine WL_q (q_move rfl) (by decide) ?_
  refine WL_q (q_sub rfl rfl (wr64 (by omega))) (by decide) ?_
  refine WL_q (q_idxOwn Tryd.underlying29 ti37 rfl rfl (by omega) (by omega)) (by decide) ?_
  refine WL_q (q_field (o' := _ + 1) Tryd.underlying37 rfl ti3 rfl rfl) (by decide) ?_
  refine WL_q (q_load1 Tryd.underlying3 rfl rfl own0 (by rw [hix]; exact rgs_last ys r jk)) (by decide) ?_
  refine WL_q (q_move rfl) (by decide) ?_
  refine WL_q (q_max rfl rfl) (by decide) ?_
  refine WL_q (q_idxOwn Tryd.underlying29 ti37 rfl rfl (by omega) (by omega)) (by decide) ?_
  refine WL_q (q_field (o' := _ + 1) Tryd.underlying37 rfl ti3 rfl rfl) (by decide) ?_
  refine WL_main rfl (OW_storeC ti3 rfl rfl rfl (by rw [hcs, hix]; omega) (.z) ?_)
  refine WL_nil ?_
  refine thenN ?_
  refine WC_fr [(6, _), (0, _), (1, _), (2, _)] (.cons rfl (.cons rfl (.cons rfl (.cons rfl (.nil _))))) ?_
  refine WC_seq ?_
  refine WC_region ?_
  refine WL_q (q_move rfl) (by decide) ?_
  refine WL_q (q_assign rfl) (by decide) ?_
  refine WL_nil ?_
  refine thenN ?_
  refine WC_ret ?_
  refine thenRet ?_
  refine ⟨_, [_], [], fun Z w hs => .tmp rfl (.nil), ?_, fun Z w hs => hs.out (List.Sublist.cons_cons _ (List.Sublist.refl _)) (fun _ h => h)⟩
  refine ⟨_, ?_, rfl, rfl⟩
  rw [addF_join h hj, hix, rgs_set, show (ys ++ [r]).length = (ys ++ [(⟨r.lo, max r.hi hi⟩ : Rg)]).length from by simp]
  refine ⟨rgs_length _, .inr ⟨b, cap, jk, rfl, rfl, ?_, by simpa using h2, h3⟩⟩
  rw [List.length_append, rgs_length] at h1 ⊢
  simpa using h1


set_option maxRecDepth 10000 in
theorem add_4 (v : Value) (ys : List Rg) (r : Rg) (p : Part) (lo hi : Int) (hr : Row 37 2 v (ys ++ [r]).length (rgs (ys ++ [r])) p) (hb : ys.length ≤ 1000000) (h : ¬ hi ≤ lo) (hj : ¬ lo ≤ r.hi) : Sp Tryd.prog 90 [v, .int .i64 lo, .int .i64 hi] [p] [] (fun v' Lo fs => ∃ p', Row 37 2 v' (addF (ys ++ [r]) lo hi).length (rgs (addF (ys ++ [r]) lo hi)) p' ∧ Lo = [p'] ∧ fs = []) := by
  have hr0 := hr
  have hn : (ys ++ [r]).length = ys.length + 1 := by simp
  obtain ⟨hlen, ⟨_, h0, _⟩ | ⟨b, cap, jk, rfl, rfl, h1, h2, h3⟩⟩ := hr
  · omega
  have hcs : (rgs (ys ++ [r]) ++ jk).length = ((ys ++ [r]).length) * 2 + jk.length := by rw [List.length_append, hlen]
  have hix : ((((ys ++ [r]).length : Nat) : Int) - 1).toNat = ys.length := by omega
  refine Sp.of (n := 46) ⟨_, Tryd.func90, rfl, rfl, rfl, rfl⟩ (Nat.le_of_ble_eq_true rfl) fun Ps As => ?_
  refine WC_seq ?_
  refine WC_region ?_
  refine WL_q (q_assign rfl) (by decide) ?_
  refine WL_nil ?_
  refine thenN ?_
  refine WC_seq ?_
  refine WC_seq ?_
  refine WC_region ?_
  refine WL_q (q_move rfl) (by decide) ?_
  refine WL_q (q_move rfl) (by decide) ?_
  refine WL_q (q_geq rfl rfl) (by decide) ?_
  refine WL_nil ?_
  refine thenN ?_
  refine WC_false rfl (by simpa using h) ?_
  refine WC_skip ?_
  refine thenN ?_
  refine WC_seq ?_
  refine WC_seq ?_
  refine WC_region ?_
  refine WL_q (q_move rfl) (by decide) ?_
  refine WL_q (q_len Tryd.underlying29 rfl) (by decide) ?_
  refine WL_q (q_assign rfl) (by decide) ?_
  refine WL_nil ?_
  refine thenN ?_
  refine WC_seq ?_
  refine WC_region ?_
  refine WL_q (q_move rfl) (by decide) ?_
  refine WL_q (q_gtr rfl rfl) (by decide) ?_
  refine WL_q (q_move rfl) (by decide) ?_
  refine WL_gq rfl rfl rfl (by simp) (q_move rfl) (by decide) ?_
  refine WL_gq rfl rfl rfl (by simp) (q_move rfl) (by decide) ?_
  refine WL_gq rfl rfl rfl (by simp) (q_sub rfl rfl (wr64 (by omega))) (by decide) ?_
  refine WL_gq rfl rfl rfl (by simp) (q_idxOwn Tryd.underlying29 ti37 rfl rfl (by omega) (by omega)) (by decide) ?_
  refine WL_gq rfl rfl rfl (by simp) (q_field (o' := _ + 1) Tryd.underlying37 rfl ti3 rfl rfl) (by decide) ?_
  refine WL_gq rfl rfl rfl (by simp) (q_load1 Tryd.underlying3 rfl rfl own0 (by rw [hix]; exact rgs_last ys r jk)) (by decide) ?_
  refine WL_gq rfl rfl rfl (by simp) (q_move rfl) (by decide) ?_
  refine WL_gq rfl rfl rfl (by simp) (q_geq rfl rfl) (by decide) ?_
  refine WL_q (q_pickT rfl (by simp) rfl) (by decide) ?_
  refine WL_nil ?_
  refine thenN ?_
  refine WC_fr [(25, _), (7, _), (6, _), (0, _), (1, _), (2, _)] (.cons rfl (.cons rfl (.cons rfl (.cons rfl (.cons rfl (.cons rfl (.nil _))))))) ?_
  refine WC_false rfl (by simpa using hj) ?_
  refine WC_skip ?_
  refine thenN ?_
  refine WC_seq ?_
  refine WC_region ?_
  refine WL_q (q_move rfl) (by decide) ?_
  refine WL_q (q_move rfl) (by decide) ?_
  refine WL_q (q_move rfl) (by decide) ?_
  refine WL_q (q_build (.cons rfl (.cons rfl (.nil))) (bd37_0_1Xw3 _ _)) (by decide) ?_
  refine WL_main rfl (OW_slice1 (cs := [_, _]) Tryd.underlying29 ti37 (by decide) (by decide) rfl rfl rfl rfl (by decide) fun b44 => ?_)
  refine WL_main rfl (OW_append1 (news := [_, _]) Tryd.underlying29 ti37 rfl (by decide) rfl rfl hr0 own0 rfl rfl (by omega) (by unfold maxLen; omega) (by decide) (DelAt.perm (.s (.z))) fun v45 p45 hr45 => ?_)
  refine WL_q (q_assign rfl) (by decide) ?_
  refine WL_nil ?_
  refine thenN ?_
  refine WC_ret ?_
  refine ⟨_, [p45], [], fun Z w hs => .tmp rfl (.nil), ?_, fun Z w hs => hs.out (List.Sublist.cons_cons _ (List.Sublist.cons _ (List.Sublist.refl _))) (fun _ h => h)⟩
  exact ⟨p45, by rw [addF_more h hj, rgs_append (ys ++ [r]), rgs_one, List.length_append]; exact hr45, rfl, rfl⟩

theorem add_s (v : Value) (xs : List Rg) (p : Part) (lo hi : Int) (hr : Row 37 2 v xs.length (rgs xs) p) (hb : xs.length ≤ 1000000) : Sp Tryd.prog 90 [v, .int .i64 lo, .int .i64 hi] [p] [] (fun v' Lo fs => ∃ p', Row 37 2 v' (addF xs lo hi).length (rgs (addF xs lo hi)) p' ∧ Lo = [p'] ∧ fs = []) := by
  by_cases h : hi ≤ lo
  · exact add_1 v xs p lo hi hr h
  · rcases List.eq_nil_or_concat xs with rfl | ⟨ys, r, rfl⟩
    · exact add_2 v p lo hi hr h
    · rw [List.concat_eq_append] at *
      have hb' : ys.length ≤ 1000000 := by simp at hb; omega
      by_cases hj : lo ≤ r.hi
      · exact add_3 v ys r p lo hi hr hb' h hj
      · exact add_4 v ys r p lo hi hr hb' h hj
theorem bounded_1 (A : Option Addr) (c : Nat) (xs : List Rg) (h : xs.length > 32768) : Sp Tryd.prog 91 [.slice A xs.length c] [] [] (Is (.tuple #[.slice none 0 0, .int .i64 21])) := by
  have := bounded_s A c xs
  unfold bndV at this
  rwa [if_pos h] at this
theorem bounded_2 (A : Option Addr) (c : Nat) (xs : List Rg) (h : ¬ xs.length > 32768) : Sp Tryd.prog 91 [.slice A xs.length c] [] [] (Is (.tuple #[.slice A xs.length c, .int .i64 0])) := by
  have := bounded_s A c xs
  unfold bndV at this
  rwa [if_neg h] at this
end Go.Proofs.YtggdddkbhigjoaaDoor
