/- Walks: history, what it tells of itself. -/
import Derived.Test.YtggdddkbhigjoaaDoorWk
import Derived.Test.YtggdddkbhigjoaaDoorHi
set_option linter.unusedVariables false
set_option linter.unusedSimpArgs false
namespace Go.Proofs.YtggdddkbhigjoaaDoor
open Go Go.GW
theorem ops_len (H : Hist) : H.ops.length = H.ents.length := by simp [Hist.ops]
theorem ops_at {H : Hist} {k : Nat} (h : k < H.ents.length) : H.ops[k]'(by rw [ops_len]; exact h) = H.ents[k].op := by simp [Hist.ops]
theorem bd97_1Xw12 (x1_ : Option Nat) (w : World) : (Instr.build 97 #[(1, .map x1_)]).run Tryd.prog w = .ok (.agg #[.slice none 0 0, .map x1_, .int .i64 0]) w := by kernel_rfl

set_option maxRecDepth 10000 in
theorem new_s : Sp Tryd.prog 9 [] [] [] (fun v Lo fs => ∃ h m, v = .pointer (some ⟨h, 0, none⟩) ∧ Lo = [hdP h none 0 0 m 0, mpP m [], mkP []] ∧ fs = [RdF opD none 0 [], AllF ([] : List MR) nowF]) := by
  refine Sp.of (n := 4) ⟨_, Tryd.func9, rfl, rfl, rfl, rfl⟩ (Nat.le_of_ble_eq_true rfl) fun Ps As => ?_
  refine WC_seq ?_
  refine WC_region ?_
  refine WL_q (q_assign rfl) (by decide) ?_
  refine WL_nil ?_
  refine thenN ?_
  refine WC_seq ?_
  refine WC_nilPart ?_
  refine WC_fact (A := AllF ([] : List MR) nowF) (fun Z w hs x hx => by cases hx) ?_
  refine WC_fact (A := RdF opD none 0 []) (fun Z w hs => RdS.nil _ _ _) ?_
  refine WC_region ?_
  refine WL_main rfl (OW_makeMap (by decide) fun b1 => ?_)
  refine WL_q (q_build (.cons rfl (.nil)) (bd97_1Xw12 _)) (by decide) ?_
  refine WL_main rfl (OW_box (cs := [_, _, _]) rfl rfl (by decide) fun b3 => ?_)
  refine WL_q (q_assign rfl) (by decide) ?_
  refine WL_nil ?_
  refine thenN ?_
  refine WC_ret ?_
  refine ⟨_, [_, _, _], [_, _], fun Z w hs => .tmp rfl (.nil), ?_, fun Z w hs => hs.out (List.Sublist.cons_cons _ (List.Sublist.cons_cons _ (List.Sublist.cons_cons _ (List.Sublist.refl _)))) (fun _ h => h)⟩
  exact ⟨b3, b1, rfl, rfl, rfl⟩


set_option maxRecDepth 10000 in
theorem hlen_s (h m len cap : Nat) (A : Option Addr) (total : Int) : Sp Tryd.prog 13 [.pointer (some ⟨h, 0, none⟩)] [hdP h A len cap m total] [] (fun v Lo fs => v = .int .i64 len ∧ Lo = [hdP h A len cap m total] ∧ fs = []) := by
  refine Sp.of (n := 8) ⟨_, Tryd.func13, rfl, rfl, rfl, rfl⟩ (Nat.le_of_ble_eq_true rfl) fun Ps As => ?_
  refine WC_seq ?_
  refine WC_region ?_
  refine WL_q (q_assign rfl) (by decide) ?_
  refine WL_nil ?_
  refine thenN ?_
  refine WC_seq ?_
  refine WC_region ?_
  refine WL_q (q_move rfl) (by decide) ?_
  refine WL_q (q_nil rfl) (by decide) ?_
  refine WL_q (q_field (o' := 0) Tryd.underlying97 rfl ti45 rfl rfl) (by decide) ?_
  refine WL_q (q_load1 Tryd.underlying45 rfl rfl own0 rfl) (by decide) ?_
  refine WL_q (q_len Tryd.underlying45 rfl) (by decide) ?_
  refine WL_q (q_assign rfl) (by decide) ?_
  refine WL_nil ?_
  refine thenN ?_
  refine WC_ret ?_
  refine ⟨_, [_], [], fun Z w hs => .tmp rfl (.nil), ?_, fun Z w hs => hs.out (List.Sublist.cons_cons _ (List.Sublist.refl _)) (fun _ h => h)⟩
  exact ⟨rfl, rfl, rfl⟩


set_option maxRecDepth 10000 in
theorem htotal_s (h m len cap : Nat) (A : Option Addr) (total : Int) : Sp Tryd.prog 14 [.pointer (some ⟨h, 0, none⟩)] [hdP h A len cap m total] [] (fun v Lo fs => v = .int .i64 total ∧ Lo = [hdP h A len cap m total] ∧ fs = []) := by
  refine Sp.of (n := 7) ⟨_, Tryd.func14, rfl, rfl, rfl, rfl⟩ (Nat.le_of_ble_eq_true rfl) fun Ps As => ?_
  refine WC_seq ?_
  refine WC_region ?_
  refine WL_q (q_assign rfl) (by decide) ?_
  refine WL_nil ?_
  refine thenN ?_
  refine WC_seq ?_
  refine WC_region ?_
  refine WL_q (q_move rfl) (by decide) ?_
  refine WL_q (q_nil rfl) (by decide) ?_
  refine WL_q (q_field (o' := 2) Tryd.underlying97 rfl ti3 rfl rfl) (by decide) ?_
  refine WL_q (q_load1 Tryd.underlying3 rfl rfl own0 rfl) (by decide) ?_
  refine WL_q (q_assign rfl) (by decide) ?_
  refine WL_nil ?_
  refine thenN ?_
  refine WC_ret ?_
  refine ⟨_, [_], [], fun Z w hs => .tmp rfl (.nil), ?_, fun Z w hs => hs.out (List.Sublist.cons_cons _ (List.Sublist.refl _)) (fun _ h => h)⟩
  exact ⟨rfl, rfl, rfl⟩


set_option maxRecDepth 10000 in
theorem before_s (h m cap : Nat) (A : Option Addr) (H : Hist) (L : List MR) (hr : HR H L) (i : Nat) (hi : i ≤ H.ents.length) : Sp Tryd.prog 66 [.pointer (some ⟨h, 0, none⟩), .int .i64 i] [hdP h A H.ops.length cap m H.total] [barF, RdF opD A cap H.ops] (fun v Lo fs => v = .int .i64 (beforeF H i) ∧ Lo = [hdP h A H.ops.length cap m H.total] ∧ fs = []) := by
  have hol := ops_len H
  have hlen := hr.len
  refine Sp.of (n := 25) ⟨_, Tryd.func66, rfl, rfl, rfl, rfl⟩ (Nat.le_of_ble_eq_true rfl) fun Ps As => ?_
  refine WC_seq ?_
  refine WC_region ?_
  refine WL_q (q_assign rfl) (by decide) ?_
  refine WL_nil ?_
  refine thenN ?_
  refine WC_seq ?_
  refine WC_region ?_
  refine WL_q (q_assign rfl) (by decide) ?_
  refine WL_nil ?_
  refine thenN ?_
  refine WC_seq ?_
  refine WC_seq ?_
  refine WC_capLe (.tail _ (.head _)) fun hcap hcap2 => ?_
  obtain ⟨B, hB⟩ : ∃ B, B = cutA A 0 cap 9 := ⟨_, rfl⟩
  refine WC_fact (A := RdF opD B cap (H.ops.take i)) (fun Z w hs => by rw [hB]; exact RdS.cut (lo := 0) (hi := i) (m := cap) (hs.facts _ (.tail _ (.head _))) (Nat.zero_le _) (by omega) (by omega) (Nat.le_refl _)) ?_
  refine WC_region ?_
  refine WL_q (q_move rfl) (by decide) ?_
  refine WL_q (q_nil rfl) (by decide) ?_
  refine WL_q (q_field (o' := 0) Tryd.underlying97 rfl ti45 rfl rfl) (by decide) ?_
  refine WL_q (q_load1 Tryd.underlying45 rfl rfl own0 rfl) (by decide) ?_
  refine WL_q (q_move rfl) (by decide) ?_
  refine WL_q (q_cutHi Tryd.underlying45 ti31 rfl rfl (by omega) (by omega)) (by decide) ?_
  refine WL_q (q_len Tryd.underlying45 rfl) (by decide) ?_
  refine WL_q (q_move rfl) (by decide) ?_
  refine WL_nil ?_
  refine thenN ?_
  refine WC_block ?_
  refine WC_loopE (α := Nat) (fun k => i - k)
    (fun k => [(5, .int .i64 (sumW (H.ents.take k))), (13, .slice B i cap), (14, .int .i64 i), (15, .int .i64 k)])
    (fun k => (hdP h A H.ops.length cap m H.total :: Ps))
    (fun k => (RdF opD B cap (H.ops.take i) :: barF :: RdF opD A cap H.ops :: As))
    (fun k => k ≤ i)
    0 ?_ (.cons rfl (.cons (by rw [hB]; rfl) (.cons rfl (.cons rfl (.nil _))))) (List.Sublist.cons_cons _ (List.Sublist.refl _)) (fun _ h => h) ?_
  · exact Nat.zero_le _
  · rintro k hI
    refine WC_seq ?_
    refine WC_region ?_
    refine WL_q (q_lss rfl rfl) (by decide) ?_
    refine WL_nil ?_
    refine thenN ?_
    refine WC_seq ?_
    refine WC_cond rfl (fun h16 => ?_) (fun h16 => ?_)
    · refine WC_skip ?_
      refine thenN ?_
      refine WC_seq ?_
      refine WC_block ?_
      refine WC_seq ?_
      try simp only [decide_eq_true_eq, decide_eq_false_iff_not, beq_iff_eq, bne_iff_ne, beq_eq_false_iff_ne, ne_eq, Bool.and_eq_true, Bool.not_eq_true', Bool.not_eq_false', Bool.not_eq_true, Bool.not_eq_false, bne_eq_false_iff_eq, Bool.and_eq_false_iff] at *
      have hk : k < (H.ops.take i).length := by rw [List.length_take]; omega
      have hke : k < H.ents.length := by rw [List.length_take] at hk; omega
      have hop : (H.ops.take i)[k] = H.ents[k].op := by rw [List.getElem_take, ops_at]
      refine WC_elem (k := k) (.head _) (List.getElem?_eq_getElem hk) (op_open _) fun b4 q4 y4 e4 => ?_
      cases e4
      refine WC_region ?_
      refine WL_q (q_idxRd Tryd.underlying45 ti31 rfl rfl (by omega) (by omega)) (by decide) ?_
      refine WL_q (q_loadFN (k := 0) (vs := [_, _, _, _, _, _, _, _, _]) Tryd.underlying31 rfl ti31 rfl (.head _) rfl rfl rfl) (by decide) ?_
      refine WL_main rfl (OW_alloc (cs := [_, _, _, _, _, _, _, _, _]) ti31 rfl (by decide) fun b7 => ?_)
      refine WL_main rfl (OW_storeN (cs' := [_, _, _, _, _, _, _, _, _]) (vs := [_, _, _, _, _, _, _, _, _]) ti31 rfl rfl rfl rfl rfl (Nat.le_of_ble_eq_true rfl) (.z) ?_)
      refine WL_nil ?_
      refine thenN ?_
      refine WC_region ?_
      refine WL_q (q_move rfl) (by decide) ?_
      refine WL_q (q_loadN (vs := [_, _, _, _, _, _, _, _, _]) Tryd.underlying31 rfl ti31 rfl own0 rfl rfl) (by decide) ?_
      refine WL_main rfl (OW_call0 (width_s (H.ops.take i)[k] y4.1 y4.2 (by have := (hr.fit _ (List.getElem_mem hke)).text; rw [hop]; omega)) (.cons rfl (.nil)) (by decide) (memc (.tail _ (.tail _ (.tail _ (.head _)))) mem0) fun u5_2 Lo fs hres => ?_)
      obtain ⟨rfl, rfl, rfl⟩ := hres
      refine WL_q (q_add rfl rfl (wr64 (by have h1 := sumW_le (H.ents.take k) (fun e he => hr.wid e (List.mem_of_mem_take he)); have h2 := hr.wid _ (List.getElem_mem hke); have h3 := widthF_le (H.ops.take i)[k]; rw [hop] at h3; rw [hop]; rw [List.length_take] at h1; omega))) (by decide) ?_
      refine WL_q (q_assign rfl) (by decide) ?_
      refine WL_nil ?_
      refine blockN ?_
      refine thenN ?_
      refine WC_region ?_
      refine WL_q (q_add rfl rfl (wr64 (by omega))) (by decide) ?_
      refine WL_q (q_move rfl) (by decide) ?_
      refine WL_nil ?_
      refine thenK ?_
      have hsum : sumW (H.ents.take k) + widthF (H.ops.take i)[k] = sumW (H.ents.take (k + 1)) := by
        rw [List.take_succ_eq_append_getElem hke, sumW_append, hop]; simp [sumW]
      refine ⟨k + 1, ?_, (.cons (congrArg (fun z => some (Value.int .i64 z)) hsum) (.cons rfl (.cons rfl (.cons rfl (.nil _))))), (List.Sublist.cons _ (List.Sublist.cons_cons _ (List.Sublist.refl _))), (fun _ h => .tail _ (.tail _ h))⟩
      exact ⟨by omega, by omega⟩
    · refine WC_exit ?_
      refine thenExit ?_
      refine thenExit ?_
      refine blockHit ?_
      refine thenN ?_
      refine WC_seq ?_
      refine WC_region ?_
      refine WL_q (q_move rfl) (by decide) ?_
      refine WL_q (q_assign rfl) (by decide) ?_
      refine WL_nil ?_
      refine thenN ?_
      refine WC_ret ?_
      try simp only [decide_eq_true_eq, decide_eq_false_iff_not, beq_iff_eq, bne_iff_ne, beq_eq_false_iff_ne, ne_eq, Bool.and_eq_true, Bool.not_eq_true', Bool.not_eq_false', Bool.not_eq_true, Bool.not_eq_false, bne_eq_false_iff_eq, Bool.and_eq_false_iff] at *
      obtain rfl : k = i := by omega
      refine ⟨_, [_], [], fun Z w hs => .tmp rfl (.nil), ?_, fun Z w hs => hs.out (List.Sublist.cons_cons _ (List.Sublist.refl _)) (fun _ h => .tail _ h)⟩
      exact ⟨rfl, rfl, rfl⟩

end Go.Proofs.YtggdddkbhigjoaaDoor
