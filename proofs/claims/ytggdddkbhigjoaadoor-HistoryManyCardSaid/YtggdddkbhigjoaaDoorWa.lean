/- Walks: right, outside, bounded, clash. -/
import Derived.Test.YtggdddkbhigjoaaDoorGo
set_option linter.unusedVariables false
set_option linter.unusedSimpArgs false
namespace Go.Proofs.YtggdddkbhigjoaaDoor
open Go Go.GW

set_option maxRecDepth 10000 in
theorem right_s (c n : Int) : Sp Tryd.prog 76 [.agg #[.int .i64 c, .int .i64 n]] [] [] (Is (.bool (decide (1 ≤ c ∧ c ≤ 8 ∧ 1 ≤ n ∧ n ≤ 1024)))) := by
  refine Sp.of (n := 21) ⟨_, Tryd.func76, rfl, rfl, rfl, rfl⟩ (Nat.le_of_ble_eq_true rfl) fun Ps As => ?_
  refine WC_seq ?_
  refine WC_region ?_
  refine WL_main rfl (OW_box (cs := [_, _]) rfl rfl (by decide) fun b1 => ?_)
  refine WL_q (q_assign rfl) (by decide) ?_
  refine WL_nil ?_
  refine thenN ?_
  refine WC_seq ?_
  refine WC_region ?_
  refine WL_q (q_idxA (o' := 0) Tryd.underlying25 ti3 rfl rfl (by decide) (by decide) rfl) (by decide) ?_
  refine WL_q (q_load1 Tryd.underlying3 rfl rfl own0 rfl) (by decide) ?_
  refine WL_q (q_geq rfl rfl) (by decide) ?_
  refine WL_q (q_move rfl) (by decide) ?_
  refine WL_guard (t := 6) rfl (fun g6 => ?_) (fun g6 => ?_)
  · refine WL_gq rfl rfl rfl g6 (q_idxA (o' := 0) Tryd.underlying25 ti3 rfl rfl (by decide) (by decide) rfl) (by decide) ?_
    refine WL_gq rfl rfl rfl g6 (q_load1 Tryd.underlying3 rfl rfl own0 rfl) (by decide) ?_
    refine WL_gq rfl rfl rfl g6 (q_leq rfl rfl) (by decide) ?_
    refine WL_q (q_pickT rfl g6 rfl) (by decide) ?_
    refine WL_q (q_move rfl) (by decide) ?_
    refine WL_guard (t := 11) rfl (fun g11 => ?_) (fun g11 => ?_)
    · refine WL_gq rfl rfl rfl g11 (q_idxA (o' := 1) Tryd.underlying25 ti3 rfl rfl (by decide) (by decide) rfl) (by decide) ?_
      refine WL_gq rfl rfl rfl g11 (q_load1 Tryd.underlying3 rfl rfl own0 rfl) (by decide) ?_
      refine WL_gq rfl rfl rfl g11 (q_geq rfl rfl) (by decide) ?_
      refine WL_q (q_pickT rfl g11 rfl) (by decide) ?_
      refine WL_q (q_move rfl) (by decide) ?_
      refine WL_guard (t := 16) rfl (fun g16 => ?_) (fun g16 => ?_)
      · refine WL_gq rfl rfl rfl g16 (q_idxA (o' := 1) Tryd.underlying25 ti3 rfl rfl (by decide) (by decide) rfl) (by decide) ?_
        refine WL_gq rfl rfl rfl g16 (q_load1 Tryd.underlying3 rfl rfl own0 rfl) (by decide) ?_
        refine WL_gq rfl rfl rfl g16 (q_leq rfl rfl) (by decide) ?_
        refine WL_q (q_pickT rfl g16 rfl) (by decide) ?_
        refine WL_q (q_assign rfl) (by decide) ?_
        refine WL_nil ?_
        refine thenN ?_
        refine WC_fr [(2, _)] (.cons rfl (.nil _)) ?_
        refine WC_ret ?_
        refine ⟨_, [], [], fun Z w hs => .tmp rfl (.nil), ?_, fun Z w hs => hs.out (List.Sublist.cons _ (List.Sublist.refl _)) (fun _ h => h)⟩
        try simp only [decide_eq_true_eq, decide_eq_false_iff_not, beq_iff_eq, bne_iff_ne, beq_eq_false_iff_ne, ne_eq, Bool.and_eq_true, Bool.not_eq_true', Bool.not_eq_false', Bool.not_eq_true, Bool.not_eq_false, bne_eq_false_iff_eq, Bool.and_eq_false_iff] at *
        exact ⟨congrArg Value.bool (by first | exact (decide_eq_true (by omega)).symm | exact (decide_eq_false (by omega)).symm | exact decide_eq_decide.2 (by omega) | (rw [Bool.eq_iff_iff]; simp; omega) | (rw [Bool.eq_iff_iff]; simp; done)), rfl, rfl⟩
      · refine WL_gno rfl rfl rfl g16 (by decide) ?_
        refine WL_gno rfl rfl rfl g16 (by decide) ?_
        refine WL_gno rfl rfl rfl g16 (by decide) ?_
        refine WL_q (q_pickF rfl g16 rfl) (by decide) ?_
        refine WL_q (q_assign rfl) (by decide) ?_
        refine WL_nil ?_
        refine thenN ?_
        refine WC_fr [(2, _)] (.cons rfl (.nil _)) ?_
        refine WC_ret ?_
        refine ⟨_, [], [], fun Z w hs => .tmp rfl (.nil), ?_, fun Z w hs => hs.out (List.Sublist.cons _ (List.Sublist.refl _)) (fun _ h => h)⟩
        try simp only [decide_eq_true_eq, decide_eq_false_iff_not, beq_iff_eq, bne_iff_ne, beq_eq_false_iff_ne, ne_eq, Bool.and_eq_true, Bool.not_eq_true', Bool.not_eq_false', Bool.not_eq_true, Bool.not_eq_false, bne_eq_false_iff_eq, Bool.and_eq_false_iff] at *
        exact ⟨congrArg Value.bool (by first | exact (decide_eq_true (by omega)).symm | exact (decide_eq_false (by omega)).symm | exact decide_eq_decide.2 (by omega) | (rw [Bool.eq_iff_iff]; simp; omega) | (rw [Bool.eq_iff_iff]; simp; done)), rfl, rfl⟩
    · refine WL_gno rfl rfl rfl g11 (by decide) ?_
      refine WL_gno rfl rfl rfl g11 (by decide) ?_
      refine WL_gno rfl rfl rfl g11 (by decide) ?_
      refine WL_q (q_pickF rfl g11 rfl) (by decide) ?_
      refine WL_q (q_move rfl) (by decide) ?_
      refine WL_gno rfl rfl rfl rfl (by decide) ?_
      refine WL_gno rfl rfl rfl rfl (by decide) ?_
      refine WL_gno rfl rfl rfl rfl (by decide) ?_
      refine WL_q (q_pickF rfl rfl rfl) (by decide) ?_
      refine WL_q (q_assign rfl) (by decide) ?_
      refine WL_nil ?_
      refine thenN ?_
      refine WC_fr [(2, _)] (.cons rfl (.nil _)) ?_
      refine WC_ret ?_
      refine ⟨_, [], [], fun Z w hs => .tmp rfl (.nil), ?_, fun Z w hs => hs.out (List.Sublist.cons _ (List.Sublist.refl _)) (fun _ h => h)⟩
      try simp only [decide_eq_true_eq, decide_eq_false_iff_not, beq_iff_eq, bne_iff_ne, beq_eq_false_iff_ne, ne_eq, Bool.and_eq_true, Bool.not_eq_true', Bool.not_eq_false', Bool.not_eq_true, Bool.not_eq_false, bne_eq_false_iff_eq, Bool.and_eq_false_iff] at *
      exact ⟨congrArg Value.bool (by first | exact (decide_eq_true (by omega)).symm | exact (decide_eq_false (by omega)).symm | exact decide_eq_decide.2 (by omega) | (rw [Bool.eq_iff_iff]; simp; omega) | (rw [Bool.eq_iff_iff]; simp; done)), rfl, rfl⟩
  · refine WL_gno rfl rfl rfl g6 (by decide) ?_
    refine WL_gno rfl rfl rfl g6 (by decide) ?_
    refine WL_gno rfl rfl rfl g6 (by decide) ?_
    refine WL_q (q_pickF rfl g6 rfl) (by decide) ?_
    refine WL_q (q_move rfl) (by decide) ?_
    refine WL_gno rfl rfl rfl rfl (by decide) ?_
    refine WL_gno rfl rfl rfl rfl (by decide) ?_
    refine WL_gno rfl rfl rfl rfl (by decide) ?_
    refine WL_q (q_pickF rfl rfl rfl) (by decide) ?_
    refine WL_q (q_move rfl) (by decide) ?_
    refine WL_gno rfl rfl rfl rfl (by decide) ?_
    refine WL_gno rfl rfl rfl rfl (by decide) ?_
    refine WL_gno rfl rfl rfl rfl (by decide) ?_
    refine WL_q (q_pickF rfl rfl rfl) (by decide) ?_
    refine WL_q (q_assign rfl) (by decide) ?_
    refine WL_nil ?_
    refine thenN ?_
    refine WC_fr [(2, _)] (.cons rfl (.nil _)) ?_
    refine WC_ret ?_
    refine ⟨_, [], [], fun Z w hs => .tmp rfl (.nil), ?_, fun Z w hs => hs.out (List.Sublist.cons _ (List.Sublist.refl _)) (fun _ h => h)⟩
    try simp only [decide_eq_true_eq, decide_eq_false_iff_not, beq_iff_eq, bne_iff_ne, beq_eq_false_iff_ne, ne_eq, Bool.and_eq_true, Bool.not_eq_true', Bool.not_eq_false', Bool.not_eq_true, Bool.not_eq_false, bne_eq_false_iff_eq, Bool.and_eq_false_iff] at *
    exact ⟨congrArg Value.bool (by first | exact (decide_eq_true (by omega)).symm | exact (decide_eq_false (by omega)).symm | exact decide_eq_decide.2 (by omega) | (rw [Bool.eq_iff_iff]; simp; omega) | (rw [Bool.eq_iff_iff]; simp; done)), rfl, rfl⟩


set_option maxRecDepth 10000 in
theorem outside_s (n : Int) : Sp Tryd.prog 89 [.int .i64 n] [] [] (Is (.bool (decide (n < 0 ∨ n > 1048576)))) := by
  refine Sp.of (n := 9) ⟨_, Tryd.func89, rfl, rfl, rfl, rfl⟩ (Nat.le_of_ble_eq_true rfl) fun Ps As => ?_
  refine WC_seq ?_
  refine WC_region ?_
  refine WL_q (q_assign rfl) (by decide) ?_
  refine WL_nil ?_
  refine thenN ?_
  refine WC_seq ?_
  refine WC_region ?_
  refine WL_q (q_move rfl) (by decide) ?_
  refine WL_q (q_lss rfl rfl) (by decide) ?_
  refine WL_q (q_move rfl) (by decide) ?_
  refine WL_guard (t := 5) rfl (fun g5 => ?_) (fun g5 => ?_)
  · refine WL_gno rfl rfl rfl g5 (by decide) ?_
    refine WL_gno rfl rfl rfl g5 (by decide) ?_
    refine WL_q (q_pickT rfl g5 rfl) (by decide) ?_
    refine WL_q (q_assign rfl) (by decide) ?_
    refine WL_nil ?_
    refine thenN ?_
    refine WC_ret ?_
    refine ⟨_, [], [], fun Z w hs => .tmp rfl (.nil), ?_, fun Z w hs => hs.out (List.Sublist.refl _) (fun _ h => h)⟩
    try simp only [decide_eq_true_eq, decide_eq_false_iff_not, beq_iff_eq, bne_iff_ne, beq_eq_false_iff_ne, ne_eq, Bool.and_eq_true, Bool.not_eq_true', Bool.not_eq_false', Bool.not_eq_true, Bool.not_eq_false, bne_eq_false_iff_eq, Bool.and_eq_false_iff] at *
    exact ⟨congrArg Value.bool (by first | exact (decide_eq_true (by omega)).symm | exact (decide_eq_false (by omega)).symm | exact decide_eq_decide.2 (by omega) | (rw [Bool.eq_iff_iff]; simp; omega) | (rw [Bool.eq_iff_iff]; simp; done)), rfl, rfl⟩
  · refine WL_gq rfl rfl rfl g5 (q_move rfl) (by decide) ?_
    refine WL_gq rfl rfl rfl g5 (q_gtr rfl rfl) (by decide) ?_
    refine WL_q (q_pickF rfl g5 rfl) (by decide) ?_
    refine WL_q (q_assign rfl) (by decide) ?_
    refine WL_nil ?_
    refine thenN ?_
    refine WC_ret ?_
    refine ⟨_, [], [], fun Z w hs => .tmp rfl (.nil), ?_, fun Z w hs => hs.out (List.Sublist.refl _) (fun _ h => h)⟩
    try simp only [decide_eq_true_eq, decide_eq_false_iff_not, beq_iff_eq, bne_iff_ne, beq_eq_false_iff_ne, ne_eq, Bool.and_eq_true, Bool.not_eq_true', Bool.not_eq_false', Bool.not_eq_true, Bool.not_eq_false, bne_eq_false_iff_eq, Bool.and_eq_false_iff] at *
    exact ⟨congrArg Value.bool (by first | exact (decide_eq_true (by omega)).symm | exact (decide_eq_false (by omega)).symm | exact decide_eq_decide.2 (by omega) | (rw [Bool.eq_iff_iff]; simp; omega) | (rw [Bool.eq_iff_iff]; simp; done)), rfl, rfl⟩

def bndV (A : Option Addr) (c : Nat) (xs : List Rg) : Value := if xs.length > 32768 then .tuple #[.slice none 0 0, .int .i64 21] else .tuple #[.slice A xs.length c, .int .i64 0]

set_option maxRecDepth 10000 in
theorem bounded_s (A : Option Addr) (c : Nat) (xs : List Rg) : Sp Tryd.prog 91 [.slice A xs.length c] [] [] (Is (bndV A c xs)) := by
  refine Sp.of (n := 8) ⟨_, Tryd.func91, rfl, rfl, rfl, rfl⟩ (Nat.le_of_ble_eq_true rfl) fun Ps As => ?_
  refine WC_seq ?_
  refine WC_region ?_
  refine WL_q (q_assign rfl) (by decide) ?_
  refine WL_q (q_assign rfl) (by decide) ?_
  refine WL_nil ?_
  refine thenN ?_
  refine WC_seq ?_
  refine WC_seq ?_
  refine WC_region ?_
  refine WL_q (q_move rfl) (by decide) ?_
  refine WL_q (q_len Tryd.underlying29 rfl) (by decide) ?_
  refine WL_q (q_gtr rfl rfl) (by decide) ?_
  refine WL_nil ?_
  refine thenN ?_
  refine WC_cond rfl (fun h6 => ?_) (fun h6 => ?_)
  · refine WC_seq ?_
    refine WC_region ?_
    refine WL_q (q_assign rfl) (by decide) ?_
    refine WL_q (q_assign rfl) (by decide) ?_
    refine WL_nil ?_
    refine thenN ?_
    refine WC_ret ?_
    refine thenRet ?_
    refine ⟨_, [], [], fun Z w hs => .tmp rfl (.tmp rfl (.nil)), ?_, fun Z w hs => hs.out (List.Sublist.refl _) (fun _ h => h)⟩
    try simp only [decide_eq_true_eq, decide_eq_false_iff_not, beq_iff_eq, bne_iff_ne, beq_eq_false_iff_ne, ne_eq, Bool.and_eq_true, Bool.not_eq_true', Bool.not_eq_false', Bool.not_eq_true, Bool.not_eq_false, bne_eq_false_iff_eq, Bool.and_eq_false_iff] at *
    unfold bndV
    first | (rw [if_pos (by omega)]; exact ⟨rfl, rfl, rfl⟩) | (rw [if_neg (by omega)]; exact ⟨rfl, rfl, rfl⟩)
  · refine WC_skip ?_
    refine thenN ?_
    refine WC_seq ?_
    refine WC_region ?_
    refine WL_q (q_move rfl) (by decide) ?_
    refine WL_q (q_assign rfl) (by decide) ?_
    refine WL_q (q_assign rfl) (by decide) ?_
    refine WL_nil ?_
    refine thenN ?_
    refine WC_ret ?_
    refine ⟨_, [], [], fun Z w hs => .tmp rfl (.tmp rfl (.nil)), ?_, fun Z w hs => hs.out (List.Sublist.refl _) (fun _ h => h)⟩
    try simp only [decide_eq_true_eq, decide_eq_false_iff_not, beq_iff_eq, bne_iff_ne, beq_eq_false_iff_ne, ne_eq, Bool.and_eq_true, Bool.not_eq_true', Bool.not_eq_false', Bool.not_eq_true, Bool.not_eq_false, bne_eq_false_iff_eq, Bool.and_eq_false_iff] at *
    unfold bndV
    first | (rw [if_pos (by omega)]; exact ⟨rfl, rfl, rfl⟩) | (rw [if_neg (by omega)]; exact ⟨rfl, rfl, rfl⟩)

theorem bd25Xw1  (w : World) : (Instr.build 25 #[]).run Tryd.prog w = .ok (.agg #[.int .i64 0, .int .i64 0]) w := by kernel_rfl

set_option maxRecDepth 10000 in
theorem clash_s (a b : GOp) (Aa Ab : Option Addr) (ca cb : Nat) : Sp Tryd.prog 70 [opV a Aa ca, opV b Ab cb] [] [] (Is (.bool (decide (a.c = b.c ∧ a.n = b.n ∧ ¬ (a.c = 0 ∧ a.n = 0))))) := by
  refine Sp.of (n := 19) ⟨_, Tryd.func70, rfl, rfl, rfl, rfl⟩ (Nat.le_of_ble_eq_true rfl) fun Ps As => ?_
  refine WC_seq ?_
  refine WC_region ?_
  refine WL_main rfl (OW_box (cs := [_, _, _, _, _, _, _, _, _]) rfl rfl (by decide) fun b2 => ?_)
  refine WL_main rfl (OW_box (cs := [_, _, _, _, _, _, _, _, _]) rfl rfl (by decide) fun b3 => ?_)
  refine WL_q (q_assign rfl) (by decide) ?_
  refine WL_nil ?_
  refine thenN ?_
  refine WC_seq ?_
  refine WC_region ?_
  refine WL_q (q_field (o' := 0) Tryd.underlying31 rfl ti28 rfl rfl) (by decide) ?_
  refine WL_q (q_field (o' := 0) Tryd.underlying28 rfl ti25 rfl rfl) (by decide) ?_
  refine WL_q (q_loadN (vs := [_, _]) Tryd.underlying25 rfl ti25 rfl (ownS (own0)) rfl rfl) (by decide) ?_
  refine WL_q (q_field (o' := 0) Tryd.underlying31 rfl ti28 rfl rfl) (by decide) ?_
  refine WL_q (q_field (o' := 0) Tryd.underlying28 rfl ti25 rfl rfl) (by decide) ?_
  refine WL_q (q_loadN (vs := [_, _]) Tryd.underlying25 rfl ti25 rfl own0 rfl rfl) (by decide) ?_
  refine WL_q (q_aggeql rfl rfl (eq25 _ _ _ _)) (by decide) ?_
  refine WL_q (q_move rfl) (by decide) ?_
  refine WL_guard (t := 12) rfl (fun g12 => ?_) (fun g12 => ?_)
  · refine WL_gq rfl rfl rfl g12 (q_field (o' := 0) Tryd.underlying31 rfl ti28 rfl rfl) (by decide) ?_
    refine WL_gq rfl rfl rfl g12 (q_field (o' := 0) Tryd.underlying28 rfl ti25 rfl rfl) (by decide) ?_
    refine WL_gq rfl rfl rfl g12 (q_loadN (vs := [_, _]) Tryd.underlying25 rfl ti25 rfl (ownS (own0)) rfl rfl) (by decide) ?_
    refine WL_gq rfl rfl rfl g12 (q_build (.nil) (bd25Xw1)) (by decide) ?_
    refine WL_gq rfl rfl rfl g12 (q_aggneq rfl rfl (eq25 _ _ _ _)) (by decide) ?_
    refine WL_q (q_pickT rfl g12 rfl) (by decide) ?_
    refine WL_q (q_assign rfl) (by decide) ?_
    refine WL_nil ?_
    refine thenN ?_
    refine WC_fr [(4, _)] (.cons rfl (.nil _)) ?_
    refine WC_ret ?_
    refine ⟨_, [], [], fun Z w hs => .tmp rfl (.nil), ?_, fun Z w hs => hs.out (List.Sublist.cons _ (List.Sublist.cons _ (List.Sublist.refl _))) (fun _ h => h)⟩
    try simp only [decide_eq_true_eq, decide_eq_false_iff_not, beq_iff_eq, bne_iff_ne, beq_eq_false_iff_ne, ne_eq, Bool.and_eq_true, Bool.not_eq_true', Bool.not_eq_false', Bool.not_eq_true, Bool.not_eq_false, bne_eq_false_iff_eq, Bool.and_eq_false_iff] at *
    exact ⟨congrArg Value.bool (by first | exact (decide_eq_true (by omega)).symm | exact (decide_eq_false (by omega)).symm | exact decide_eq_decide.2 (by omega) | (rw [Bool.eq_iff_iff]; simp; omega) | (rw [Bool.eq_iff_iff]; simp; done)), rfl, rfl⟩
  · refine WL_gno rfl rfl rfl g12 (by decide) ?_
    refine WL_gno rfl rfl rfl g12 (by decide) ?_
    refine WL_gno rfl rfl rfl g12 (by decide) ?_
    refine WL_gno rfl rfl rfl g12 (by decide) ?_
    refine WL_gno rfl rfl rfl g12 (by decide) ?_
    refine WL_q (q_pickF rfl g12 rfl) (by decide) ?_
    refine WL_q (q_assign rfl) (by decide) ?_
    refine WL_nil ?_
    refine thenN ?_
    refine WC_fr [(4, _)] (.cons rfl (.nil _)) ?_
    refine WC_ret ?_
    refine ⟨_, [], [], fun Z w hs => .tmp rfl (.nil), ?_, fun Z w hs => hs.out (List.Sublist.cons _ (List.Sublist.cons _ (List.Sublist.refl _))) (fun _ h => h)⟩
    try simp only [decide_eq_true_eq, decide_eq_false_iff_not, beq_iff_eq, bne_iff_ne, beq_eq_false_iff_ne, ne_eq, Bool.and_eq_true, Bool.not_eq_true', Bool.not_eq_false', Bool.not_eq_true, Bool.not_eq_false, bne_eq_false_iff_eq, Bool.and_eq_false_iff] at *
    exact ⟨congrArg Value.bool (by first | exact (decide_eq_true (by omega)).symm | exact (decide_eq_false (by omega)).symm | exact decide_eq_decide.2 (by omega) | (rw [Bool.eq_iff_iff]; simp; omega) | (rw [Bool.eq_iff_iff]; simp; done)), rfl, rfl⟩

end Go.Proofs.YtggdddkbhigjoaaDoor
