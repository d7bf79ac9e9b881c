/- Walks: op. -/
import Derived.Test.YtggdddkbhigjoaaDoorWg
import Derived.Test.YtggdddkbhigjoaaDoorOp
set_option linter.unusedVariables false
set_option linter.unusedSimpArgs false
namespace Go.Proofs.YtggdddkbhigjoaaDoor
open Go Go.GW

set_option maxRecDepth 10000 in
theorem width_s (o : GOp) (A : Option Addr) (c : Nat) (hs : o.text.size ≤ 4611686018427387904) : Sp Tryd.prog 42 [opV o A c] [] [barF] (Is (.int .i64 (widthF o))) := by
  refine Sp.of (n := 18) ⟨_, Tryd.func42, rfl, rfl, rfl, rfl⟩ (Nat.le_of_ble_eq_true rfl) fun Ps As => ?_
  refine WC_seq ?_
  refine WC_region ?_
  refine WL_main rfl (OW_box (cs := [_, _, _, _, _, _, _, _, _]) rfl rfl (by decide) fun b1 => ?_)
  refine WL_q (q_assign rfl) (by decide) ?_
  refine WL_nil ?_
  refine thenN ?_
  refine WC_seq ?_
  refine WC_seq ?_
  refine WC_region ?_
  refine WL_q (q_field (o' := 0) Tryd.underlying31 rfl ti28 rfl rfl) (by decide) ?_
  refine WL_q (q_field (o' := 2) Tryd.underlying28 rfl ti26 rfl rfl) (by decide) ?_
  refine WL_q (q_load1 Tryd.underlying26 rfl rfl own0 rfl) (by decide) ?_
  refine WL_q (q_neq rfl rfl) (by decide) ?_
  refine WL_nil ?_
  refine thenN ?_
  refine WC_cond rfl (fun h9 => ?_) (fun h9 => ?_)
  · refine WC_seq ?_
    refine WC_region ?_
    refine WL_q (q_assign rfl) (by decide) ?_
    refine WL_nil ?_
    refine thenN ?_
    refine WC_ret ?_
    refine thenRet ?_
    refine ⟨_, [], [], fun Z w hs => .tmp rfl (.nil), ?_, fun Z w hs => hs.out (List.Sublist.cons _ (List.Sublist.refl _)) (fun _ h => h)⟩
    try simp only [decide_eq_true_eq, decide_eq_false_iff_not, beq_iff_eq, bne_iff_ne, beq_eq_false_iff_ne, ne_eq, Bool.and_eq_true, Bool.not_eq_true', Bool.not_eq_false', Bool.not_eq_true, Bool.not_eq_false, bne_eq_false_iff_eq, Bool.and_eq_false_iff] at *
    exact ⟨congrArg (Value.int .i64) (by unfold widthF; first | (simp_all; done) | (simp_all; repeat' split; all_goals omega) | (repeat' split; all_goals first | rfl | omega)), rfl, rfl⟩
  · refine WC_skip ?_
    refine thenN ?_
    refine WC_seq ?_
    refine WC_region ?_
    refine WL_q (q_field (o' := 4) Tryd.underlying31 rfl ti9 rfl rfl) (by decide) ?_
    refine WL_q (q_load1 Tryd.underlying9 rfl rfl own0 rfl) (by decide) ?_
    refine WL_main rfl (OW_call0 (utCheck_s o.text hs) (.cons rfl (.nil)) (by decide) (memc (.head _) mem0) fun u3_2 Lo fs hres => ?_)
    obtain ⟨rfl, rfl, rfl⟩ := hres
    refine WL_q (q_move rfl) (by decide) ?_
    refine WL_q (q_extract (vs := [_, _, _]) rfl rfl) (by decide) ?_
    refine WL_q (q_extract (vs := [_, _, _]) rfl rfl) (by decide) ?_
    refine WL_q (q_extract (vs := [_, _, _]) rfl rfl) (by decide) ?_
    refine WL_q (q_assign rfl) (by decide) ?_
    refine WL_q (q_assign rfl) (by decide) ?_
    refine WL_q (q_assign rfl) (by decide) ?_
    refine WL_nil ?_
    refine thenN ?_
    refine WC_fr [(3, _), (2, _)] (.cons rfl (.cons rfl (.nil _))) ?_
    refine WC_seq ?_
    refine WC_region ?_
    refine WL_q (q_move rfl) (by decide) ?_
    refine WL_q (q_assign rfl) (by decide) ?_
    refine WL_nil ?_
    refine thenN ?_
    refine WC_ret ?_
    refine ⟨_, [], [], fun Z w hs => .tmp rfl (.nil), ?_, fun Z w hs => hs.out (List.Sublist.cons _ (List.Sublist.refl _)) (fun _ h => h)⟩
    try simp only [decide_eq_true_eq, decide_eq_false_iff_not, beq_iff_eq, bne_iff_ne, beq_eq_false_iff_ne, ne_eq, Bool.and_eq_true, Bool.not_eq_true', Bool.not_eq_false', Bool.not_eq_true, Bool.not_eq_false, bne_eq_false_iff_eq, Bool.and_eq_false_iff] at *
    exact ⟨congrArg (Value.int .i64) (by unfold widthF; first | (simp_all; done) | (simp_all; repeat' split; all_goals omega) | (repeat' split; all_goals first | rfl | omega)), rfl, rfl⟩

theorem bd25Xw8  (w : World) : (Instr.build 25 #[]).run Tryd.prog w = .ok (.agg #[.int .i64 0, .int .i64 0]) w := by kernel_rfl

set_option maxRecDepth 10000 in
theorem extra_s (o : GOp) (A : Option Addr) (c : Nat) : Sp Tryd.prog 77 [opV o A c] [] [] (Is (.bool (extraF o))) := by
  refine Sp.of (n := 56) ⟨_, Tryd.func77, rfl, rfl, rfl, rfl⟩ (Nat.le_of_ble_eq_true rfl) fun Ps As => ?_
  refine WC_seq ?_
  refine WC_region ?_
  refine WL_main rfl (OW_box (cs := [_, _, _, _, _, _, _, _, _]) rfl rfl (by decide) fun b1 => ?_)
  refine WL_q (q_assign rfl) (by decide) ?_
  refine WL_nil ?_
  refine thenN ?_
  refine WC_seq ?_
  refine WC_region ?_
  refine WL_q (q_field (o' := 0) Tryd.underlying31 rfl ti28 rfl rfl) (by decide) ?_
  refine WL_q (q_field (o' := 2) Tryd.underlying28 rfl ti26 rfl rfl) (by decide) ?_
  refine WL_q (q_load1 Tryd.underlying26 rfl rfl own0 rfl) (by decide) ?_
  refine WL_q (q_eql rfl rfl) (by decide) ?_
  refine WL_q (q_assign rfl) (by decide) ?_
  refine WL_nil ?_
  refine thenN ?_
  refine WC_seq ?_
  refine WC_region ?_
  refine WL_q (q_field (o' := 0) Tryd.underlying31 rfl ti28 rfl rfl) (by decide) ?_
  refine WL_q (q_field (o' := 2) Tryd.underlying28 rfl ti26 rfl rfl) (by decide) ?_
  refine WL_q (q_load1 Tryd.underlying26 rfl rfl own0 rfl) (by decide) ?_
  refine WL_q (q_eql rfl rfl) (by decide) ?_
  refine WL_q (q_move rfl) (by decide) ?_
  refine WL_guard (t := 14) rfl (fun g14 => ?_) (fun g14 => ?_)
  · refine WL_gno rfl rfl rfl g14 (by decide) ?_
    refine WL_gno rfl rfl rfl g14 (by decide) ?_
    refine WL_gno rfl rfl rfl g14 (by decide) ?_
    refine WL_gno rfl rfl rfl g14 (by decide) ?_
    refine WL_q (q_pickT rfl g14 rfl) (by decide) ?_
    refine WL_q (q_assign rfl) (by decide) ?_
    refine WL_nil ?_
    refine thenN ?_
    refine WC_fr [(4, _), (3, _), (2, _), (1, _)] (.cons rfl (.cons rfl (.cons rfl (.cons rfl (.nil _))))) ?_
    refine WC_seq ?_
    refine WC_region ?_
    refine WL_q (q_field (o' := 0) Tryd.underlying31 rfl ti28 rfl rfl) (by decide) ?_
    refine WL_q (q_field (o' := 2) Tryd.underlying28 rfl ti26 rfl rfl) (by decide) ?_
    refine WL_q (q_load1 Tryd.underlying26 rfl rfl own0 rfl) (by decide) ?_
    refine WL_q (q_eql rfl rfl) (by decide) ?_
    refine WL_q (q_assign rfl) (by decide) ?_
    refine WL_nil ?_
    refine thenN ?_
    refine WC_seq ?_
    refine WC_seq ?_
    refine WC_region ?_
    refine WL_q (q_move rfl) (by decide) ?_
    refine WL_q (q_not rfl) (by decide) ?_
    refine WL_q (q_move rfl) (by decide) ?_
    refine WL_guard (t := 26) rfl (fun g26 => ?_) (fun g26 => ?_)
    · refine WL_gq rfl rfl rfl g26 (q_field (o' := 3) Tryd.underlying31 rfl ti3 rfl rfl) (by decide) ?_
      refine WL_gq rfl rfl rfl g26 (q_load1 Tryd.underlying3 rfl rfl own0 rfl) (by decide) ?_
      refine WL_gq rfl rfl rfl g26 (q_neq rfl rfl) (by decide) ?_
      refine WL_gq rfl rfl rfl g26 (q_move rfl) (by decide) ?_
      refine WL_guard (t := 30) rfl (fun g30 => ?_) (fun g30 => ?_)
      · refine WL_gno rfl rfl rfl g30 (by decide) ?_
        refine WL_gno rfl rfl rfl g30 (by decide) ?_
        refine WL_gno rfl rfl rfl g30 (by decide) ?_
        refine WL_gq rfl rfl rfl g26 (q_pickT rfl g30 rfl) (by decide) ?_
        refine WL_q (q_pickT rfl g26 rfl) (by decide) ?_
        refine WL_nil ?_
        refine thenN ?_
        refine WC_fr [(35, _), (5, _), (4, _), (2, _), (1, _)] (.cons rfl (.cons rfl (.cons rfl (.cons rfl (.cons rfl (.nil _)))))) ?_
        refine WC_true rfl rfl ?_
        refine WC_seq ?_
        refine WC_region ?_
        refine WL_q (q_assign rfl) (by decide) ?_
        refine WL_nil ?_
        refine thenN ?_
        refine WC_ret ?_
        refine thenRet ?_
        refine ⟨_, [], [], fun Z w hs => .tmp rfl (.nil), ?_, fun Z w hs => hs.out (List.Sublist.cons _ (List.Sublist.refl _)) (fun _ h => h)⟩
        try simp only [decide_eq_true_eq, decide_eq_false_iff_not, beq_iff_eq, bne_iff_ne, beq_eq_false_iff_ne, ne_eq, Bool.and_eq_true, Bool.not_eq_true', Bool.not_eq_false', Bool.not_eq_true, Bool.not_eq_false, bne_eq_false_iff_eq, Bool.and_eq_false_iff] at *
        exact ⟨congrArg (Value.bool) (by unfold extraF; first | (simp_all; done) | (simp_all; repeat' split; all_goals omega) | (repeat' split; all_goals first | rfl | omega)), rfl, rfl⟩
      · refine WL_gq rfl rfl rfl g30 (q_field (o' := 4) Tryd.underlying31 rfl ti9 rfl rfl) (by decide) ?_
        refine WL_gq rfl rfl rfl g30 (q_load1 Tryd.underlying9 rfl rfl own0 rfl) (by decide) ?_
        refine WL_gq rfl rfl rfl g30 (q_sneq rfl rfl) (by decide) ?_
        refine WL_gq rfl rfl rfl g26 (q_pickF rfl g30 rfl) (by decide) ?_
        refine WL_q (q_pickT rfl g26 rfl) (by decide) ?_
        refine WL_nil ?_
        refine thenN ?_
        refine WC_fr [(35, _), (5, _), (4, _), (2, _), (1, _)] (.cons rfl (.cons rfl (.cons rfl (.cons rfl (.cons rfl (.nil _)))))) ?_
        refine WC_cond rfl (fun h35 => ?_) (fun h35 => ?_)
        · refine WC_seq ?_
          refine WC_region ?_
          refine WL_q (q_assign rfl) (by decide) ?_
          refine WL_nil ?_
          refine thenN ?_
          refine WC_ret ?_
          refine thenRet ?_
          refine ⟨_, [], [], fun Z w hs => .tmp rfl (.nil), ?_, fun Z w hs => hs.out (List.Sublist.cons _ (List.Sublist.refl _)) (fun _ h => h)⟩
          try simp only [decide_eq_true_eq, decide_eq_false_iff_not, beq_iff_eq, bne_iff_ne, beq_eq_false_iff_ne, ne_eq, Bool.and_eq_true, Bool.not_eq_true', Bool.not_eq_false', Bool.not_eq_true, Bool.not_eq_false, bne_eq_false_iff_eq, Bool.and_eq_false_iff] at *
          exact ⟨congrArg (Value.bool) (by unfold extraF; first | (simp_all; done) | (simp_all; repeat' split; all_goals omega) | (repeat' split; all_goals first | rfl | omega)), rfl, rfl⟩
        · refine WC_skip ?_
          refine thenN ?_
          refine WC_seq ?_
          refine WC_seq ?_
          refine WC_region ?_
          refine WL_q (q_move rfl) (by decide) ?_
          refine WL_q (q_not rfl) (by decide) ?_
          refine WL_q (q_move rfl) (by decide) ?_
          refine WL_gno rfl rfl rfl rfl (by decide) ?_
          refine WL_gno rfl rfl rfl rfl (by decide) ?_
          refine WL_gno rfl rfl rfl rfl (by decide) ?_
          refine WL_gno rfl rfl rfl rfl (by decide) ?_
          refine WL_q (q_pickF rfl rfl rfl) (by decide) ?_
          refine WL_nil ?_
          refine thenN ?_
          refine WC_false rfl rfl ?_
          refine WC_skip ?_
          refine thenN ?_
          refine WC_seq ?_
          refine WC_region ?_
          refine WL_q (q_move rfl) (by decide) ?_
          refine WL_q (q_not rfl) (by decide) ?_
          refine WL_q (q_move rfl) (by decide) ?_
          refine WL_guard (t := 46) rfl (fun g46 => ?_) (fun g46 => ?_)
          · refine WL_gq rfl rfl rfl g46 (q_field (o' := 6) Tryd.underlying31 rfl ti25 rfl rfl) (by decide) ?_
            refine WL_gq rfl rfl rfl g46 (q_loadN (vs := [_, _]) Tryd.underlying25 rfl ti25 rfl own0 rfl rfl) (by decide) ?_
            refine WL_gq rfl rfl rfl g46 (q_build (.nil) (bd25Xw8)) (by decide) ?_
            refine WL_gq rfl rfl rfl g46 (q_aggneq rfl rfl (eq25 _ _ _ _)) (by decide) ?_
            refine WL_gq rfl rfl rfl g46 (q_move rfl) (by decide) ?_
            refine WL_guard (t := 51) rfl (fun g51 => ?_) (fun g51 => ?_)
            · refine WL_gno rfl rfl rfl g51 (by decide) ?_
              refine WL_gno rfl rfl rfl g51 (by decide) ?_
              refine WL_gq rfl rfl rfl g46 (q_pickT rfl g51 rfl) (by decide) ?_
              refine WL_q (q_pickT rfl g46 rfl) (by decide) ?_
              refine WL_q (q_assign rfl) (by decide) ?_
              refine WL_nil ?_
              refine thenN ?_
              refine WC_fr [(2, _)] (.cons rfl (.nil _)) ?_
              refine WC_ret ?_
              refine ⟨_, [], [], fun Z w hs => .tmp rfl (.nil), ?_, fun Z w hs => hs.out (List.Sublist.cons _ (List.Sublist.refl _)) (fun _ h => h)⟩
              try simp only [decide_eq_true_eq, decide_eq_false_iff_not, beq_iff_eq, bne_iff_ne, beq_eq_false_iff_ne, ne_eq, Bool.and_eq_true, Bool.not_eq_true', Bool.not_eq_false', Bool.not_eq_true, Bool.not_eq_false, bne_eq_false_iff_eq, Bool.and_eq_false_iff] at *
              exact ⟨congrArg (Value.bool) (by unfold extraF; first | (simp_all; done) | (simp_all; repeat' split; all_goals omega) | (repeat' split; all_goals first | rfl | omega)), rfl, rfl⟩
            · refine WL_gq rfl rfl rfl g51 (q_field (o' := 8) Tryd.underlying31 rfl ti4 rfl rfl) (by decide) ?_
              refine WL_gq rfl rfl rfl g51 (q_load1 Tryd.underlying4 rfl rfl own0 rfl) (by decide) ?_
              refine WL_gq rfl rfl rfl g46 (q_pickF rfl g51 rfl) (by decide) ?_
              refine WL_q (q_pickT rfl g46 rfl) (by decide) ?_
              refine WL_q (q_assign rfl) (by decide) ?_
              refine WL_nil ?_
              refine thenN ?_
              refine WC_fr [(2, _)] (.cons rfl (.nil _)) ?_
              refine WC_ret ?_
              refine ⟨_, [], [], fun Z w hs => .tmp rfl (.nil), ?_, fun Z w hs => hs.out (List.Sublist.cons _ (List.Sublist.refl _)) (fun _ h => h)⟩
              try simp only [decide_eq_true_eq, decide_eq_false_iff_not, beq_iff_eq, bne_iff_ne, beq_eq_false_iff_ne, ne_eq, Bool.and_eq_true, Bool.not_eq_true', Bool.not_eq_false', Bool.not_eq_true, Bool.not_eq_false, bne_eq_false_iff_eq, Bool.and_eq_false_iff] at *
              exact ⟨congrArg (Value.bool) (by unfold extraF; first | (simp_all; done) | (simp_all; repeat' split; all_goals omega) | (repeat' split; all_goals first | rfl | omega)), rfl, rfl⟩
          · refine WL_gno rfl rfl rfl g46 (by decide) ?_
            refine WL_gno rfl rfl rfl g46 (by decide) ?_
            refine WL_gno rfl rfl rfl g46 (by decide) ?_
            refine WL_gno rfl rfl rfl g46 (by decide) ?_
            refine WL_gno rfl rfl rfl g46 (by decide) ?_
            refine WL_gun rfl rfl rfl (by decide) ?_
            refine WL_gun rfl rfl rfl (by decide) ?_
            refine WL_gno rfl rfl rfl g46 (by decide) ?_
            refine WL_q (q_pickF rfl g46 rfl) (by decide) ?_
            refine WL_q (q_assign rfl) (by decide) ?_
            refine WL_nil ?_
            refine thenN ?_
            refine WC_fr [(2, _)] (.cons rfl (.nil _)) ?_
            refine WC_ret ?_
            refine ⟨_, [], [], fun Z w hs => .tmp rfl (.nil), ?_, fun Z w hs => hs.out (List.Sublist.cons _ (List.Sublist.refl _)) (fun _ h => h)⟩
            try simp only [decide_eq_true_eq, decide_eq_false_iff_not, beq_iff_eq, bne_iff_ne, beq_eq_false_iff_ne, ne_eq, Bool.and_eq_true, Bool.not_eq_true', Bool.not_eq_false', Bool.not_eq_true, Bool.not_eq_false, bne_eq_false_iff_eq, Bool.and_eq_false_iff] at *
            exact ⟨congrArg (Value.bool) (by unfold extraF; first | (simp_all; done) | (simp_all; repeat' split; all_goals omega) | (repeat' split; all_goals first | rfl | omega)), rfl, rfl⟩
    · refine WL_gno rfl rfl rfl g26 (by decide) ?_
      refine WL_gno rfl rfl rfl g26 (by decide) ?_
      refine WL_gno rfl rfl rfl g26 (by decide) ?_
      refine WL_gno rfl rfl rfl g26 (by decide) ?_
      refine WL_gun rfl rfl rfl (by decide) ?_
      refine WL_gun rfl rfl rfl (by decide) ?_
      refine WL_gun rfl rfl rfl (by decide) ?_
      refine WL_gno rfl rfl rfl g26 (by decide) ?_
      refine WL_q (q_pickF rfl g26 rfl) (by decide) ?_
      refine WL_nil ?_
      refine thenN ?_
      refine WC_fr [(35, _), (5, _), (4, _), (2, _), (1, _)] (.cons rfl (.cons rfl (.cons rfl (.cons rfl (.cons rfl (.nil _)))))) ?_
      refine WC_false rfl rfl ?_
      refine WC_skip ?_
      refine thenN ?_
      refine WC_seq ?_
      refine WC_seq ?_
      refine WC_region ?_
      refine WL_q (q_move rfl) (by decide) ?_
      refine WL_q (q_not rfl) (by decide) ?_
      refine WL_q (q_move rfl) (by decide) ?_
      refine WL_gno rfl rfl rfl rfl (by decide) ?_
      refine WL_gno rfl rfl rfl rfl (by decide) ?_
      refine WL_gno rfl rfl rfl rfl (by decide) ?_
      refine WL_gno rfl rfl rfl rfl (by decide) ?_
      refine WL_q (q_pickF rfl rfl rfl) (by decide) ?_
      refine WL_nil ?_
      refine thenN ?_
      refine WC_false rfl rfl ?_
      refine WC_skip ?_
      refine thenN ?_
      refine WC_seq ?_
      refine WC_region ?_
      refine WL_q (q_move rfl) (by decide) ?_
      refine WL_q (q_not rfl) (by decide) ?_
      refine WL_q (q_move rfl) (by decide) ?_
      refine WL_guard (t := 46) rfl (fun g46 => ?_) (fun g46 => ?_)
      · refine WL_gq rfl rfl rfl g46 (q_field (o' := 6) Tryd.underlying31 rfl ti25 rfl rfl) (by decide) ?_
        refine WL_gq rfl rfl rfl g46 (q_loadN (vs := [_, _]) Tryd.underlying25 rfl ti25 rfl own0 rfl rfl) (by decide) ?_
        refine WL_gq rfl rfl rfl g46 (q_build (.nil) (bd25Xw8)) (by decide) ?_
        refine WL_gq rfl rfl rfl g46 (q_aggneq rfl rfl (eq25 _ _ _ _)) (by decide) ?_
        refine WL_gq rfl rfl rfl g46 (q_move rfl) (by decide) ?_
        refine WL_guard (t := 51) rfl (fun g51 => ?_) (fun g51 => ?_)
        · refine WL_gno rfl rfl rfl g51 (by decide) ?_
          refine WL_gno rfl rfl rfl g51 (by decide) ?_
          refine WL_gq rfl rfl rfl g46 (q_pickT rfl g51 rfl) (by decide) ?_
          refine WL_q (q_pickT rfl g46 rfl) (by decide) ?_
          refine WL_q (q_assign rfl) (by decide) ?_
          refine WL_nil ?_
          refine thenN ?_
          refine WC_fr [(2, _)] (.cons rfl (.nil _)) ?_
          refine WC_ret ?_
          refine ⟨_, [], [], fun Z w hs => .tmp rfl (.nil), ?_, fun Z w hs => hs.out (List.Sublist.cons _ (List.Sublist.refl _)) (fun _ h => h)⟩
          try simp only [decide_eq_true_eq, decide_eq_false_iff_not, beq_iff_eq, bne_iff_ne, beq_eq_false_iff_ne, ne_eq, Bool.and_eq_true, Bool.not_eq_true', Bool.not_eq_false', Bool.not_eq_true, Bool.not_eq_false, bne_eq_false_iff_eq, Bool.and_eq_false_iff] at *
          exact ⟨congrArg (Value.bool) (by unfold extraF; first | (simp_all; done) | (simp_all; repeat' split; all_goals omega) | (repeat' split; all_goals first | rfl | omega)), rfl, rfl⟩
        · refine WL_gq rfl rfl rfl g51 (q_field (o' := 8) Tryd.underlying31 rfl ti4 rfl rfl) (by decide) ?_
          refine WL_gq rfl rfl rfl g51 (q_load1 Tryd.underlying4 rfl rfl own0 rfl) (by decide) ?_
          refine WL_gq rfl rfl rfl g46 (q_pickF rfl g51 rfl) (by decide) ?_
          refine WL_q (q_pickT rfl g46 rfl) (by decide) ?_
          refine WL_q (q_assign rfl) (by decide) ?_
          refine WL_nil ?_
          refine thenN ?_
          refine WC_fr [(2, _)] (.cons rfl (.nil _)) ?_
          refine WC_ret ?_
          refine ⟨_, [], [], fun Z w hs => .tmp rfl (.nil), ?_, fun Z w hs => hs.out (List.Sublist.cons _ (List.Sublist.refl _)) (fun _ h => h)⟩
          try simp only [decide_eq_true_eq, decide_eq_false_iff_not, beq_iff_eq, bne_iff_ne, beq_eq_false_iff_ne, ne_eq, Bool.and_eq_true, Bool.not_eq_true', Bool.not_eq_false', Bool.not_eq_true, Bool.not_eq_false, bne_eq_false_iff_eq, Bool.and_eq_false_iff] at *
          exact ⟨congrArg (Value.bool) (by unfold extraF; first | (simp_all; done) | (simp_all; repeat' split; all_goals omega) | (repeat' split; all_goals first | rfl | omega)), rfl, rfl⟩
      · refine WL_gno rfl rfl rfl g46 (by decide) ?_
        refine WL_gno rfl rfl rfl g46 (by decide) ?_
        refine WL_gno rfl rfl rfl g46 (by decide) ?_
        refine WL_gno rfl rfl rfl g46 (by decide) ?_
        refine WL_gno rfl rfl rfl g46 (by decide) ?_
        refine WL_gun rfl rfl rfl (by decide) ?_
        refine WL_gun rfl rfl rfl (by decide) ?_
        refine WL_gno rfl rfl rfl g46 (by decide) ?_
        refine WL_q (q_pickF rfl g46 rfl) (by decide) ?_
        refine WL_q (q_assign rfl) (by decide) ?_
        refine WL_nil ?_
        refine thenN ?_
        refine WC_fr [(2, _)] (.cons rfl (.nil _)) ?_
        refine WC_ret ?_
        refine ⟨_, [], [], fun Z w hs => .tmp rfl (.nil), ?_, fun Z w hs => hs.out (List.Sublist.cons _ (List.Sublist.refl _)) (fun _ h => h)⟩
        try simp only [decide_eq_true_eq, decide_eq_false_iff_not, beq_iff_eq, bne_iff_ne, beq_eq_false_iff_ne, ne_eq, Bool.and_eq_true, Bool.not_eq_true', Bool.not_eq_false', Bool.not_eq_true, Bool.not_eq_false, bne_eq_false_iff_eq, Bool.and_eq_false_iff] at *
        exact ⟨congrArg (Value.bool) (by unfold extraF; first | (simp_all; done) | (simp_all; repeat' split; all_goals omega) | (repeat' split; all_goals first | rfl | omega)), rfl, rfl⟩
  · refine WL_gq rfl rfl rfl g14 (q_field (o' := 0) Tryd.underlying31 rfl ti28 rfl rfl) (by decide) ?_
    refine WL_gq rfl rfl rfl g14 (q_field (o' := 2) Tryd.underlying28 rfl ti26 rfl rfl) (by decide) ?_
    refine WL_gq rfl rfl rfl g14 (q_load1 Tryd.underlying26 rfl rfl own0 rfl) (by decide) ?_
    refine WL_gq rfl rfl rfl g14 (q_eql rfl rfl) (by decide) ?_
    refine WL_q (q_pickF rfl g14 rfl) (by decide) ?_
    refine WL_q (q_assign rfl) (by decide) ?_
    refine WL_nil ?_
    refine thenN ?_
    refine WC_fr [(4, _), (3, _), (2, _), (1, _)] (.cons rfl (.cons rfl (.cons rfl (.cons rfl (.nil _))))) ?_
    refine WC_seq ?_
    refine WC_region ?_
    refine WL_q (q_field (o' := 0) Tryd.underlying31 rfl ti28 rfl rfl) (by decide) ?_
    refine WL_q (q_field (o' := 2) Tryd.underlying28 rfl ti26 rfl rfl) (by decide) ?_
    refine WL_q (q_load1 Tryd.underlying26 rfl rfl own0 rfl) (by decide) ?_
    refine WL_q (q_eql rfl rfl) (by decide) ?_
    refine WL_q (q_assign rfl) (by decide) ?_
    refine WL_nil ?_
    refine thenN ?_
    refine WC_seq ?_
    refine WC_seq ?_
    refine WC_region ?_
    refine WL_q (q_move rfl) (by decide) ?_
    refine WL_q (q_not rfl) (by decide) ?_
    refine WL_q (q_move rfl) (by decide) ?_
    refine WL_guard (t := 26) rfl (fun g26 => ?_) (fun g26 => ?_)
    · refine WL_gq rfl rfl rfl g26 (q_field (o' := 3) Tryd.underlying31 rfl ti3 rfl rfl) (by decide) ?_
      refine WL_gq rfl rfl rfl g26 (q_load1 Tryd.underlying3 rfl rfl own0 rfl) (by decide) ?_
      refine WL_gq rfl rfl rfl g26 (q_neq rfl rfl) (by decide) ?_
      refine WL_gq rfl rfl rfl g26 (q_move rfl) (by decide) ?_
      refine WL_guard (t := 30) rfl (fun g30 => ?_) (fun g30 => ?_)
      · refine WL_gno rfl rfl rfl g30 (by decide) ?_
        refine WL_gno rfl rfl rfl g30 (by decide) ?_
        refine WL_gno rfl rfl rfl g30 (by decide) ?_
        refine WL_gq rfl rfl rfl g26 (q_pickT rfl g30 rfl) (by decide) ?_
        refine WL_q (q_pickT rfl g26 rfl) (by decide) ?_
        refine WL_nil ?_
        refine thenN ?_
        refine WC_fr [(35, _), (5, _), (4, _), (2, _), (1, _)] (.cons rfl (.cons rfl (.cons rfl (.cons rfl (.cons rfl (.nil _)))))) ?_
        refine WC_true rfl rfl ?_
        refine WC_seq ?_
        refine WC_region ?_
        refine WL_q (q_assign rfl) (by decide) ?_
        refine WL_nil ?_
        refine thenN ?_
        refine WC_ret ?_
        refine thenRet ?_
        refine ⟨_, [], [], fun Z w hs => .tmp rfl (.nil), ?_, fun Z w hs => hs.out (List.Sublist.cons _ (List.Sublist.refl _)) (fun _ h => h)⟩
        try simp only [decide_eq_true_eq, decide_eq_false_iff_not, beq_iff_eq, bne_iff_ne, beq_eq_false_iff_ne, ne_eq, Bool.and_eq_true, Bool.not_eq_true', Bool.not_eq_false', Bool.not_eq_true, Bool.not_eq_false, bne_eq_false_iff_eq, Bool.and_eq_false_iff] at *
        exact ⟨congrArg (Value.bool) (by unfold extraF; first | (simp_all; done) | (simp_all; repeat' split; all_goals omega) | (repeat' split; all_goals first | rfl | omega)), rfl, rfl⟩
      · refine WL_gq rfl rfl rfl g30 (q_field (o' := 4) Tryd.underlying31 rfl ti9 rfl rfl) (by decide) ?_
        refine WL_gq rfl rfl rfl g30 (q_load1 Tryd.underlying9 rfl rfl own0 rfl) (by decide) ?_
        refine WL_gq rfl rfl rfl g30 (q_sneq rfl rfl) (by decide) ?_
        refine WL_gq rfl rfl rfl g26 (q_pickF rfl g30 rfl) (by decide) ?_
        refine WL_q (q_pickT rfl g26 rfl) (by decide) ?_
        refine WL_nil ?_
        refine thenN ?_
        refine WC_fr [(35, _), (5, _), (4, _), (2, _), (1, _)] (.cons rfl (.cons rfl (.cons rfl (.cons rfl (.cons rfl (.nil _)))))) ?_
        refine WC_cond rfl (fun h35 => ?_) (fun h35 => ?_)
        · refine WC_seq ?_
          refine WC_region ?_
          refine WL_q (q_assign rfl) (by decide) ?_
          refine WL_nil ?_
          refine thenN ?_
          refine WC_ret ?_
          refine thenRet ?_
          refine ⟨_, [], [], fun Z w hs => .tmp rfl (.nil), ?_, fun Z w hs => hs.out (List.Sublist.cons _ (List.Sublist.refl _)) (fun _ h => h)⟩
          try simp only [decide_eq_true_eq, decide_eq_false_iff_not, beq_iff_eq, bne_iff_ne, beq_eq_false_iff_ne, ne_eq, Bool.and_eq_true, Bool.not_eq_true', Bool.not_eq_false', Bool.not_eq_true, Bool.not_eq_false, bne_eq_false_iff_eq, Bool.and_eq_false_iff] at *
          exact ⟨congrArg (Value.bool) (by unfold extraF; first | (simp_all; done) | (simp_all; repeat' split; all_goals omega) | (repeat' split; all_goals first | rfl | omega)), rfl, rfl⟩
        · refine WC_skip ?_
          refine thenN ?_
          refine WC_seq ?_
          refine WC_seq ?_
          refine WC_region ?_
          refine WL_q (q_move rfl) (by decide) ?_
          refine WL_q (q_not rfl) (by decide) ?_
          refine WL_q (q_move rfl) (by decide) ?_
          refine WL_guard (t := 38) rfl (fun g38 => ?_) (fun g38 => ?_)
          · refine WL_gq rfl rfl rfl g38 (q_field (o' := 5) Tryd.underlying31 rfl ti29 rfl rfl) (by decide) ?_
            refine WL_gq rfl rfl rfl g38 (q_load1 Tryd.underlying29 rfl rfl own0 rfl) (by decide) ?_
            refine WL_gq rfl rfl rfl g38 (q_len Tryd.underlying29 rfl) (by decide) ?_
            refine WL_gq rfl rfl rfl g38 (q_gtr rfl rfl) (by decide) ?_
            refine WL_q (q_pickT rfl g38 rfl) (by decide) ?_
            refine WL_nil ?_
            refine thenN ?_
            refine WC_cond rfl (fun h43 => ?_) (fun h43 => ?_)
            · refine WC_seq ?_
              refine WC_region ?_
              refine WL_q (q_assign rfl) (by decide) ?_
              refine WL_nil ?_
              refine thenN ?_
              refine WC_ret ?_
              refine thenRet ?_
              refine ⟨_, [], [], fun Z w hs => .tmp rfl (.nil), ?_, fun Z w hs => hs.out (List.Sublist.cons _ (List.Sublist.refl _)) (fun _ h => h)⟩
              try simp only [decide_eq_true_eq, decide_eq_false_iff_not, beq_iff_eq, bne_iff_ne, beq_eq_false_iff_ne, ne_eq, Bool.and_eq_true, Bool.not_eq_true', Bool.not_eq_false', Bool.not_eq_true, Bool.not_eq_false, bne_eq_false_iff_eq, Bool.and_eq_false_iff] at *
              exact ⟨congrArg (Value.bool) (by unfold extraF; first | (simp_all; done) | (simp_all; repeat' split; all_goals omega) | (repeat' split; all_goals first | rfl | omega)), rfl, rfl⟩
            · refine WC_skip ?_
              refine thenN ?_
              refine WC_seq ?_
              refine WC_region ?_
              refine WL_q (q_move rfl) (by decide) ?_
              refine WL_q (q_not rfl) (by decide) ?_
              refine WL_q (q_move rfl) (by decide) ?_
              refine WL_guard (t := 46) rfl (fun g46 => ?_) (fun g46 => ?_)
              · refine WL_gq rfl rfl rfl g46 (q_field (o' := 6) Tryd.underlying31 rfl ti25 rfl rfl) (by decide) ?_
                refine WL_gq rfl rfl rfl g46 (q_loadN (vs := [_, _]) Tryd.underlying25 rfl ti25 rfl own0 rfl rfl) (by decide) ?_
                refine WL_gq rfl rfl rfl g46 (q_build (.nil) (bd25Xw8)) (by decide) ?_
                refine WL_gq rfl rfl rfl g46 (q_aggneq rfl rfl (eq25 _ _ _ _)) (by decide) ?_
                refine WL_gq rfl rfl rfl g46 (q_move rfl) (by decide) ?_
                refine WL_guard (t := 51) rfl (fun g51 => ?_) (fun g51 => ?_)
                · refine WL_gno rfl rfl rfl g51 (by decide) ?_
                  refine WL_gno rfl rfl rfl g51 (by decide) ?_
                  refine WL_gq rfl rfl rfl g46 (q_pickT rfl g51 rfl) (by decide) ?_
                  refine WL_q (q_pickT rfl g46 rfl) (by decide) ?_
                  refine WL_q (q_assign rfl) (by decide) ?_
                  refine WL_nil ?_
                  refine thenN ?_
                  refine WC_fr [(2, _)] (.cons rfl (.nil _)) ?_
                  refine WC_ret ?_
                  refine ⟨_, [], [], fun Z w hs => .tmp rfl (.nil), ?_, fun Z w hs => hs.out (List.Sublist.cons _ (List.Sublist.refl _)) (fun _ h => h)⟩
                  try simp only [decide_eq_true_eq, decide_eq_false_iff_not, beq_iff_eq, bne_iff_ne, beq_eq_false_iff_ne, ne_eq, Bool.and_eq_true, Bool.not_eq_true', Bool.not_eq_false', Bool.not_eq_true, Bool.not_eq_false, bne_eq_false_iff_eq, Bool.and_eq_false_iff] at *
                  exact ⟨congrArg (Value.bool) (by unfold extraF; first | (simp_all; done) | (simp_all; repeat' split; all_goals omega) | (repeat' split; all_goals first | rfl | omega)), rfl, rfl⟩
                · refine WL_gq rfl rfl rfl g51 (q_field (o' := 8) Tryd.underlying31 rfl ti4 rfl rfl) (by decide) ?_
                  refine WL_gq rfl rfl rfl g51 (q_load1 Tryd.underlying4 rfl rfl own0 rfl) (by decide) ?_
                  refine WL_gq rfl rfl rfl g46 (q_pickF rfl g51 rfl) (by decide) ?_
                  refine WL_q (q_pickT rfl g46 rfl) (by decide) ?_
                  refine WL_q (q_assign rfl) (by decide) ?_
                  refine WL_nil ?_
                  refine thenN ?_
                  refine WC_fr [(2, _)] (.cons rfl (.nil _)) ?_
                  refine WC_ret ?_
                  refine ⟨_, [], [], fun Z w hs => .tmp rfl (.nil), ?_, fun Z w hs => hs.out (List.Sublist.cons _ (List.Sublist.refl _)) (fun _ h => h)⟩
                  try simp only [decide_eq_true_eq, decide_eq_false_iff_not, beq_iff_eq, bne_iff_ne, beq_eq_false_iff_ne, ne_eq, Bool.and_eq_true, Bool.not_eq_true', Bool.not_eq_false', Bool.not_eq_true, Bool.not_eq_false, bne_eq_false_iff_eq, Bool.and_eq_false_iff] at *
                  exact ⟨congrArg (Value.bool) (by unfold extraF; first | (simp_all; done) | (simp_all; repeat' split; all_goals omega) | (repeat' split; all_goals first | rfl | omega)), rfl, rfl⟩
              · refine WL_gno rfl rfl rfl g46 (by decide) ?_
                refine WL_gno rfl rfl rfl g46 (by decide) ?_
                refine WL_gno rfl rfl rfl g46 (by decide) ?_
                refine WL_gno rfl rfl rfl g46 (by decide) ?_
                refine WL_gno rfl rfl rfl g46 (by decide) ?_
                refine WL_gun rfl rfl rfl (by decide) ?_
                refine WL_gun rfl rfl rfl (by decide) ?_
                refine WL_gno rfl rfl rfl g46 (by decide) ?_
                refine WL_q (q_pickF rfl g46 rfl) (by decide) ?_
                refine WL_q (q_assign rfl) (by decide) ?_
                refine WL_nil ?_
                refine thenN ?_
                refine WC_fr [(2, _)] (.cons rfl (.nil _)) ?_
                refine WC_ret ?_
                refine ⟨_, [], [], fun Z w hs => .tmp rfl (.nil), ?_, fun Z w hs => hs.out (List.Sublist.cons _ (List.Sublist.refl _)) (fun _ h => h)⟩
                try simp only [decide_eq_true_eq, decide_eq_false_iff_not, beq_iff_eq, bne_iff_ne, beq_eq_false_iff_ne, ne_eq, Bool.and_eq_true, Bool.not_eq_true', Bool.not_eq_false', Bool.not_eq_true, Bool.not_eq_false, bne_eq_false_iff_eq, Bool.and_eq_false_iff] at *
                exact ⟨congrArg (Value.bool) (by unfold extraF; first | (simp_all; done) | (simp_all; repeat' split; all_goals omega) | (repeat' split; all_goals first | rfl | omega)), rfl, rfl⟩
          · refine WL_gno rfl rfl rfl g38 (by decide) ?_
            refine WL_gno rfl rfl rfl g38 (by decide) ?_
            refine WL_gno rfl rfl rfl g38 (by decide) ?_
            refine WL_gno rfl rfl rfl g38 (by decide) ?_
            refine WL_q (q_pickF rfl g38 rfl) (by decide) ?_
            refine WL_nil ?_
            refine thenN ?_
            refine WC_false rfl rfl ?_
            refine WC_skip ?_
            refine thenN ?_
            refine WC_seq ?_
            refine WC_region ?_
            refine WL_q (q_move rfl) (by decide) ?_
            refine WL_q (q_not rfl) (by decide) ?_
            refine WL_q (q_move rfl) (by decide) ?_
            refine WL_guard (t := 46) rfl (fun g46 => ?_) (fun g46 => ?_)
            · refine WL_gq rfl rfl rfl g46 (q_field (o' := 6) Tryd.underlying31 rfl ti25 rfl rfl) (by decide) ?_
              refine WL_gq rfl rfl rfl g46 (q_loadN (vs := [_, _]) Tryd.underlying25 rfl ti25 rfl own0 rfl rfl) (by decide) ?_
              refine WL_gq rfl rfl rfl g46 (q_build (.nil) (bd25Xw8)) (by decide) ?_
              refine WL_gq rfl rfl rfl g46 (q_aggneq rfl rfl (eq25 _ _ _ _)) (by decide) ?_
              refine WL_gq rfl rfl rfl g46 (q_move rfl) (by decide) ?_
              refine WL_guard (t := 51) rfl (fun g51 => ?_) (fun g51 => ?_)
              · refine WL_gno rfl rfl rfl g51 (by decide) ?_
                refine WL_gno rfl rfl rfl g51 (by decide) ?_
                refine WL_gq rfl rfl rfl g46 (q_pickT rfl g51 rfl) (by decide) ?_
                refine WL_q (q_pickT rfl g46 rfl) (by decide) ?_
                refine WL_q (q_assign rfl) (by decide) ?_
                refine WL_nil ?_
                refine thenN ?_
                refine WC_fr [(2, _)] (.cons rfl (.nil _)) ?_
                refine WC_ret ?_
                refine ⟨_, [], [], fun Z w hs => .tmp rfl (.nil), ?_, fun Z w hs => hs.out (List.Sublist.cons _ (List.Sublist.refl _)) (fun _ h => h)⟩
                try simp only [decide_eq_true_eq, decide_eq_false_iff_not, beq_iff_eq, bne_iff_ne, beq_eq_false_iff_ne, ne_eq, Bool.and_eq_true, Bool.not_eq_true', Bool.not_eq_false', Bool.not_eq_true, Bool.not_eq_false, bne_eq_false_iff_eq, Bool.and_eq_false_iff] at *
                exact ⟨congrArg (Value.bool) (by unfold extraF; first | (simp_all; done) | (simp_all; repeat' split; all_goals omega) | (repeat' split; all_goals first | rfl | omega)), rfl, rfl⟩
              · refine WL_gq rfl rfl rfl g51 (q_field (o' := 8) Tryd.underlying31 rfl ti4 rfl rfl) (by decide) ?_
                refine WL_gq rfl rfl rfl g51 (q_load1 Tryd.underlying4 rfl rfl own0 rfl) (by decide) ?_
                refine WL_gq rfl rfl rfl g46 (q_pickF rfl g51 rfl) (by decide) ?_
                refine WL_q (q_pickT rfl g46 rfl) (by decide) ?_
                refine WL_q (q_assign rfl) (by decide) ?_
                refine WL_nil ?_
                refine thenN ?_
                refine WC_fr [(2, _)] (.cons rfl (.nil _)) ?_
                refine WC_ret ?_
                refine ⟨_, [], [], fun Z w hs => .tmp rfl (.nil), ?_, fun Z w hs => hs.out (List.Sublist.cons _ (List.Sublist.refl _)) (fun _ h => h)⟩
                try simp only [decide_eq_true_eq, decide_eq_false_iff_not, beq_iff_eq, bne_iff_ne, beq_eq_false_iff_ne, ne_eq, Bool.and_eq_true, Bool.not_eq_true', Bool.not_eq_false', Bool.not_eq_true, Bool.not_eq_false, bne_eq_false_iff_eq, Bool.and_eq_false_iff] at *
                exact ⟨congrArg (Value.bool) (by unfold extraF; first | (simp_all; done) | (simp_all; repeat' split; all_goals omega) | (repeat' split; all_goals first | rfl | omega)), rfl, rfl⟩
            · refine WL_gno rfl rfl rfl g46 (by decide) ?_
              refine WL_gno rfl rfl rfl g46 (by decide) ?_
              refine WL_gno rfl rfl rfl g46 (by decide) ?_
              refine WL_gno rfl rfl rfl g46 (by decide) ?_
              refine WL_gno rfl rfl rfl g46 (by decide) ?_
              refine WL_gun rfl rfl rfl (by decide) ?_
              refine WL_gun rfl rfl rfl (by decide) ?_
              refine WL_gno rfl rfl rfl g46 (by decide) ?_
              refine WL_q (q_pickF rfl g46 rfl) (by decide) ?_
              refine WL_q (q_assign rfl) (by decide) ?_
              refine WL_nil ?_
              refine thenN ?_
              refine WC_fr [(2, _)] (.cons rfl (.nil _)) ?_
              refine WC_ret ?_
              refine ⟨_, [], [], fun Z w hs => .tmp rfl (.nil), ?_, fun Z w hs => hs.out (List.Sublist.cons _ (List.Sublist.refl _)) (fun _ h => h)⟩
              try simp only [decide_eq_true_eq, decide_eq_false_iff_not, beq_iff_eq, bne_iff_ne, beq_eq_false_iff_ne, ne_eq, Bool.and_eq_true, Bool.not_eq_true', Bool.not_eq_false', Bool.not_eq_true, Bool.not_eq_false, bne_eq_false_iff_eq, Bool.and_eq_false_iff] at *
              exact ⟨congrArg (Value.bool) (by unfold extraF; first | (simp_all; done) | (simp_all; repeat' split; all_goals omega) | (repeat' split; all_goals first | rfl | omega)), rfl, rfl⟩
    · refine WL_gno rfl rfl rfl g26 (by decide) ?_
      refine WL_gno rfl rfl rfl g26 (by decide) ?_
      refine WL_gno rfl rfl rfl g26 (by decide) ?_
      refine WL_gno rfl rfl rfl g26 (by decide) ?_
      refine WL_gun rfl rfl rfl (by decide) ?_
      refine WL_gun rfl rfl rfl (by decide) ?_
      refine WL_gun rfl rfl rfl (by decide) ?_
      refine WL_gno rfl rfl rfl g26 (by decide) ?_
      refine WL_q (q_pickF rfl g26 rfl) (by decide) ?_
      refine WL_nil ?_
      refine thenN ?_
      refine WC_fr [(35, _), (5, _), (4, _), (2, _), (1, _)] (.cons rfl (.cons rfl (.cons rfl (.cons rfl (.cons rfl (.nil _)))))) ?_
      refine WC_false rfl rfl ?_
      refine WC_skip ?_
      refine thenN ?_
      refine WC_seq ?_
      refine WC_seq ?_
      refine WC_region ?_
      refine WL_q (q_move rfl) (by decide) ?_
      refine WL_q (q_not rfl) (by decide) ?_
      refine WL_q (q_move rfl) (by decide) ?_
      refine WL_guard (t := 38) rfl (fun g38 => ?_) (fun g38 => ?_)
      · refine WL_gq rfl rfl rfl g38 (q_field (o' := 5) Tryd.underlying31 rfl ti29 rfl rfl) (by decide) ?_
        refine WL_gq rfl rfl rfl g38 (q_load1 Tryd.underlying29 rfl rfl own0 rfl) (by decide) ?_
        refine WL_gq rfl rfl rfl g38 (q_len Tryd.underlying29 rfl) (by decide) ?_
        refine WL_gq rfl rfl rfl g38 (q_gtr rfl rfl) (by decide) ?_
        refine WL_q (q_pickT rfl g38 rfl) (by decide) ?_
        refine WL_nil ?_
        refine thenN ?_
        refine WC_cond rfl (fun h43 => ?_) (fun h43 => ?_)
        · refine WC_seq ?_
          refine WC_region ?_
          refine WL_q (q_assign rfl) (by decide) ?_
          refine WL_nil ?_
          refine thenN ?_
          refine WC_ret ?_
          refine thenRet ?_
          refine ⟨_, [], [], fun Z w hs => .tmp rfl (.nil), ?_, fun Z w hs => hs.out (List.Sublist.cons _ (List.Sublist.refl _)) (fun _ h => h)⟩
          try simp only [decide_eq_true_eq, decide_eq_false_iff_not, beq_iff_eq, bne_iff_ne, beq_eq_false_iff_ne, ne_eq, Bool.and_eq_true, Bool.not_eq_true', Bool.not_eq_false', Bool.not_eq_true, Bool.not_eq_false, bne_eq_false_iff_eq, Bool.and_eq_false_iff] at *
          exact ⟨congrArg (Value.bool) (by unfold extraF; first | (simp_all; done) | (simp_all; repeat' split; all_goals omega) | (repeat' split; all_goals first | rfl | omega)), rfl, rfl⟩
        · refine WC_skip ?_
          refine thenN ?_
          refine WC_seq ?_
          refine WC_region ?_
          refine WL_q (q_move rfl) (by decide) ?_
          refine WL_q (q_not rfl) (by decide) ?_
          refine WL_q (q_move rfl) (by decide) ?_
          refine WL_guard (t := 46) rfl (fun g46 => ?_) (fun g46 => ?_)
          · refine WL_gq rfl rfl rfl g46 (q_field (o' := 6) Tryd.underlying31 rfl ti25 rfl rfl) (by decide) ?_
            refine WL_gq rfl rfl rfl g46 (q_loadN (vs := [_, _]) Tryd.underlying25 rfl ti25 rfl own0 rfl rfl) (by decide) ?_
            refine WL_gq rfl rfl rfl g46 (q_build (.nil) (bd25Xw8)) (by decide) ?_
            refine WL_gq rfl rfl rfl g46 (q_aggneq rfl rfl (eq25 _ _ _ _)) (by decide) ?_
            refine WL_gq rfl rfl rfl g46 (q_move rfl) (by decide) ?_
            refine WL_guard (t := 51) rfl (fun g51 => ?_) (fun g51 => ?_)
            · refine WL_gno rfl rfl rfl g51 (by decide) ?_
              refine WL_gno rfl rfl rfl g51 (by decide) ?_
              refine WL_gq rfl rfl rfl g46 (q_pickT rfl g51 rfl) (by decide) ?_
              refine WL_q (q_pickT rfl g46 rfl) (by decide) ?_
              refine WL_q (q_assign rfl) (by decide) ?_
              refine WL_nil ?_
              refine thenN ?_
              refine WC_fr [(2, _)] (.cons rfl (.nil _)) ?_
              refine WC_ret ?_
              refine ⟨_, [], [], fun Z w hs => .tmp rfl (.nil), ?_, fun Z w hs => hs.out (List.Sublist.cons _ (List.Sublist.refl _)) (fun _ h => h)⟩
              try simp only [decide_eq_true_eq, decide_eq_false_iff_not, beq_iff_eq, bne_iff_ne, beq_eq_false_iff_ne, ne_eq, Bool.and_eq_true, Bool.not_eq_true', Bool.not_eq_false', Bool.not_eq_true, Bool.not_eq_false, bne_eq_false_iff_eq, Bool.and_eq_false_iff] at *
              exact ⟨congrArg (Value.bool) (by unfold extraF; first | (simp_all; done) | (simp_all; repeat' split; all_goals omega) | (repeat' split; all_goals first | rfl | omega)), rfl, rfl⟩
            · refine WL_gq rfl rfl rfl g51 (q_field (o' := 8) Tryd.underlying31 rfl ti4 rfl rfl) (by decide) ?_
              refine WL_gq rfl rfl rfl g51 (q_load1 Tryd.underlying4 rfl rfl own0 rfl) (by decide) ?_
              refine WL_gq rfl rfl rfl g46 (q_pickF rfl g51 rfl) (by decide) ?_
              refine WL_q (q_pickT rfl g46 rfl) (by decide) ?_
              refine WL_q (q_assign rfl) (by decide) ?_
              refine WL_nil ?_
              refine thenN ?_
              refine WC_fr [(2, _)] (.cons rfl (.nil _)) ?_
              refine WC_ret ?_
              refine ⟨_, [], [], fun Z w hs => .tmp rfl (.nil), ?_, fun Z w hs => hs.out (List.Sublist.cons _ (List.Sublist.refl _)) (fun _ h => h)⟩
              try simp only [decide_eq_true_eq, decide_eq_false_iff_not, beq_iff_eq, bne_iff_ne, beq_eq_false_iff_ne, ne_eq, Bool.and_eq_true, Bool.not_eq_true', Bool.not_eq_false', Bool.not_eq_true, Bool.not_eq_false, bne_eq_false_iff_eq, Bool.and_eq_false_iff] at *
              exact ⟨congrArg (Value.bool) (by unfold extraF; first | (simp_all; done) | (simp_all; repeat' split; all_goals omega) | (repeat' split; all_goals first | rfl | omega)), rfl, rfl⟩
          · refine WL_gno rfl rfl rfl g46 (by decide) ?_
            refine WL_gno rfl rfl rfl g46 (by decide) ?_
            refine WL_gno rfl rfl rfl g46 (by decide) ?_
            refine WL_gno rfl rfl rfl g46 (by decide) ?_
            refine WL_gno rfl rfl rfl g46 (by decide) ?_
            refine WL_gun rfl rfl rfl (by decide) ?_
            refine WL_gun rfl rfl rfl (by decide) ?_
            refine WL_gno rfl rfl rfl g46 (by decide) ?_
            refine WL_q (q_pickF rfl g46 rfl) (by decide) ?_
            refine WL_q (q_assign rfl) (by decide) ?_
            refine WL_nil ?_
            refine thenN ?_
            refine WC_fr [(2, _)] (.cons rfl (.nil _)) ?_
            refine WC_ret ?_
            refine ⟨_, [], [], fun Z w hs => .tmp rfl (.nil), ?_, fun Z w hs => hs.out (List.Sublist.cons _ (List.Sublist.refl _)) (fun _ h => h)⟩
            try simp only [decide_eq_true_eq, decide_eq_false_iff_not, beq_iff_eq, bne_iff_ne, beq_eq_false_iff_ne, ne_eq, Bool.and_eq_true, Bool.not_eq_true', Bool.not_eq_false', Bool.not_eq_true, Bool.not_eq_false, bne_eq_false_iff_eq, Bool.and_eq_false_iff] at *
            exact ⟨congrArg (Value.bool) (by unfold extraF; first | (simp_all; done) | (simp_all; repeat' split; all_goals omega) | (repeat' split; all_goals first | rfl | omega)), rfl, rfl⟩
      · refine WL_gno rfl rfl rfl g38 (by decide) ?_
        refine WL_gno rfl rfl rfl g38 (by decide) ?_
        refine WL_gno rfl rfl rfl g38 (by decide) ?_
        refine WL_gno rfl rfl rfl g38 (by decide) ?_
        refine WL_q (q_pickF rfl g38 rfl) (by decide) ?_
        refine WL_nil ?_
        refine thenN ?_
        refine WC_false rfl rfl ?_
        refine WC_skip ?_
        refine thenN ?_
        refine WC_seq ?_
        refine WC_region ?_
        refine WL_q (q_move rfl) (by decide) ?_
        refine WL_q (q_not rfl) (by decide) ?_
        refine WL_q (q_move rfl) (by decide) ?_
        refine WL_guard (t := 46) rfl (fun g46 => ?_) (fun g46 => ?_)
        · refine WL_gq rfl rfl rfl g46 (q_field (o' := 6) Tryd.underlying31 rfl ti25 rfl rfl) (by decide) ?_
          refine WL_gq rfl rfl rfl g46 (q_loadN (vs := [_, _]) Tryd.underlying25 rfl ti25 rfl own0 rfl rfl) (by decide) ?_
          refine WL_gq rfl rfl rfl g46 (q_build (.nil) (bd25Xw8)) (by decide) ?_
          refine WL_gq rfl rfl rfl g46 (q_aggneq rfl rfl (eq25 _ _ _ _)) (by decide) ?_
          refine WL_gq rfl rfl rfl g46 (q_move rfl) (by decide) ?_
          refine WL_guard (t := 51) rfl (fun g51 => ?_) (fun g51 => ?_)
          · refine WL_gno rfl rfl rfl g51 (by decide) ?_
            refine WL_gno rfl rfl rfl g51 (by decide) ?_
            refine WL_gq rfl rfl rfl g46 (q_pickT rfl g51 rfl) (by decide) ?_
            refine WL_q (q_pickT rfl g46 rfl) (by decide) ?_
            refine WL_q (q_assign rfl) (by decide) ?_
            refine WL_nil ?_
            refine thenN ?_
            refine WC_fr [(2, _)] (.cons rfl (.nil _)) ?_
            refine WC_ret ?_
            refine ⟨_, [], [], fun Z w hs => .tmp rfl (.nil), ?_, fun Z w hs => hs.out (List.Sublist.cons _ (List.Sublist.refl _)) (fun _ h => h)⟩
            try simp only [decide_eq_true_eq, decide_eq_false_iff_not, beq_iff_eq, bne_iff_ne, beq_eq_false_iff_ne, ne_eq, Bool.and_eq_true, Bool.not_eq_true', Bool.not_eq_false', Bool.not_eq_true, Bool.not_eq_false, bne_eq_false_iff_eq, Bool.and_eq_false_iff] at *
            exact ⟨congrArg (Value.bool) (by unfold extraF; first | (simp_all; done) | (simp_all; repeat' split; all_goals omega) | (repeat' split; all_goals first | rfl | omega)), rfl, rfl⟩
          · refine WL_gq rfl rfl rfl g51 (q_field (o' := 8) Tryd.underlying31 rfl ti4 rfl rfl) (by decide) ?_
            refine WL_gq rfl rfl rfl g51 (q_load1 Tryd.underlying4 rfl rfl own0 rfl) (by decide) ?_
            refine WL_gq rfl rfl rfl g46 (q_pickF rfl g51 rfl) (by decide) ?_
            refine WL_q (q_pickT rfl g46 rfl) (by decide) ?_
            refine WL_q (q_assign rfl) (by decide) ?_
            refine WL_nil ?_
            refine thenN ?_
            refine WC_fr [(2, _)] (.cons rfl (.nil _)) ?_
            refine WC_ret ?_
            refine ⟨_, [], [], fun Z w hs => .tmp rfl (.nil), ?_, fun Z w hs => hs.out (List.Sublist.cons _ (List.Sublist.refl _)) (fun _ h => h)⟩
            try simp only [decide_eq_true_eq, decide_eq_false_iff_not, beq_iff_eq, bne_iff_ne, beq_eq_false_iff_ne, ne_eq, Bool.and_eq_true, Bool.not_eq_true', Bool.not_eq_false', Bool.not_eq_true, Bool.not_eq_false, bne_eq_false_iff_eq, Bool.and_eq_false_iff] at *
            exact ⟨congrArg (Value.bool) (by unfold extraF; first | (simp_all; done) | (simp_all; repeat' split; all_goals omega) | (repeat' split; all_goals first | rfl | omega)), rfl, rfl⟩
        · refine WL_gno rfl rfl rfl g46 (by decide) ?_
          refine WL_gno rfl rfl rfl g46 (by decide) ?_
          refine WL_gno rfl rfl rfl g46 (by decide) ?_
          refine WL_gno rfl rfl rfl g46 (by decide) ?_
          refine WL_gno rfl rfl rfl g46 (by decide) ?_
          refine WL_gun rfl rfl rfl (by decide) ?_
          refine WL_gun rfl rfl rfl (by decide) ?_
          refine WL_gno rfl rfl rfl g46 (by decide) ?_
          refine WL_q (q_pickF rfl g46 rfl) (by decide) ?_
          refine WL_q (q_assign rfl) (by decide) ?_
          refine WL_nil ?_
          refine thenN ?_
          refine WC_fr [(2, _)] (.cons rfl (.nil _)) ?_
          refine WC_ret ?_
          refine ⟨_, [], [], fun Z w hs => .tmp rfl (.nil), ?_, fun Z w hs => hs.out (List.Sublist.cons _ (List.Sublist.refl _)) (fun _ h => h)⟩
          try simp only [decide_eq_true_eq, decide_eq_false_iff_not, beq_iff_eq, bne_iff_ne, beq_eq_false_iff_ne, ne_eq, Bool.and_eq_true, Bool.not_eq_true', Bool.not_eq_false', Bool.not_eq_true, Bool.not_eq_false, bne_eq_false_iff_eq, Bool.and_eq_false_iff] at *
          exact ⟨congrArg (Value.bool) (by unfold extraF; first | (simp_all; done) | (simp_all; repeat' split; all_goals omega) | (repeat' split; all_goals first | rfl | omega)), rfl, rfl⟩


set_option maxRecDepth 10000 in
theorem checkIns_s (o : GOp) (A : Option Addr) (c : Nat) (total : Int) (hs : o.text.size ≤ 4611686018427387904) (ht : 0 ≤ total ∧ total ≤ 1048576) : Sp Tryd.prog 78 [opV o A c, .int .i64 total] [] [barF] (Is (.int .i64 (insF o total))) := by
  refine Sp.of (n := 40) ⟨_, Tryd.func78, rfl, rfl, rfl, rfl⟩ (Nat.le_of_ble_eq_true rfl) fun Ps As => ?_
  refine WC_seq ?_
  refine WC_region ?_
  refine WL_main rfl (OW_box (cs := [_, _, _, _, _, _, _, _, _]) rfl rfl (by decide) fun b2 => ?_)
  refine WL_q (q_assign rfl) (by decide) ?_
  refine WL_nil ?_
  refine thenN ?_
  refine WC_seq ?_
  refine WC_region ?_
  refine WL_q (q_field (o' := 4) Tryd.underlying31 rfl ti9 rfl rfl) (by decide) ?_
  refine WL_q (q_load1 Tryd.underlying9 rfl rfl own0 rfl) (by decide) ?_
  refine WL_main rfl (OW_call0 (utCheck_s o.text hs) (.cons rfl (.nil)) (by decide) (memc (.head _) mem0) fun u1_2 Lo fs hres => ?_)
  obtain ⟨rfl, rfl, rfl⟩ := hres
  refine WL_q (q_move rfl) (by decide) ?_
  refine WL_q (q_extract (vs := [_, _, _]) rfl rfl) (by decide) ?_
  refine WL_q (q_extract (vs := [_, _, _]) rfl rfl) (by decide) ?_
  refine WL_q (q_extract (vs := [_, _, _]) rfl rfl) (by decide) ?_
  refine WL_q (q_assign rfl) (by decide) ?_
  refine WL_q (q_assign rfl) (by decide) ?_
  refine WL_q (q_assign rfl) (by decide) ?_
  refine WL_nil ?_
  refine thenN ?_
  refine WC_fr [(7, _), (5, _), (4, _), (2, _), (1, _)] (.cons rfl (.cons rfl (.cons rfl (.cons rfl (.cons rfl (.nil _)))))) ?_
  refine WC_seq ?_
  refine WC_block ?_
  refine WC_seq ?_
  refine WC_region ?_
  refine WL_q (q_move rfl) (by decide) ?_
  refine WL_q (q_neq rfl rfl) (by decide) ?_
  refine WL_q (q_assign rfl) (by decide) ?_
  refine WL_nil ?_
  refine thenN ?_
  refine WC_cond rfl (fun h15 => ?_) (fun h15 => ?_)
  · refine WC_seq ?_
    refine WC_region ?_
    refine WL_q (q_move rfl) (by decide) ?_
    refine WL_q (q_assign rfl) (by decide) ?_
    refine WL_nil ?_
    refine thenN ?_
    refine WC_ret ?_
    refine blockRet ?_
    refine thenRet ?_
    refine ⟨_, [], [], fun Z w hs => .tmp rfl (.nil), ?_, fun Z w hs => hs.out (List.Sublist.cons _ (List.Sublist.refl _)) (fun _ h => h)⟩
    try simp only [decide_eq_true_eq, decide_eq_false_iff_not, beq_iff_eq, bne_iff_ne, beq_eq_false_iff_ne, ne_eq, Bool.and_eq_true, Bool.not_eq_true', Bool.not_eq_false', Bool.not_eq_true, Bool.not_eq_false, bne_eq_false_iff_eq, Bool.and_eq_false_iff] at *
    exact ⟨congrArg (Value.int .i64) (by unfold insF; first | (simp_all; done) | (simp_all; repeat' split; all_goals omega) | (repeat' split; all_goals first | rfl | omega)), rfl, rfl⟩
  · refine WC_seq ?_
    refine WC_region ?_
    refine WL_q (q_move rfl) (by decide) ?_
    refine WL_q (q_eql rfl rfl) (by decide) ?_
    refine WL_q (q_assign rfl) (by decide) ?_
    refine WL_nil ?_
    refine thenN ?_
    refine WC_cond rfl (fun h19 => ?_) (fun h19 => ?_)
    · refine WC_seq ?_
      refine WC_region ?_
      refine WL_q (q_assign rfl) (by decide) ?_
      refine WL_nil ?_
      refine thenN ?_
      refine WC_ret ?_
      refine blockRet ?_
      refine thenRet ?_
      refine ⟨_, [], [], fun Z w hs => .tmp rfl (.nil), ?_, fun Z w hs => hs.out (List.Sublist.cons _ (List.Sublist.refl _)) (fun _ h => h)⟩
      try simp only [decide_eq_true_eq, decide_eq_false_iff_not, beq_iff_eq, bne_iff_ne, beq_eq_false_iff_ne, ne_eq, Bool.and_eq_true, Bool.not_eq_true', Bool.not_eq_false', Bool.not_eq_true, Bool.not_eq_false, bne_eq_false_iff_eq, Bool.and_eq_false_iff] at *
      exact ⟨congrArg (Value.int .i64) (by unfold insF; first | (simp_all; done) | (simp_all; repeat' split; all_goals omega) | (repeat' split; all_goals first | rfl | omega)), rfl, rfl⟩
    · refine WC_seq ?_
      refine WC_region ?_
      refine WL_q (q_move rfl) (by decide) ?_
      refine WL_q (q_gtr rfl rfl) (by decide) ?_
      refine WL_q (q_assign rfl) (by decide) ?_
      refine WL_nil ?_
      refine thenN ?_
      refine WC_fr [(22, _), (5, _), (4, _), (2, _), (1, _)] (.cons rfl (.cons rfl (.cons rfl (.cons rfl (.cons rfl (.nil _)))))) ?_
      refine WC_cond rfl (fun h22 => ?_) (fun h22 => ?_)
      · refine WC_seq ?_
        refine WC_region ?_
        refine WL_q (q_assign rfl) (by decide) ?_
        refine WL_nil ?_
        refine thenN ?_
        refine WC_ret ?_
        refine blockRet ?_
        refine thenRet ?_
        refine ⟨_, [], [], fun Z w hs => .tmp rfl (.nil), ?_, fun Z w hs => hs.out (List.Sublist.cons _ (List.Sublist.refl _)) (fun _ h => h)⟩
        try simp only [decide_eq_true_eq, decide_eq_false_iff_not, beq_iff_eq, bne_iff_ne, beq_eq_false_iff_ne, ne_eq, Bool.and_eq_true, Bool.not_eq_true', Bool.not_eq_false', Bool.not_eq_true, Bool.not_eq_false, bne_eq_false_iff_eq, Bool.and_eq_false_iff] at *
        exact ⟨congrArg (Value.int .i64) (by unfold insF; first | (simp_all; done) | (simp_all; repeat' split; all_goals omega) | (repeat' split; all_goals first | rfl | omega)), rfl, rfl⟩
      · refine WC_seq ?_
        refine WC_region ?_
        refine WL_q (q_field (o' := 3) Tryd.underlying31 rfl ti3 rfl rfl) (by decide) ?_
        refine WL_q (q_load1 Tryd.underlying3 rfl rfl own0 rfl) (by decide) ?_
        refine WL_q (q_lss rfl rfl) (by decide) ?_
        refine WL_q (q_move rfl) (by decide) ?_
        refine WL_guard (t := 29) rfl (fun g29 => ?_) (fun g29 => ?_)
        · refine WL_gno rfl rfl rfl g29 (by decide) ?_
          refine WL_gno rfl rfl rfl g29 (by decide) ?_
          refine WL_gno rfl rfl rfl g29 (by decide) ?_
          refine WL_gno rfl rfl rfl g29 (by decide) ?_
          refine WL_q (q_pickT rfl g29 rfl) (by decide) ?_
          refine WL_q (q_assign rfl) (by decide) ?_
          refine WL_nil ?_
          refine thenN ?_
          refine WC_fr [(25, _), (5, _), (4, _), (1, _)] (.cons rfl (.cons rfl (.cons rfl (.cons rfl (.nil _))))) ?_
          refine WC_true rfl rfl ?_
          refine WC_seq ?_
          refine WC_region ?_
          refine WL_q (q_assign rfl) (by decide) ?_
          refine WL_nil ?_
          refine thenN ?_
          refine WC_ret ?_
          refine blockRet ?_
          refine thenRet ?_
          refine ⟨_, [], [], fun Z w hs => .tmp rfl (.nil), ?_, fun Z w hs => hs.out (List.Sublist.cons _ (List.Sublist.refl _)) (fun _ h => h)⟩
          try simp only [decide_eq_true_eq, decide_eq_false_iff_not, beq_iff_eq, bne_iff_ne, beq_eq_false_iff_ne, ne_eq, Bool.and_eq_true, Bool.not_eq_true', Bool.not_eq_false', Bool.not_eq_true, Bool.not_eq_false, bne_eq_false_iff_eq, Bool.and_eq_false_iff] at *
          exact ⟨congrArg (Value.int .i64) (by unfold insF; first | (simp_all; done) | (simp_all; repeat' split; all_goals omega) | (repeat' split; all_goals first | rfl | omega)), rfl, rfl⟩
        · refine WL_gq rfl rfl rfl g29 (q_field (o' := 3) Tryd.underlying31 rfl ti3 rfl rfl) (by decide) ?_
          refine WL_gq rfl rfl rfl g29 (q_load1 Tryd.underlying3 rfl rfl own0 rfl) (by decide) ?_
          refine WL_gq rfl rfl rfl g29 (q_move rfl) (by decide) ?_
          refine WL_gq rfl rfl rfl g29 (q_gtr rfl rfl) (by decide) ?_
          refine WL_q (q_pickF rfl g29 rfl) (by decide) ?_
          refine WL_q (q_assign rfl) (by decide) ?_
          refine WL_nil ?_
          refine thenN ?_
          refine WC_fr [(25, _), (5, _), (4, _), (1, _)] (.cons rfl (.cons rfl (.cons rfl (.cons rfl (.nil _))))) ?_
          refine WC_cond rfl (fun h25 => ?_) (fun h25 => ?_)
          · refine WC_seq ?_
            refine WC_region ?_
            refine WL_q (q_assign rfl) (by decide) ?_
            refine WL_nil ?_
            refine thenN ?_
            refine WC_ret ?_
            refine blockRet ?_
            refine thenRet ?_
            refine ⟨_, [], [], fun Z w hs => .tmp rfl (.nil), ?_, fun Z w hs => hs.out (List.Sublist.cons _ (List.Sublist.refl _)) (fun _ h => h)⟩
            try simp only [decide_eq_true_eq, decide_eq_false_iff_not, beq_iff_eq, bne_iff_ne, beq_eq_false_iff_ne, ne_eq, Bool.and_eq_true, Bool.not_eq_true', Bool.not_eq_false', Bool.not_eq_true, Bool.not_eq_false, bne_eq_false_iff_eq, Bool.and_eq_false_iff] at *
            exact ⟨congrArg (Value.int .i64) (by unfold insF; first | (simp_all; done) | (simp_all; repeat' split; all_goals omega) | (repeat' split; all_goals first | rfl | omega)), rfl, rfl⟩
          · refine WC_seq ?_
            have hu := utF_n o.text
            try simp only [decide_eq_true_eq, decide_eq_false_iff_not, beq_iff_eq, bne_iff_ne, beq_eq_false_iff_ne, ne_eq, Bool.and_eq_true, Bool.not_eq_true', Bool.not_eq_false', Bool.not_eq_true, Bool.not_eq_false, bne_eq_false_iff_eq, Bool.and_eq_false_iff] at *
            refine WC_region ?_
            refine WL_q (q_move rfl) (by decide) ?_
            refine WL_q (q_move rfl) (by decide) ?_
            refine WL_q (q_add rfl rfl (wr64 (by omega))) (by decide) ?_
            refine WL_q (q_gtr rfl rfl) (by decide) ?_
            refine WL_q (q_assign rfl) (by decide) ?_
            refine WL_nil ?_
            refine thenN ?_
            refine WC_cond rfl (fun h35 => ?_) (fun h35 => ?_)
            · refine WC_seq ?_
              refine WC_region ?_
              refine WL_q (q_assign rfl) (by decide) ?_
              refine WL_nil ?_
              refine thenN ?_
              refine WC_ret ?_
              refine blockRet ?_
              refine thenRet ?_
              refine ⟨_, [], [], fun Z w hs => .tmp rfl (.nil), ?_, fun Z w hs => hs.out (List.Sublist.cons _ (List.Sublist.refl _)) (fun _ h => h)⟩
              try simp only [decide_eq_true_eq, decide_eq_false_iff_not, beq_iff_eq, bne_iff_ne, beq_eq_false_iff_ne, ne_eq, Bool.and_eq_true, Bool.not_eq_true', Bool.not_eq_false', Bool.not_eq_true, Bool.not_eq_false, bne_eq_false_iff_eq, Bool.and_eq_false_iff] at *
              exact ⟨congrArg (Value.int .i64) (by unfold insF; first | (simp_all; done) | (simp_all; repeat' split; all_goals omega) | (repeat' split; all_goals first | rfl | omega)), rfl, rfl⟩
            · refine WC_skip ?_
              refine blockN ?_
              refine thenN ?_
              refine WC_seq ?_
              refine WC_region ?_
              refine WL_q (q_assign rfl) (by decide) ?_
              refine WL_nil ?_
              refine thenN ?_
              refine WC_ret ?_
              refine ⟨_, [], [], fun Z w hs => .tmp rfl (.nil), ?_, fun Z w hs => hs.out (List.Sublist.cons _ (List.Sublist.refl _)) (fun _ h => h)⟩
              try simp only [decide_eq_true_eq, decide_eq_false_iff_not, beq_iff_eq, bne_iff_ne, beq_eq_false_iff_ne, ne_eq, Bool.and_eq_true, Bool.not_eq_true', Bool.not_eq_false', Bool.not_eq_true, Bool.not_eq_false, bne_eq_false_iff_eq, Bool.and_eq_false_iff] at *
              exact ⟨congrArg (Value.int .i64) (by unfold insF; first | (simp_all; done) | (simp_all; repeat' split; all_goals omega) | (repeat' split; all_goals first | rfl | omega)), rfl, rfl⟩


set_option maxRecDepth 10000 in
theorem checkRanges_s (A : Option Addr) (c : Nat) (xs : List Rg) (total : Int) (hl : xs.length ≤ 4398046511104) : Sp Tryd.prog 79 [.slice A xs.length c, .int .i64 total] [] [RdF rgD A c xs] (Is (.int .i64 (rangesF xs total))) := by
  refine Sp.of (n := 27) ⟨_, Tryd.func79, rfl, rfl, rfl, rfl⟩ (Nat.le_of_ble_eq_true rfl) fun Ps As => ?_
  refine WC_seq ?_
  refine WC_region ?_
  refine WL_q (q_assign rfl) (by decide) ?_
  refine WL_nil ?_
  refine thenN ?_
  refine WC_seq ?_
  refine WC_seq ?_
  refine WC_region ?_
  refine WL_q (q_move rfl) (by decide) ?_
  refine WL_q (q_len Tryd.underlying29 rfl) (by decide) ?_
  refine WL_q (q_eql rfl rfl) (by decide) ?_
  refine WL_nil ?_
  refine thenN ?_
  refine WC_cond rfl (fun h9 => ?_) (fun h9 => ?_)
  · refine WC_seq ?_
    refine WC_region ?_
    refine WL_q (q_assign rfl) (by decide) ?_
    refine WL_nil ?_
    refine thenN ?_
    refine WC_ret ?_
    refine thenRet ?_
    refine ⟨_, [], [], fun Z w hs => .tmp rfl (.nil), ?_, fun Z w hs => hs.out (List.Sublist.refl _) (fun _ h => h)⟩
    try simp only [decide_eq_true_eq, decide_eq_false_iff_not, beq_iff_eq, bne_iff_ne, beq_eq_false_iff_ne, ne_eq, Bool.and_eq_true, Bool.not_eq_true', Bool.not_eq_false', Bool.not_eq_true, Bool.not_eq_false, bne_eq_false_iff_eq, Bool.and_eq_false_iff] at *
    first
      | exact ⟨by rw [rangesF_nil (by omega)]; rfl, rfl, rfl⟩
      | exact ⟨by rw [rangesF_at hk0 (by omega), if_pos (by omega)]; rfl, rfl, rfl⟩
      | exact ⟨by rw [rangesF_at hk0 (by omega), if_neg (by omega)]; rfl, rfl, rfl⟩
      | exact ⟨by rw [rangesF_ck (by omega) (by omega)]; rfl, rfl, rfl⟩
  · refine WC_skip ?_
    refine thenN ?_
    refine WC_seq ?_
    refine WC_seq ?_
    refine WC_region ?_
    refine WL_q (q_move rfl) (by decide) ?_
    refine WL_main rfl (OW_call0 (check_s A c xs hl) (.cons rfl (.nil)) (by decide) (memc (.head _) mem0) fun u3_1 Lo fs hres => ?_)
    obtain ⟨rfl, rfl, rfl⟩ := hres
    refine WL_q (q_move rfl) (by decide) ?_
    refine WL_q (q_extract (vs := [_, _]) rfl rfl) (by decide) ?_
    refine WL_q (q_extract (vs := [_, _]) rfl rfl) (by decide) ?_
    refine WL_q (q_assign rfl) (by decide) ?_
    refine WL_q (q_assign rfl) (by decide) ?_
    refine WL_nil ?_
    refine thenN ?_
    refine WC_seq ?_
    refine WC_region ?_
    refine WL_q (q_move rfl) (by decide) ?_
    refine WL_q (q_neq rfl rfl) (by decide) ?_
    refine WL_nil ?_
    refine thenN ?_
    refine WC_fr [(16, _), (6, _), (4, _), (0, _), (1, _)] (.cons rfl (.cons rfl (.cons rfl (.cons rfl (.cons rfl (.nil _)))))) ?_
    refine WC_cond rfl (fun h16 => ?_) (fun h16 => ?_)
    · refine WC_seq ?_
      refine WC_region ?_
      refine WL_q (q_move rfl) (by decide) ?_
      refine WL_q (q_assign rfl) (by decide) ?_
      refine WL_nil ?_
      refine thenN ?_
      refine WC_ret ?_
      refine thenRet ?_
      refine ⟨_, [], [], fun Z w hs => .tmp rfl (.nil), ?_, fun Z w hs => hs.out (List.Sublist.refl _) (fun _ h => h)⟩
      try simp only [decide_eq_true_eq, decide_eq_false_iff_not, beq_iff_eq, bne_iff_ne, beq_eq_false_iff_ne, ne_eq, Bool.and_eq_true, Bool.not_eq_true', Bool.not_eq_false', Bool.not_eq_true, Bool.not_eq_false, bne_eq_false_iff_eq, Bool.and_eq_false_iff] at *
      first
        | exact ⟨by rw [rangesF_nil (by omega)]; rfl, rfl, rfl⟩
        | exact ⟨by rw [rangesF_at hk0 (by omega), if_pos (by omega)]; rfl, rfl, rfl⟩
        | exact ⟨by rw [rangesF_at hk0 (by omega), if_neg (by omega)]; rfl, rfl, rfl⟩
        | exact ⟨by rw [rangesF_ck (by omega) (by omega)]; rfl, rfl, rfl⟩
    · refine WC_skip ?_
      refine thenN ?_
      refine WC_seq ?_
      refine WC_seq ?_
      try simp only [decide_eq_true_eq, decide_eq_false_iff_not, beq_iff_eq, bne_iff_ne, beq_eq_false_iff_ne, ne_eq, Bool.and_eq_true, Bool.not_eq_true', Bool.not_eq_false', Bool.not_eq_true, Bool.not_eq_false, bne_eq_false_iff_eq, Bool.and_eq_false_iff] at *
      have hk0 : xs.length - 1 < xs.length := by omega
      refine WC_elem (k := (xs.length - 1)) (.head _) (List.getElem?_eq_getElem hk0) (rg_open _) fun b6 q6 y6 e6 => ?_
      cases e6
      refine WC_region ?_
      refine WL_q (q_move rfl) (by decide) ?_
      refine WL_q (q_move rfl) (by decide) ?_
      refine WL_q (q_len Tryd.underlying29 rfl) (by decide) ?_
      refine WL_q (q_sub rfl rfl (by rw [wr64 (by omega)]; omega) (c := ((xs.length - 1 : Nat) : Int))) (by decide) ?_
      refine WL_q (q_idxRd Tryd.underlying29 ti37 rfl rfl (by omega) (by omega)) (by decide) ?_
      refine WL_q (q_field (o' := _ + 1) Tryd.underlying37 rfl ti3 rfl rfl) (by decide) ?_
      refine WL_q (q_loadF1 (j := 1) Tryd.underlying3 rfl rfl (.head _) rfl rfl) (by decide) ?_
      refine WL_q (q_move rfl) (by decide) ?_
      refine WL_q (q_gtr rfl rfl) (by decide) ?_
      refine WL_nil ?_
      refine thenN ?_
      refine WC_fr [(26, _), (4, _)] (.cons rfl (.cons rfl (.nil _))) ?_
      refine WC_cond rfl (fun h26 => ?_) (fun h26 => ?_)
      · refine WC_seq ?_
        refine WC_region ?_
        refine WL_q (q_assign rfl) (by decide) ?_
        refine WL_nil ?_
        refine thenN ?_
        refine WC_ret ?_
        refine thenRet ?_
        refine ⟨_, [], [], fun Z w hs => .tmp rfl (.nil), ?_, fun Z w hs => hs.out (List.Sublist.refl _) (fun _ h => .tail _ h)⟩
        try simp only [decide_eq_true_eq, decide_eq_false_iff_not, beq_iff_eq, bne_iff_ne, beq_eq_false_iff_ne, ne_eq, Bool.and_eq_true, Bool.not_eq_true', Bool.not_eq_false', Bool.not_eq_true, Bool.not_eq_false, bne_eq_false_iff_eq, Bool.and_eq_false_iff] at *
        first
          | exact ⟨by rw [rangesF_nil (by omega)]; rfl, rfl, rfl⟩
          | exact ⟨by rw [rangesF_at hk0 (by omega), if_pos (by omega)]; rfl, rfl, rfl⟩
          | exact ⟨by rw [rangesF_at hk0 (by omega), if_neg (by omega)]; rfl, rfl, rfl⟩
          | exact ⟨by rw [rangesF_ck (by omega) (by omega)]; rfl, rfl, rfl⟩
      · refine WC_skip ?_
        refine thenN ?_
        refine WC_seq ?_
        refine WC_region ?_
        refine WL_q (q_assign rfl) (by decide) ?_
        refine WL_nil ?_
        refine thenN ?_
        refine WC_ret ?_
        refine ⟨_, [], [], fun Z w hs => .tmp rfl (.nil), ?_, fun Z w hs => hs.out (List.Sublist.refl _) (fun _ h => .tail _ h)⟩
        try simp only [decide_eq_true_eq, decide_eq_false_iff_not, beq_iff_eq, bne_iff_ne, beq_eq_false_iff_ne, ne_eq, Bool.and_eq_true, Bool.not_eq_true', Bool.not_eq_false', Bool.not_eq_true, Bool.not_eq_false, bne_eq_false_iff_eq, Bool.and_eq_false_iff] at *
        first
          | exact ⟨by rw [rangesF_nil (by omega)]; rfl, rfl, rfl⟩
          | exact ⟨by rw [rangesF_at hk0 (by omega), if_pos (by omega)]; rfl, rfl, rfl⟩
          | exact ⟨by rw [rangesF_at hk0 (by omega), if_neg (by omega)]; rfl, rfl, rfl⟩
          | exact ⟨by rw [rangesF_ck (by omega) (by omega)]; rfl, rfl, rfl⟩


set_option maxRecDepth 10000 in
theorem opCheck_s (o : GOp) (A : Option Addr) (c : Nat) (total : Int) (hs : o.text.size ≤ 4611686018427387904) (hl : o.rs.length ≤ 4398046511104) : Sp Tryd.prog 60 [opV o A c, .int .i64 total] [] [barF, RdF rgD A c o.rs] (Is (.int .i64 (checkF o total))) := by
  refine Sp.of (n := 65) ⟨_, Tryd.func60, rfl, rfl, rfl, rfl⟩ (Nat.le_of_ble_eq_true rfl) fun Ps As => ?_
  refine WC_seq ?_
  refine WC_region ?_
  refine WL_main rfl (OW_box (cs := [_, _, _, _, _, _, _, _, _]) rfl rfl (by decide) fun b2 => ?_)
  refine WL_q (q_assign rfl) (by decide) ?_
  refine WL_nil ?_
  refine thenN ?_
  refine WC_seq ?_
  refine WC_block ?_
  refine WC_seq ?_
  refine WC_region ?_
  refine WL_q (q_move rfl) (by decide) ?_
  refine WL_q (q_lss rfl rfl) (by decide) ?_
  refine WL_q (q_move rfl) (by decide) ?_
  refine WL_guard (t := 8) rfl (fun g8 => ?_) (fun g8 => ?_)
  · refine WL_gno rfl rfl rfl g8 (by decide) ?_
    refine WL_gno rfl rfl rfl g8 (by decide) ?_
    refine WL_q (q_pickT rfl g8 rfl) (by decide) ?_
    refine WL_q (q_assign rfl) (by decide) ?_
    refine WL_nil ?_
    refine thenN ?_
    refine WC_true rfl rfl ?_
    refine WC_seq ?_
    refine WC_region ?_
    refine WL_q (q_assign rfl) (by decide) ?_
    refine WL_nil ?_
    refine thenN ?_
    refine WC_ret ?_
    refine blockRet ?_
    refine thenRet ?_
    refine ⟨_, [], [], fun Z w hs => .tmp rfl (.nil), ?_, fun Z w hs => hs.out (List.Sublist.cons _ (List.Sublist.refl _)) (fun _ h => h)⟩
    try simp only [decide_eq_true_eq, decide_eq_false_iff_not, beq_iff_eq, bne_iff_ne, beq_eq_false_iff_ne, ne_eq, Bool.and_eq_true, Bool.not_eq_true', Bool.not_eq_false', Bool.not_eq_true, Bool.not_eq_false, bne_eq_false_iff_eq, Bool.and_eq_false_iff] at *
    exact ⟨congrArg (Value.int .i64) (by unfold checkF rightF; simp_all <;> omega), rfl, rfl⟩
  · refine WL_gq rfl rfl rfl g8 (q_move rfl) (by decide) ?_
    refine WL_gq rfl rfl rfl g8 (q_gtr rfl rfl) (by decide) ?_
    refine WL_q (q_pickF rfl g8 rfl) (by decide) ?_
    refine WL_q (q_assign rfl) (by decide) ?_
    refine WL_nil ?_
    refine thenN ?_
    refine WC_cond rfl (fun h5 => ?_) (fun h5 => ?_)
    · refine WC_seq ?_
      refine WC_region ?_
      refine WL_q (q_assign rfl) (by decide) ?_
      refine WL_nil ?_
      refine thenN ?_
      refine WC_ret ?_
      refine blockRet ?_
      refine thenRet ?_
      refine ⟨_, [], [], fun Z w hs => .tmp rfl (.nil), ?_, fun Z w hs => hs.out (List.Sublist.cons _ (List.Sublist.refl _)) (fun _ h => h)⟩
      try simp only [decide_eq_true_eq, decide_eq_false_iff_not, beq_iff_eq, bne_iff_ne, beq_eq_false_iff_ne, ne_eq, Bool.and_eq_true, Bool.not_eq_true', Bool.not_eq_false', Bool.not_eq_true, Bool.not_eq_false, bne_eq_false_iff_eq, Bool.and_eq_false_iff] at *
      exact ⟨congrArg (Value.int .i64) (by unfold checkF rightF; simp_all <;> omega), rfl, rfl⟩
    · refine WC_seq ?_
      refine WC_region ?_
      refine WL_q (q_field (o' := 0) Tryd.underlying31 rfl ti28 rfl rfl) (by decide) ?_
      refine WL_q (q_field (o' := 2) Tryd.underlying28 rfl ti26 rfl rfl) (by decide) ?_
      refine WL_q (q_load1 Tryd.underlying26 rfl rfl own0 rfl) (by decide) ?_
      refine WL_q (q_lss rfl rfl) (by decide) ?_
      refine WL_q (q_move rfl) (by decide) ?_
      refine WL_guard (t := 17) rfl (fun g17 => ?_) (fun g17 => ?_)
      · refine WL_gno rfl rfl rfl g17 (by decide) ?_
        refine WL_gno rfl rfl rfl g17 (by decide) ?_
        refine WL_gno rfl rfl rfl g17 (by decide) ?_
        refine WL_gno rfl rfl rfl g17 (by decide) ?_
        refine WL_q (q_pickT rfl g17 rfl) (by decide) ?_
        refine WL_q (q_assign rfl) (by decide) ?_
        refine WL_nil ?_
        refine thenN ?_
        refine WC_fr [(12, _), (4, _), (2, _), (1, _)] (.cons rfl (.cons rfl (.cons rfl (.cons rfl (.nil _))))) ?_
        refine WC_true rfl rfl ?_
        refine WC_seq ?_
        refine WC_region ?_
        refine WL_q (q_assign rfl) (by decide) ?_
        refine WL_nil ?_
        refine thenN ?_
        refine WC_ret ?_
        refine blockRet ?_
        refine thenRet ?_
        refine ⟨_, [], [], fun Z w hs => .tmp rfl (.nil), ?_, fun Z w hs => hs.out (List.Sublist.cons _ (List.Sublist.refl _)) (fun _ h => h)⟩
        try simp only [decide_eq_true_eq, decide_eq_false_iff_not, beq_iff_eq, bne_iff_ne, beq_eq_false_iff_ne, ne_eq, Bool.and_eq_true, Bool.not_eq_true', Bool.not_eq_false', Bool.not_eq_true, Bool.not_eq_false, bne_eq_false_iff_eq, Bool.and_eq_false_iff] at *
        exact ⟨congrArg (Value.int .i64) (by unfold checkF rightF; simp_all <;> omega), rfl, rfl⟩
      · refine WL_gq rfl rfl rfl g17 (q_field (o' := 0) Tryd.underlying31 rfl ti28 rfl rfl) (by decide) ?_
        refine WL_gq rfl rfl rfl g17 (q_field (o' := 2) Tryd.underlying28 rfl ti26 rfl rfl) (by decide) ?_
        refine WL_gq rfl rfl rfl g17 (q_load1 Tryd.underlying26 rfl rfl own0 rfl) (by decide) ?_
        refine WL_gq rfl rfl rfl g17 (q_gtr rfl rfl) (by decide) ?_
        refine WL_q (q_pickF rfl g17 rfl) (by decide) ?_
        refine WL_q (q_assign rfl) (by decide) ?_
        refine WL_nil ?_
        refine thenN ?_
        refine WC_fr [(12, _), (4, _), (2, _), (1, _)] (.cons rfl (.cons rfl (.cons rfl (.cons rfl (.nil _))))) ?_
        refine WC_cond rfl (fun h12 => ?_) (fun h12 => ?_)
        · refine WC_seq ?_
          refine WC_region ?_
          refine WL_q (q_assign rfl) (by decide) ?_
          refine WL_nil ?_
          refine thenN ?_
          refine WC_ret ?_
          refine blockRet ?_
          refine thenRet ?_
          refine ⟨_, [], [], fun Z w hs => .tmp rfl (.nil), ?_, fun Z w hs => hs.out (List.Sublist.cons _ (List.Sublist.refl _)) (fun _ h => h)⟩
          try simp only [decide_eq_true_eq, decide_eq_false_iff_not, beq_iff_eq, bne_iff_ne, beq_eq_false_iff_ne, ne_eq, Bool.and_eq_true, Bool.not_eq_true', Bool.not_eq_false', Bool.not_eq_true, Bool.not_eq_false, bne_eq_false_iff_eq, Bool.and_eq_false_iff] at *
          exact ⟨congrArg (Value.int .i64) (by unfold checkF rightF; simp_all <;> omega), rfl, rfl⟩
        · refine WC_seq ?_
          refine WC_region ?_
          refine WL_q (q_field (o' := 0) Tryd.underlying31 rfl ti28 rfl rfl) (by decide) ?_
          refine WL_q (q_field (o' := 0) Tryd.underlying28 rfl ti25 rfl rfl) (by decide) ?_
          refine WL_q (q_loadN (vs := [_, _]) Tryd.underlying25 rfl ti25 rfl own0 rfl rfl) (by decide) ?_
          refine WL_q (q_build (.nil) (bd25Xw8)) (by decide) ?_
          refine WL_q (q_aggneq rfl rfl (eq25 _ _ _ _)) (by decide) ?_
          refine WL_q (q_move rfl) (by decide) ?_
          refine WL_guard (t := 29) rfl (fun g29 => ?_) (fun g29 => ?_)
          · refine WL_gq rfl rfl rfl g29 (q_field (o' := 0) Tryd.underlying31 rfl ti28 rfl rfl) (by decide) ?_
            refine WL_gq rfl rfl rfl g29 (q_field (o' := 0) Tryd.underlying28 rfl ti25 rfl rfl) (by decide) ?_
            refine WL_gq rfl rfl rfl g29 (q_loadN (vs := [_, _]) Tryd.underlying25 rfl ti25 rfl own0 rfl rfl) (by decide) ?_
            refine WL_gmain rfl rfl rfl g29 (OW_call0 (right_s o.c o.n) (.cons rfl (.nil)) (by decide) mem0 fun u5_9 Lo fs hres => ?_)
            obtain ⟨rfl, rfl, rfl⟩ := hres
            refine WL_gq rfl rfl rfl g29 (q_not rfl) (by decide) ?_
            refine WL_q (q_pickT rfl g29 rfl) (by decide) ?_
            refine WL_q (q_assign rfl) (by decide) ?_
            refine WL_nil ?_
            refine thenN ?_
            refine WC_fr [(23, _), (4, _), (2, _), (1, _)] (.cons rfl (.cons rfl (.cons rfl (.cons rfl (.nil _))))) ?_
            refine WC_cond rfl (fun h23 => ?_) (fun h23 => ?_)
            · refine WC_seq ?_
              refine WC_region ?_
              refine WL_q (q_assign rfl) (by decide) ?_
              refine WL_nil ?_
              refine thenN ?_
              refine WC_ret ?_
              refine blockRet ?_
              refine thenRet ?_
              refine ⟨_, [], [], fun Z w hs => .tmp rfl (.nil), ?_, fun Z w hs => hs.out (List.Sublist.cons _ (List.Sublist.refl _)) (fun _ h => h)⟩
              try simp only [decide_eq_true_eq, decide_eq_false_iff_not, beq_iff_eq, bne_iff_ne, beq_eq_false_iff_ne, ne_eq, Bool.and_eq_true, Bool.not_eq_true', Bool.not_eq_false', Bool.not_eq_true, Bool.not_eq_false, bne_eq_false_iff_eq, Bool.and_eq_false_iff] at *
              exact ⟨congrArg (Value.int .i64) (by unfold checkF rightF; simp_all <;> omega), rfl, rfl⟩
            · refine WC_seq ?_
              refine WC_region ?_
              refine WL_q (q_loadN (vs := [_, _, _, _, _, _, _, _, _]) Tryd.underlying31 rfl ti31 rfl own0 rfl rfl) (by decide) ?_
              refine WL_main rfl (OW_call0 (extra_s o A c) (.cons rfl (.nil)) (by decide) mem0 fun u7_1 Lo fs hres => ?_)
              obtain ⟨rfl, rfl, rfl⟩ := hres
              refine WL_q (q_assign rfl) (by decide) ?_
              refine WL_nil ?_
              refine thenN ?_
              refine WC_cond rfl (fun h36 => ?_) (fun h36 => ?_)
              · refine WC_seq ?_
                refine WC_region ?_
                refine WL_q (q_assign rfl) (by decide) ?_
                refine WL_nil ?_
                refine thenN ?_
                refine WC_ret ?_
                refine blockRet ?_
                refine thenRet ?_
                refine ⟨_, [], [], fun Z w hs => .tmp rfl (.nil), ?_, fun Z w hs => hs.out (List.Sublist.cons _ (List.Sublist.refl _)) (fun _ h => h)⟩
                try simp only [decide_eq_true_eq, decide_eq_false_iff_not, beq_iff_eq, bne_iff_ne, beq_eq_false_iff_ne, ne_eq, Bool.and_eq_true, Bool.not_eq_true', Bool.not_eq_false', Bool.not_eq_true, Bool.not_eq_false, bne_eq_false_iff_eq, Bool.and_eq_false_iff] at *
                exact ⟨congrArg (Value.int .i64) (by unfold checkF rightF; simp_all <;> omega), rfl, rfl⟩
              · refine WC_skip ?_
                refine blockN ?_
                refine thenN ?_
                refine WC_seq ?_
                refine WC_seq ?_
                refine WC_region ?_
                refine WL_q (q_field (o' := 0) Tryd.underlying31 rfl ti28 rfl rfl) (by decide) ?_
                refine WL_q (q_field (o' := 2) Tryd.underlying28 rfl ti26 rfl rfl) (by decide) ?_
                refine WL_q (q_load1 Tryd.underlying26 rfl rfl own0 rfl) (by decide) ?_
                refine WL_nil ?_
                refine thenN ?_
                refine WC_block ?_
                refine WC_seq ?_
                refine WC_region ?_
                refine WL_q (q_eql rfl rfl) (by decide) ?_
                refine WL_q (q_assign rfl) (by decide) ?_
                refine WL_nil ?_
                refine thenN ?_
                refine WC_cond rfl (fun h42 => ?_) (fun h42 => ?_)
                · refine WC_seq ?_
                  refine WC_region ?_
                  refine WL_q (q_loadN (vs := [_, _, _, _, _, _, _, _, _]) Tryd.underlying31 rfl ti31 rfl own0 rfl rfl) (by decide) ?_
                  refine WL_q (q_move rfl) (by decide) ?_
                  try simp only [decide_eq_true_eq, decide_eq_false_iff_not, beq_iff_eq, bne_iff_ne, beq_eq_false_iff_ne, ne_eq, Bool.and_eq_true, Bool.not_eq_true', Bool.not_eq_false', Bool.not_eq_true, Bool.not_eq_false, bne_eq_false_iff_eq, Bool.and_eq_false_iff] at *
                  refine WL_main rfl (OW_call0 (checkIns_s o A c total hs ⟨by omega, by omega⟩) (.cons rfl (.cons rfl (.nil))) (by decide) (memc (.head _) mem0) fun u11_2 Lo fs hres => ?_)
                  obtain ⟨rfl, rfl, rfl⟩ := hres
                  refine WL_q (q_assign rfl) (by decide) ?_
                  refine WL_nil ?_
                  refine thenN ?_
                  refine WC_fr [(4, _), (2, _), (1, _)] (.cons rfl (.cons rfl (.cons rfl (.nil _)))) ?_
                  refine WC_ret ?_
                  refine blockRet ?_
                  refine thenRet ?_
                  refine ⟨_, [], [], fun Z w hs => .tmp rfl (.nil), ?_, fun Z w hs => hs.out (List.Sublist.cons _ (List.Sublist.refl _)) (fun _ h => h)⟩
                  try simp only [decide_eq_true_eq, decide_eq_false_iff_not, beq_iff_eq, bne_iff_ne, beq_eq_false_iff_ne, ne_eq, Bool.and_eq_true, Bool.not_eq_true', Bool.not_eq_false', Bool.not_eq_true, Bool.not_eq_false, bne_eq_false_iff_eq, Bool.and_eq_false_iff] at *
                  exact ⟨congrArg (Value.int .i64) (by unfold checkF rightF; simp_all <;> omega), rfl, rfl⟩
                · refine WC_seq ?_
                  refine WC_region ?_
                  refine WL_q (q_eql rfl rfl) (by decide) ?_
                  refine WL_q (q_assign rfl) (by decide) ?_
                  refine WL_nil ?_
                  refine thenN ?_
                  refine WC_fr [(47, _), (4, _), (2, _), (1, _)] (.cons rfl (.cons rfl (.cons rfl (.cons rfl (.nil _))))) ?_
                  refine WC_cond rfl (fun h47 => ?_) (fun h47 => ?_)
                  · refine WC_seq ?_
                    refine WC_seq ?_
                    refine WC_region ?_
                    refine WL_q (q_field (o' := 6) Tryd.underlying31 rfl ti25 rfl rfl) (by decide) ?_
                    refine WL_q (q_loadN (vs := [_, _]) Tryd.underlying25 rfl ti25 rfl own0 rfl rfl) (by decide) ?_
                    refine WL_main rfl (OW_call0 (right_s o.tc o.tn) (.cons rfl (.nil)) (by decide) mem0 fun u13_2 Lo fs hres => ?_)
                    obtain ⟨rfl, rfl, rfl⟩ := hres
                    refine WL_q (q_not rfl) (by decide) ?_
                    refine WL_q (q_move rfl) (by decide) ?_
                    refine WL_guard (t := 53) rfl (fun g53 => ?_) (fun g53 => ?_)
                    · refine WL_gno rfl rfl rfl g53 (by decide) ?_
                      refine WL_gno rfl rfl rfl g53 (by decide) ?_
                      refine WL_gno rfl rfl rfl g53 (by decide) ?_
                      refine WL_gno rfl rfl rfl g53 (by decide) ?_
                      refine WL_gno rfl rfl rfl g53 (by decide) ?_
                      refine WL_gno rfl rfl rfl g53 (by decide) ?_
                      refine WL_q (q_pickT rfl g53 rfl) (by decide) ?_
                      refine WL_nil ?_
                      refine thenN ?_
                      refine WC_fr [(60, _), (4, _), (2, _), (1, _)] (.cons rfl (.cons rfl (.cons rfl (.cons rfl (.nil _))))) ?_
                      refine WC_true rfl rfl ?_
                      refine WC_seq ?_
                      refine WC_region ?_
                      refine WL_q (q_assign rfl) (by decide) ?_
                      refine WL_nil ?_
                      refine thenN ?_
                      refine WC_ret ?_
                      refine thenRet ?_
                      refine blockRet ?_
                      refine thenRet ?_
                      refine ⟨_, [], [], fun Z w hs => .tmp rfl (.nil), ?_, fun Z w hs => hs.out (List.Sublist.cons _ (List.Sublist.refl _)) (fun _ h => h)⟩
                      try simp only [decide_eq_true_eq, decide_eq_false_iff_not, beq_iff_eq, bne_iff_ne, beq_eq_false_iff_ne, ne_eq, Bool.and_eq_true, Bool.not_eq_true', Bool.not_eq_false', Bool.not_eq_true, Bool.not_eq_false, bne_eq_false_iff_eq, Bool.and_eq_false_iff] at *
                      exact ⟨congrArg (Value.int .i64) (by unfold checkF rightF; simp_all <;> omega), rfl, rfl⟩
                    · refine WL_gq rfl rfl rfl g53 (q_field (o' := 6) Tryd.underlying31 rfl ti25 rfl rfl) (by decide) ?_
                      refine WL_gq rfl rfl rfl g53 (q_loadN (vs := [_, _]) Tryd.underlying25 rfl ti25 rfl own0 rfl rfl) (by decide) ?_
                      refine WL_gq rfl rfl rfl g53 (q_field (o' := 0) Tryd.underlying31 rfl ti28 rfl rfl) (by decide) ?_
                      refine WL_gq rfl rfl rfl g53 (q_field (o' := 0) Tryd.underlying28 rfl ti25 rfl rfl) (by decide) ?_
                      refine WL_gq rfl rfl rfl g53 (q_loadN (vs := [_, _]) Tryd.underlying25 rfl ti25 rfl own0 rfl rfl) (by decide) ?_
                      refine WL_gq rfl rfl rfl g53 (q_aggeql rfl rfl (eq25 _ _ _ _)) (by decide) ?_
                      refine WL_q (q_pickF rfl g53 rfl) (by decide) ?_
                      refine WL_nil ?_
                      refine thenN ?_
                      refine WC_fr [(60, _), (4, _), (2, _), (1, _)] (.cons rfl (.cons rfl (.cons rfl (.cons rfl (.nil _))))) ?_
                      refine WC_cond rfl (fun h60 => ?_) (fun h60 => ?_)
                      · refine WC_seq ?_
                        refine WC_region ?_
                        refine WL_q (q_assign rfl) (by decide) ?_
                        refine WL_nil ?_
                        refine thenN ?_
                        refine WC_ret ?_
                        refine thenRet ?_
                        refine blockRet ?_
                        refine thenRet ?_
                        refine ⟨_, [], [], fun Z w hs => .tmp rfl (.nil), ?_, fun Z w hs => hs.out (List.Sublist.cons _ (List.Sublist.refl _)) (fun _ h => h)⟩
                        try simp only [decide_eq_true_eq, decide_eq_false_iff_not, beq_iff_eq, bne_iff_ne, beq_eq_false_iff_ne, ne_eq, Bool.and_eq_true, Bool.not_eq_true', Bool.not_eq_false', Bool.not_eq_true, Bool.not_eq_false, bne_eq_false_iff_eq, Bool.and_eq_false_iff] at *
                        exact ⟨congrArg (Value.int .i64) (by unfold checkF rightF; simp_all <;> omega), rfl, rfl⟩
                      · refine WC_skip ?_
                        refine thenN ?_
                        refine WC_seq ?_
                        refine WC_region ?_
                        refine WL_q (q_assign rfl) (by decide) ?_
                        refine WL_nil ?_
                        refine thenN ?_
                        refine WC_ret ?_
                        refine blockRet ?_
                        refine thenRet ?_
                        refine ⟨_, [], [], fun Z w hs => .tmp rfl (.nil), ?_, fun Z w hs => hs.out (List.Sublist.cons _ (List.Sublist.refl _)) (fun _ h => h)⟩
                        try simp only [decide_eq_true_eq, decide_eq_false_iff_not, beq_iff_eq, bne_iff_ne, beq_eq_false_iff_ne, ne_eq, Bool.and_eq_true, Bool.not_eq_true', Bool.not_eq_false', Bool.not_eq_true, Bool.not_eq_false, bne_eq_false_iff_eq, Bool.and_eq_false_iff] at *
                        exact ⟨congrArg (Value.int .i64) (by unfold checkF rightF; simp_all <;> omega), rfl, rfl⟩
                  · refine WC_skip ?_
                    refine blockN ?_
                    refine thenN ?_
                    refine WC_seq ?_
                    refine WC_region ?_
                    refine WL_q (q_field (o' := 5) Tryd.underlying31 rfl ti29 rfl rfl) (by decide) ?_
                    refine WL_q (q_load1 Tryd.underlying29 rfl rfl own0 rfl) (by decide) ?_
                    refine WL_q (q_move rfl) (by decide) ?_
                    refine WL_main rfl (OW_call0 (checkRanges_s A c o.rs total hl) (.cons rfl (.cons rfl (.nil))) (by decide) (memc (.tail _ (.head _)) mem0) fun u16_3 Lo fs hres => ?_)
                    obtain ⟨rfl, rfl, rfl⟩ := hres
                    refine WL_q (q_assign rfl) (by decide) ?_
                    refine WL_nil ?_
                    refine thenN ?_
                    refine WC_ret ?_
                    refine ⟨_, [], [], fun Z w hs => .tmp rfl (.nil), ?_, fun Z w hs => hs.out (List.Sublist.cons _ (List.Sublist.refl _)) (fun _ h => h)⟩
                    try simp only [decide_eq_true_eq, decide_eq_false_iff_not, beq_iff_eq, bne_iff_ne, beq_eq_false_iff_ne, ne_eq, Bool.and_eq_true, Bool.not_eq_true', Bool.not_eq_false', Bool.not_eq_true, Bool.not_eq_false, bne_eq_false_iff_eq, Bool.and_eq_false_iff] at *
                    exact ⟨congrArg (Value.int .i64) (by unfold checkF rightF; simp_all <;> omega), rfl, rfl⟩
          · refine WL_gno rfl rfl rfl g29 (by decide) ?_
            refine WL_gno rfl rfl rfl g29 (by decide) ?_
            refine WL_gno rfl rfl rfl g29 (by decide) ?_
            refine WL_gno rfl rfl rfl g29 (by decide) ?_
            refine WL_gno rfl rfl rfl g29 (by decide) ?_
            refine WL_q (q_pickF rfl g29 rfl) (by decide) ?_
            refine WL_q (q_assign rfl) (by decide) ?_
            refine WL_nil ?_
            refine thenN ?_
            refine WC_fr [(23, _), (4, _), (2, _), (1, _)] (.cons rfl (.cons rfl (.cons rfl (.cons rfl (.nil _))))) ?_
            refine WC_false rfl rfl ?_
            refine WC_seq ?_
            refine WC_region ?_
            refine WL_q (q_loadN (vs := [_, _, _, _, _, _, _, _, _]) Tryd.underlying31 rfl ti31 rfl own0 rfl rfl) (by decide) ?_
            refine WL_main rfl (OW_call0 (extra_s o A c) (.cons rfl (.nil)) (by decide) mem0 fun u7_1 Lo fs hres => ?_)
            obtain ⟨rfl, rfl, rfl⟩ := hres
            refine WL_q (q_assign rfl) (by decide) ?_
            refine WL_nil ?_
            refine thenN ?_
            refine WC_cond rfl (fun h36 => ?_) (fun h36 => ?_)
            · refine WC_seq ?_
              refine WC_region ?_
              refine WL_q (q_assign rfl) (by decide) ?_
              refine WL_nil ?_
              refine thenN ?_
              refine WC_ret ?_
              refine blockRet ?_
              refine thenRet ?_
              refine ⟨_, [], [], fun Z w hs => .tmp rfl (.nil), ?_, fun Z w hs => hs.out (List.Sublist.cons _ (List.Sublist.refl _)) (fun _ h => h)⟩
              try simp only [decide_eq_true_eq, decide_eq_false_iff_not, beq_iff_eq, bne_iff_ne, beq_eq_false_iff_ne, ne_eq, Bool.and_eq_true, Bool.not_eq_true', Bool.not_eq_false', Bool.not_eq_true, Bool.not_eq_false, bne_eq_false_iff_eq, Bool.and_eq_false_iff] at *
              exact ⟨congrArg (Value.int .i64) (by unfold checkF rightF; simp_all <;> omega), rfl, rfl⟩
            · refine WC_skip ?_
              refine blockN ?_
              refine thenN ?_
              refine WC_seq ?_
              refine WC_seq ?_
              refine WC_region ?_
              refine WL_q (q_field (o' := 0) Tryd.underlying31 rfl ti28 rfl rfl) (by decide) ?_
              refine WL_q (q_field (o' := 2) Tryd.underlying28 rfl ti26 rfl rfl) (by decide) ?_
              refine WL_q (q_load1 Tryd.underlying26 rfl rfl own0 rfl) (by decide) ?_
              refine WL_nil ?_
              refine thenN ?_
              refine WC_block ?_
              refine WC_seq ?_
              refine WC_region ?_
              refine WL_q (q_eql rfl rfl) (by decide) ?_
              refine WL_q (q_assign rfl) (by decide) ?_
              refine WL_nil ?_
              refine thenN ?_
              refine WC_cond rfl (fun h42 => ?_) (fun h42 => ?_)
              · refine WC_seq ?_
                refine WC_region ?_
                refine WL_q (q_loadN (vs := [_, _, _, _, _, _, _, _, _]) Tryd.underlying31 rfl ti31 rfl own0 rfl rfl) (by decide) ?_
                refine WL_q (q_move rfl) (by decide) ?_
                try simp only [decide_eq_true_eq, decide_eq_false_iff_not, beq_iff_eq, bne_iff_ne, beq_eq_false_iff_ne, ne_eq, Bool.and_eq_true, Bool.not_eq_true', Bool.not_eq_false', Bool.not_eq_true, Bool.not_eq_false, bne_eq_false_iff_eq, Bool.and_eq_false_iff] at *
                refine WL_main rfl (OW_call0 (checkIns_s o A c total hs ⟨by omega, by omega⟩) (.cons rfl (.cons rfl (.nil))) (by decide) (memc (.head _) mem0) fun u11_2 Lo fs hres => ?_)
                obtain ⟨rfl, rfl, rfl⟩ := hres
                refine WL_q (q_assign rfl) (by decide) ?_
                refine WL_nil ?_
                refine thenN ?_
                refine WC_fr [(4, _), (2, _), (1, _)] (.cons rfl (.cons rfl (.cons rfl (.nil _)))) ?_
                refine WC_ret ?_
                refine blockRet ?_
                refine thenRet ?_
                refine ⟨_, [], [], fun Z w hs => .tmp rfl (.nil), ?_, fun Z w hs => hs.out (List.Sublist.cons _ (List.Sublist.refl _)) (fun _ h => h)⟩
                try simp only [decide_eq_true_eq, decide_eq_false_iff_not, beq_iff_eq, bne_iff_ne, beq_eq_false_iff_ne, ne_eq, Bool.and_eq_true, Bool.not_eq_true', Bool.not_eq_false', Bool.not_eq_true, Bool.not_eq_false, bne_eq_false_iff_eq, Bool.and_eq_false_iff] at *
                exact ⟨congrArg (Value.int .i64) (by unfold checkF rightF; simp_all <;> omega), rfl, rfl⟩
              · refine WC_seq ?_
                refine WC_region ?_
                refine WL_q (q_eql rfl rfl) (by decide) ?_
                refine WL_q (q_assign rfl) (by decide) ?_
                refine WL_nil ?_
                refine thenN ?_
                refine WC_fr [(47, _), (4, _), (2, _), (1, _)] (.cons rfl (.cons rfl (.cons rfl (.cons rfl (.nil _))))) ?_
                refine WC_cond rfl (fun h47 => ?_) (fun h47 => ?_)
                · refine WC_seq ?_
                  refine WC_seq ?_
                  refine WC_region ?_
                  refine WL_q (q_field (o' := 6) Tryd.underlying31 rfl ti25 rfl rfl) (by decide) ?_
                  refine WL_q (q_loadN (vs := [_, _]) Tryd.underlying25 rfl ti25 rfl own0 rfl rfl) (by decide) ?_
                  refine WL_main rfl (OW_call0 (right_s o.tc o.tn) (.cons rfl (.nil)) (by decide) mem0 fun u13_2 Lo fs hres => ?_)
                  obtain ⟨rfl, rfl, rfl⟩ := hres
                  refine WL_q (q_not rfl) (by decide) ?_
                  refine WL_q (q_move rfl) (by decide) ?_
                  refine WL_guard (t := 53) rfl (fun g53 => ?_) (fun g53 => ?_)
                  · refine WL_gno rfl rfl rfl g53 (by decide) ?_
                    refine WL_gno rfl rfl rfl g53 (by decide) ?_
                    refine WL_gno rfl rfl rfl g53 (by decide) ?_
                    refine WL_gno rfl rfl rfl g53 (by decide) ?_
                    refine WL_gno rfl rfl rfl g53 (by decide) ?_
                    refine WL_gno rfl rfl rfl g53 (by decide) ?_
                    refine WL_q (q_pickT rfl g53 rfl) (by decide) ?_
                    refine WL_nil ?_
                    refine thenN ?_
                    refine WC_fr [(60, _), (4, _), (2, _), (1, _)] (.cons rfl (.cons rfl (.cons rfl (.cons rfl (.nil _))))) ?_
                    refine WC_true rfl rfl ?_
                    refine WC_seq ?_
                    refine WC_region ?_
                    refine WL_q (q_assign rfl) (by decide) ?_
                    refine WL_nil ?_
                    refine thenN ?_
                    refine WC_ret ?_
                    refine thenRet ?_
                    refine blockRet ?_
                    refine thenRet ?_
                    refine ⟨_, [], [], fun Z w hs => .tmp rfl (.nil), ?_, fun Z w hs => hs.out (List.Sublist.cons _ (List.Sublist.refl _)) (fun _ h => h)⟩
                    try simp only [decide_eq_true_eq, decide_eq_false_iff_not, beq_iff_eq, bne_iff_ne, beq_eq_false_iff_ne, ne_eq, Bool.and_eq_true, Bool.not_eq_true', Bool.not_eq_false', Bool.not_eq_true, Bool.not_eq_false, bne_eq_false_iff_eq, Bool.and_eq_false_iff] at *
                    exact ⟨congrArg (Value.int .i64) (by unfold checkF rightF; simp_all <;> omega), rfl, rfl⟩
                  · refine WL_gq rfl rfl rfl g53 (q_field (o' := 6) Tryd.underlying31 rfl ti25 rfl rfl) (by decide) ?_
                    refine WL_gq rfl rfl rfl g53 (q_loadN (vs := [_, _]) Tryd.underlying25 rfl ti25 rfl own0 rfl rfl) (by decide) ?_
                    refine WL_gq rfl rfl rfl g53 (q_field (o' := 0) Tryd.underlying31 rfl ti28 rfl rfl) (by decide) ?_
                    refine WL_gq rfl rfl rfl g53 (q_field (o' := 0) Tryd.underlying28 rfl ti25 rfl rfl) (by decide) ?_
                    refine WL_gq rfl rfl rfl g53 (q_loadN (vs := [_, _]) Tryd.underlying25 rfl ti25 rfl own0 rfl rfl) (by decide) ?_
                    refine WL_gq rfl rfl rfl g53 (q_aggeql rfl rfl (eq25 _ _ _ _)) (by decide) ?_
                    refine WL_q (q_pickF rfl g53 rfl) (by decide) ?_
                    refine WL_nil ?_
                    refine thenN ?_
                    refine WC_fr [(60, _), (4, _), (2, _), (1, _)] (.cons rfl (.cons rfl (.cons rfl (.cons rfl (.nil _))))) ?_
                    refine WC_cond rfl (fun h60 => ?_) (fun h60 => ?_)
                    · refine WC_seq ?_
                      refine WC_region ?_
                      refine WL_q (q_assign rfl) (by decide) ?_
                      refine WL_nil ?_
                      refine thenN ?_
                      refine WC_ret ?_
                      refine thenRet ?_
                      refine blockRet ?_
                      refine thenRet ?_
                      refine ⟨_, [], [], fun Z w hs => .tmp rfl (.nil), ?_, fun Z w hs => hs.out (List.Sublist.cons _ (List.Sublist.refl _)) (fun _ h => h)⟩
                      try simp only [decide_eq_true_eq, decide_eq_false_iff_not, beq_iff_eq, bne_iff_ne, beq_eq_false_iff_ne, ne_eq, Bool.and_eq_true, Bool.not_eq_true', Bool.not_eq_false', Bool.not_eq_true, Bool.not_eq_false, bne_eq_false_iff_eq, Bool.and_eq_false_iff] at *
                      exact ⟨congrArg (Value.int .i64) (by unfold checkF rightF; simp_all <;> omega), rfl, rfl⟩
                    · refine WC_skip ?_
                      refine thenN ?_
                      refine WC_seq ?_
                      refine WC_region ?_
                      refine WL_q (q_assign rfl) (by decide) ?_
                      refine WL_nil ?_
                      refine thenN ?_
                      refine WC_ret ?_
                      refine blockRet ?_
                      refine thenRet ?_
                      refine ⟨_, [], [], fun Z w hs => .tmp rfl (.nil), ?_, fun Z w hs => hs.out (List.Sublist.cons _ (List.Sublist.refl _)) (fun _ h => h)⟩
                      try simp only [decide_eq_true_eq, decide_eq_false_iff_not, beq_iff_eq, bne_iff_ne, beq_eq_false_iff_ne, ne_eq, Bool.and_eq_true, Bool.not_eq_true', Bool.not_eq_false', Bool.not_eq_true, Bool.not_eq_false, bne_eq_false_iff_eq, Bool.and_eq_false_iff] at *
                      exact ⟨congrArg (Value.int .i64) (by unfold checkF rightF; simp_all <;> omega), rfl, rfl⟩
                · refine WC_skip ?_
                  refine blockN ?_
                  refine thenN ?_
                  refine WC_seq ?_
                  refine WC_region ?_
                  refine WL_q (q_field (o' := 5) Tryd.underlying31 rfl ti29 rfl rfl) (by decide) ?_
                  refine WL_q (q_load1 Tryd.underlying29 rfl rfl own0 rfl) (by decide) ?_
                  refine WL_q (q_move rfl) (by decide) ?_
                  refine WL_main rfl (OW_call0 (checkRanges_s A c o.rs total hl) (.cons rfl (.cons rfl (.nil))) (by decide) (memc (.tail _ (.head _)) mem0) fun u16_3 Lo fs hres => ?_)
                  obtain ⟨rfl, rfl, rfl⟩ := hres
                  refine WL_q (q_assign rfl) (by decide) ?_
                  refine WL_nil ?_
                  refine thenN ?_
                  refine WC_ret ?_
                  refine ⟨_, [], [], fun Z w hs => .tmp rfl (.nil), ?_, fun Z w hs => hs.out (List.Sublist.cons _ (List.Sublist.refl _)) (fun _ h => h)⟩
                  try simp only [decide_eq_true_eq, decide_eq_false_iff_not, beq_iff_eq, bne_iff_ne, beq_eq_false_iff_ne, ne_eq, Bool.and_eq_true, Bool.not_eq_true', Bool.not_eq_false', Bool.not_eq_true, Bool.not_eq_false, bne_eq_false_iff_eq, Bool.and_eq_false_iff] at *
                  exact ⟨congrArg (Value.int .i64) (by unfold checkF rightF; simp_all <;> omega), rfl, rfl⟩

end Go.Proofs.YtggdddkbhigjoaaDoor
