/- Walks: history.fits. -/
import Derived.Test.YtggdddkbhigjoaaDoorWl
set_option linter.unusedVariables false
set_option linter.unusedSimpArgs false
namespace Go.Proofs.YtggdddkbhigjoaaDoor
open Go Go.GW
theorem keyT : KeyT Tryd.prog 25 := ⟨⟨3, _, _, Tryd.underlying25, Tryd.underlying3, ti3⟩, eq25⟩
theorem bd25Xw13  (w : World) : (Instr.build 25 #[]).run Tryd.prog w = .ok (.agg #[.int .i64 0, .int .i64 0]) w := by kernel_rfl

set_option maxRecDepth 10000 in
theorem fits_s (h m cap : Nat) (A : Option Addr) (H : Hist) (L : List MR) (hr : HR H L) (i : Int) (o : GOp) (Ao : Option Addr) (co : Nat) (ho : Fit o) : Sp Tryd.prog 39 [.pointer (some ⟨h, 0, none⟩), .int .i64 i, opV o Ao co] [hdP h A H.ops.length cap m H.total, mpP m L, mkP L] [barF, RdF opD A cap H.ops, RdF rgD Ao co o.rs] (HIs (.int .i64 (fitsF H i o)) [hdP h A H.ops.length cap m H.total, mpP m L, mkP L]) := by
  have hol := ops_len H
  have hlen := hr.len
  refine Sp.of (n := 91) ⟨_, Tryd.func39, rfl, rfl, rfl, rfl⟩ (Nat.le_of_ble_eq_true rfl) fun Ps As => ?_
  refine WC_seq ?_
  refine WC_region ?_
  refine WL_main rfl (OW_box (cs := [_, _, _, _, _, _, _, _, _]) rfl rfl (by decide) fun b5 => ?_)
  refine WL_q (q_assign rfl) (by decide) ?_
  refine WL_nil ?_
  refine thenN ?_
  refine WC_seq ?_
  refine WC_seq ?_
  refine WC_region ?_
  refine WL_q (q_move rfl) (by decide) ?_
  refine WL_q (q_lss rfl rfl) (by decide) ?_
  refine WL_q (q_move rfl) (by decide) ?_
  refine WL_guard (t := 11) rfl (fun g11 => ?_) (fun g11 => ?_)
  · refine WL_gno rfl rfl rfl g11 (by decide) ?_
    refine WL_gno rfl rfl rfl g11 (by decide) ?_
    refine WL_gno rfl rfl rfl g11 (by decide) ?_
    refine WL_gno rfl rfl rfl g11 (by decide) ?_
    refine WL_gno rfl rfl rfl g11 (by decide) ?_
    refine WL_gno rfl rfl rfl g11 (by decide) ?_
    refine WL_gno rfl rfl rfl g11 (by decide) ?_
    refine WL_q (q_pickT rfl g11 rfl) (by decide) ?_
    refine WL_nil ?_
    refine thenN ?_
    refine WC_fr [(19, _), (6, _), (5, _), (0, _), (1, _)] (.cons rfl (.cons rfl (.cons rfl (.cons rfl (.cons rfl (.nil _)))))) ?_
    refine WC_true rfl rfl ?_
    refine WC_seq ?_
    refine WC_region ?_
    refine WL_q (q_assign rfl) (by decide) ?_
    refine WL_nil ?_
    refine thenN ?_
    refine WC_ret ?_
    refine thenRet ?_
    refine ⟨_, [_, _, _], [], fun Z w hs => .tmp rfl (.nil), ?_, fun Z w hs => hs.out (List.Sublist.cons _ (List.Sublist.cons_cons _ (List.Sublist.cons_cons _ (List.Sublist.cons_cons _ (List.Sublist.refl _))))) (fun _ h => h)⟩
    try simp only [decide_eq_true_eq, decide_eq_false_iff_not, beq_iff_eq, bne_iff_ne, beq_eq_false_iff_ne, ne_eq, Bool.and_eq_true, Bool.not_eq_true', Bool.not_eq_false', Bool.not_eq_true, Bool.not_eq_false, bne_eq_false_iff_eq, Bool.and_eq_false_iff] at *
    refine ⟨congrArg (Value.int .i64) ?_, rfl, rfl⟩
    unfold fitsF fitsT fitsRest
    first | (simp_all; done) | (simp_all; omega) | (repeat' split; all_goals first | rfl | omega | (simp_all; done) | (simp_all; omega))
  · refine WL_gq rfl rfl rfl g11 (q_move rfl) (by decide) ?_
    refine WL_gq rfl rfl rfl g11 (q_move rfl) (by decide) ?_
    refine WL_gq rfl rfl rfl g11 (q_nil rfl) (by decide) ?_
    refine WL_gq rfl rfl rfl g11 (q_field (o' := 0) Tryd.underlying97 rfl ti45 rfl rfl) (by decide) ?_
    refine WL_gq rfl rfl rfl g11 (q_load1 Tryd.underlying45 rfl rfl (ownS (own0)) rfl) (by decide) ?_
    refine WL_gq rfl rfl rfl g11 (q_len Tryd.underlying45 rfl) (by decide) ?_
    refine WL_gq rfl rfl rfl g11 (q_gtr rfl rfl) (by decide) ?_
    refine WL_q (q_pickF rfl g11 rfl) (by decide) ?_
    refine WL_nil ?_
    refine thenN ?_
    refine WC_fr [(19, _), (6, _), (5, _), (0, _), (1, _)] (.cons rfl (.cons rfl (.cons rfl (.cons rfl (.cons rfl (.nil _)))))) ?_
    refine WC_cond rfl (fun h19 => ?_) (fun h19 => ?_)
    · refine WC_seq ?_
      refine WC_region ?_
      refine WL_q (q_assign rfl) (by decide) ?_
      refine WL_nil ?_
      refine thenN ?_
      refine WC_ret ?_
      refine thenRet ?_
      refine ⟨_, [_, _, _], [], fun Z w hs => .tmp rfl (.nil), ?_, fun Z w hs => hs.out (List.Sublist.cons _ (List.Sublist.cons_cons _ (List.Sublist.cons_cons _ (List.Sublist.cons_cons _ (List.Sublist.refl _))))) (fun _ h => h)⟩
      try simp only [decide_eq_true_eq, decide_eq_false_iff_not, beq_iff_eq, bne_iff_ne, beq_eq_false_iff_ne, ne_eq, Bool.and_eq_true, Bool.not_eq_true', Bool.not_eq_false', Bool.not_eq_true, Bool.not_eq_false, bne_eq_false_iff_eq, Bool.and_eq_false_iff] at *
      refine ⟨congrArg (Value.int .i64) ?_, rfl, rfl⟩
      unfold fitsF fitsT fitsRest
      first | (simp_all; done) | (simp_all; omega) | (repeat' split; all_goals first | rfl | omega | (simp_all; done) | (simp_all; omega))
    · refine WC_skip ?_
      refine thenN ?_
      refine WC_seq ?_
      refine WC_seq ?_
      try simp only [decide_eq_true_eq, decide_eq_false_iff_not, beq_iff_eq, bne_iff_ne, beq_eq_false_iff_ne, ne_eq, Bool.and_eq_true, Bool.not_eq_true', Bool.not_eq_false', Bool.not_eq_true, Bool.not_eq_false, bne_eq_false_iff_eq, Bool.and_eq_false_iff] at *
      obtain ⟨i, rfl⟩ : ∃ k : Nat, i = (k : Int) := ⟨i.toNat, by omega⟩
      refine WC_draw _ _ [] [(0, 0), (1, 0), (2, 0), (3, 2), (4, 2), (5, 0)] mixed (fun _ _ _ _ h => h) (List.Sublist.cons_cons _ (List.Sublist.cons _ (List.Sublist.cons_cons _ (List.Sublist.cons_cons _ (List.Sublist.refl _))))) (fun _ h => h) (by kernel_rfl) (by decide) fun ws Z0 => ?_
      refine WE_q rfl (q_loadN (vs := [_, _, _, _, _, _, _, _, _]) Tryd.underlying31 rfl ti31 rfl own0 rfl rfl) (by decide) ?_
      refine WE_q rfl (q_move rfl) (by decide) ?_
      refine WE_q rfl (q_move rfl) (by decide) ?_
      refine WE_main rfl rfl (OW_call1 (before_s h m cap A H L hr i (by omega)) (.cons rfl (.cons rfl (.nil))) (by decide) (.s (.z)) (memc (.tail _ (.head _)) (memc (.tail _ (.tail _ (.head _))) mem0)) fun u3_3 Lo fs hres => ?_)
      obtain ⟨rfl, rfl, rfl⟩ := hres
      refine ⟨⟨(List.Sublist.cons _ (List.Sublist.cons_cons _ (List.Sublist.cons_cons _ (List.Sublist.cons_cons _ (List.Sublist.refl _))))), (.head _)⟩, ?_⟩
      refine WE_main rfl rfl (OW_call0 (opCheck_s o Ao co (beforeF H i) (by have := ho.text; omega) ho.rs) (.cons rfl (.cons rfl (.nil))) (by decide) (memc (.tail _ (.head _)) (memc (.tail _ (.tail _ (.tail _ (.head _)))) mem0)) fun u3_4 Lo fs hres => ?_)
      obtain ⟨rfl, rfl, rfl⟩ := hres
      refine ⟨⟨(List.Sublist.cons _ (List.Sublist.cons_cons _ (List.Sublist.cons_cons _ (List.Sublist.cons_cons _ (List.Sublist.refl _))))), (.head _)⟩, ?_⟩
      refine WE_q rfl (q_assign rfl) (by decide) ?_
      refine WE_end (WF_nil ?_)
      refine thenN ?_
      refine WC_seq ?_
      refine WC_region ?_
      refine WL_q (q_move rfl) (by decide) ?_
      refine WL_q (q_neq rfl rfl) (by decide) ?_
      refine WL_nil ?_
      refine thenN ?_
      refine WC_cond rfl (fun h26 => ?_) (fun h26 => ?_)
      · refine WC_seq ?_
        refine WC_region ?_
        refine WL_q (q_move rfl) (by decide) ?_
        refine WL_q (q_assign rfl) (by decide) ?_
        refine WL_nil ?_
        refine thenN ?_
        refine WC_fr [(6, _), (5, _), (0, _), (1, _)] (.cons rfl (.cons rfl (.cons rfl (.cons rfl (.nil _))))) ?_
        refine WC_ret ?_
        refine thenRet ?_
        refine ⟨_, [_, _, _], [], fun Z w hs => .tmp rfl (.nil), ?_, fun Z w hs => hs.out (List.Sublist.cons_cons _ (List.Sublist.cons _ (List.Sublist.cons_cons _ (List.Sublist.cons_cons _ (List.Sublist.refl _))))) (fun _ h => .tail _ h)⟩
        try simp only [decide_eq_true_eq, decide_eq_false_iff_not, beq_iff_eq, bne_iff_ne, beq_eq_false_iff_ne, ne_eq, Bool.and_eq_true, Bool.not_eq_true', Bool.not_eq_false', Bool.not_eq_true, Bool.not_eq_false, bne_eq_false_iff_eq, Bool.and_eq_false_iff] at *
        refine ⟨congrArg (Value.int .i64) ?_, rfl, rfl⟩
        unfold fitsF fitsT fitsRest
        first | (simp_all; done) | (simp_all; omega) | (repeat' split; all_goals first | rfl | omega | (simp_all; done) | (simp_all; omega))
      · refine WC_skip ?_
        refine thenN ?_
        refine WC_seq ?_
        refine WC_block ?_
        refine WC_seq ?_
        refine WC_region ?_
        refine WL_q (q_field (o' := 0) Tryd.underlying31 rfl ti28 rfl rfl) (by decide) ?_
        refine WL_q (q_field (o' := 2) Tryd.underlying28 rfl ti26 rfl rfl) (by decide) ?_
        refine WL_q (q_load1 Tryd.underlying26 rfl rfl (ownS (own0)) rfl) (by decide) ?_
        refine WL_q (q_eql rfl rfl) (by decide) ?_
        refine WL_q (q_assign rfl) (by decide) ?_
        refine WL_nil ?_
        refine thenN ?_
        refine WC_fr [(28, _), (6, _), (5, _), (0, _), (1, _)] (.cons rfl (.cons rfl (.cons rfl (.cons rfl (.cons rfl (.nil _)))))) ?_
        refine WC_cond rfl (fun h28 => ?_) (fun h28 => ?_)
        · refine WC_seq ?_
          refine WC_region ?_
          refine WL_q (q_assign rfl) (by decide) ?_
          refine WL_nil ?_
          refine thenN ?_
          refine WC_ret ?_
          refine blockRet ?_
          refine thenRet ?_
          refine ⟨_, [_, _, _], [], fun Z w hs => .tmp rfl (.nil), ?_, fun Z w hs => hs.out (List.Sublist.cons_cons _ (List.Sublist.cons _ (List.Sublist.cons_cons _ (List.Sublist.cons_cons _ (List.Sublist.refl _))))) (fun _ h => .tail _ h)⟩
          try simp only [decide_eq_true_eq, decide_eq_false_iff_not, beq_iff_eq, bne_iff_ne, beq_eq_false_iff_ne, ne_eq, Bool.and_eq_true, Bool.not_eq_true', Bool.not_eq_false', Bool.not_eq_true, Bool.not_eq_false, bne_eq_false_iff_eq, Bool.and_eq_false_iff] at *
          refine ⟨congrArg (Value.int .i64) ?_, rfl, rfl⟩
          unfold fitsF fitsT fitsRest
          first | (simp_all; done) | (simp_all; omega) | (repeat' split; all_goals first | rfl | omega | (simp_all; done) | (simp_all; omega))
        · refine WC_seq ?_
          refine WC_region ?_
          refine WL_q (q_field (o' := 0) Tryd.underlying31 rfl ti28 rfl rfl) (by decide) ?_
          refine WL_q (q_field (o' := 0) Tryd.underlying28 rfl ti25 rfl rfl) (by decide) ?_
          refine WL_q (q_loadN (vs := [_, _]) Tryd.underlying25 rfl ti25 rfl (ownS (own0)) rfl rfl) (by decide) ?_
          refine WL_q (q_build (.nil) (bd25Xw13)) (by decide) ?_
          refine WL_q (q_aggeql rfl rfl (eq25 _ _ _ _)) (by decide) ?_
          refine WL_q (q_assign rfl) (by decide) ?_
          refine WL_nil ?_
          refine thenN ?_
          refine WC_cond rfl (fun h33 => ?_) (fun h33 => ?_)
          · refine WC_seq ?_
            refine WC_region ?_
            refine WL_q (q_assign rfl) (by decide) ?_
            refine WL_nil ?_
            refine thenN ?_
            refine WC_ret ?_
            refine blockRet ?_
            refine thenRet ?_
            refine ⟨_, [_, _, _], [], fun Z w hs => .tmp rfl (.nil), ?_, fun Z w hs => hs.out (List.Sublist.cons_cons _ (List.Sublist.cons _ (List.Sublist.cons_cons _ (List.Sublist.cons_cons _ (List.Sublist.refl _))))) (fun _ h => .tail _ h)⟩
            try simp only [decide_eq_true_eq, decide_eq_false_iff_not, beq_iff_eq, bne_iff_ne, beq_eq_false_iff_ne, ne_eq, Bool.and_eq_true, Bool.not_eq_true', Bool.not_eq_false', Bool.not_eq_true, Bool.not_eq_false, bne_eq_false_iff_eq, Bool.and_eq_false_iff] at *
            refine ⟨congrArg (Value.int .i64) ?_, rfl, rfl⟩
            unfold fitsF fitsT fitsRest
            first | (simp_all; done) | (simp_all; omega) | (repeat' split; all_goals first | rfl | omega | (simp_all; done) | (simp_all; omega))
          · refine WC_seq ?_
            cases hwd : whereId H.ents o.c o.n with
            | none =>
              have hgd := hr.look0 hwd
              refine WC_draw _ _ [] [(0, 0), (1, 0), (2, 0), (3, 0), (4, 0), (5, 0), (6, 0), (7, 0), (8, 0), (9, 0)] mixed (fun _ _ _ _ h => h) (List.Sublist.cons_cons _ (List.Sublist.cons_cons _ (List.Sublist.cons_cons _ (List.Sublist.cons_cons _ (List.Sublist.refl _))))) (fun _ h => h) (by kernel_rfl) (by decide) fun ws Z0 => ?_
              refine WE_q rfl (q_move rfl) (by decide) ?_
              refine WE_q rfl (q_nil rfl) (by decide) ?_
              refine WE_q rfl (q_field (o' := 1) Tryd.underlying97 rfl ti95 rfl rfl) (by decide) ?_
              refine WE_q rfl (q_load1 Tryd.underlying95 rfl rfl own0 rfl) (by decide) ?_
              refine WE_q rfl (q_field (o' := 0) Tryd.underlying31 rfl ti28 rfl rfl) (by decide) ?_
              refine WE_q rfl (q_field (o' := 0) Tryd.underlying28 rfl ti25 rfl rfl) (by decide) ?_
              refine WE_q rfl (q_loadN (vs := [_, _]) Tryd.underlying25 rfl ti25 rfl (ownS (own0)) rfl rfl) (by decide) ?_
              refine WE_q rfl (q_lookN keyT hgd Tryd.underlying95 ti99 rfl rfl (ownS (ownS (own0)))) (by decide) ?_
              refine WE_q rfl (q_pneq Tryd.underlying99 rfl rfl (by simp)) (by decide) ?_
              refine WE_q rfl (q_assign rfl) (by decide) ?_
              refine WE_end (WF_nil ?_)
              refine thenN ?_
              refine WC_fr [(39, _), (6, _), (5, _), (0, _), (1, _)] (.cons rfl (.cons rfl (.cons rfl (.cons rfl (.cons rfl (.nil _)))))) ?_
              refine WC_false rfl rfl ?_
              refine WC_skip ?_
              refine blockN ?_
              refine thenN ?_
              refine WC_seq ?_
              refine WC_seq ?_
              refine WC_region ?_
              refine WL_q (q_field (o' := 0) Tryd.underlying31 rfl ti28 rfl rfl) (by decide) ?_
              refine WL_q (q_field (o' := 2) Tryd.underlying28 rfl ti26 rfl rfl) (by decide) ?_
              refine WL_q (q_load1 Tryd.underlying26 rfl rfl (ownS (own0)) rfl) (by decide) ?_
              refine WL_q (q_eql rfl rfl) (by decide) ?_
              refine WL_nil ?_
              refine thenN ?_
              refine WC_cond rfl (fun h52 => ?_) (fun h52 => ?_)
              · refine WC_seq ?_
                cases hwt : whereId H.ents o.tc o.tn with
                | none =>
                  have hgt := hr.look0 hwt
                  refine WC_draw _ _ [] [(0, 0), (1, 0), (2, 0), (3, 0), (4, 0), (5, 0), (6, 0), (7, 0)] mixed (fun _ _ _ _ h => h) (List.Sublist.cons_cons _ (List.Sublist.cons_cons _ (List.Sublist.cons_cons _ (List.Sublist.cons_cons _ (List.Sublist.refl _))))) (fun _ h => h) (by kernel_rfl) (by decide) fun ws Z0 => ?_
                  refine WE_q rfl (q_move rfl) (by decide) ?_
                  refine WE_q rfl (q_nil rfl) (by decide) ?_
                  refine WE_q rfl (q_field (o' := 1) Tryd.underlying97 rfl ti95 rfl rfl) (by decide) ?_
                  refine WE_q rfl (q_load1 Tryd.underlying95 rfl rfl own0 rfl) (by decide) ?_
                  refine WE_q rfl (q_field (o' := 6) Tryd.underlying31 rfl ti25 rfl rfl) (by decide) ?_
                  refine WE_q rfl (q_loadN (vs := [_, _]) Tryd.underlying25 rfl ti25 rfl (ownS (own0)) rfl rfl) (by decide) ?_
                  refine WE_q rfl (q_lookN keyT hgt Tryd.underlying95 ti99 rfl rfl (ownS (ownS (own0)))) (by decide) ?_
                  refine WE_q rfl (q_assign rfl) (by decide) ?_
                  refine WE_end (WF_nil ?_)
                  refine thenN ?_
                  refine WC_fr [(8, _), (6, _), (5, _), (0, _), (1, _)] (.cons rfl (.cons rfl (.cons rfl (.cons rfl (.cons rfl (.nil _)))))) ?_
                  refine WC_seq ?_
                  refine WC_seq ?_
                  refine WC_region ?_
                  refine WL_q (q_move rfl) (by decide) ?_
                  refine WL_q (q_peql Tryd.underlying99 rfl rfl (by simp)) (by decide) ?_
                  refine WL_q (q_move rfl) (by decide) ?_
                  refine WL_gno rfl rfl rfl rfl (by decide) ?_
                  refine WL_gno rfl rfl rfl rfl (by decide) ?_
                  refine WL_gno rfl rfl rfl rfl (by decide) ?_
                  refine WL_gno rfl rfl rfl rfl (by decide) ?_
                  refine WL_gno rfl rfl rfl rfl (by decide) ?_
                  refine WL_gno rfl rfl rfl rfl (by decide) ?_
                  refine WL_q (q_pickT rfl rfl rfl) (by decide) ?_
                  refine WL_nil ?_
                  refine thenN ?_
                  refine WC_fr [(69, _), (8, _), (6, _), (5, _), (0, _)] (.cons rfl (.cons rfl (.cons rfl (.cons rfl (.cons rfl (.nil _)))))) ?_
                  refine WC_true rfl rfl ?_
                  refine WC_seq ?_
                  refine WC_region ?_
                  refine WL_q (q_assign rfl) (by decide) ?_
                  refine WL_nil ?_
                  refine thenN ?_
                  refine WC_ret ?_
                  refine thenRet ?_
                  refine thenRet ?_
                  refine ⟨_, [_, _, _], [], fun Z w hs => .tmp rfl (.nil), ?_, fun Z w hs => hs.out (List.Sublist.cons_cons _ (List.Sublist.cons _ (List.Sublist.cons_cons _ (List.Sublist.cons_cons _ (List.Sublist.refl _))))) (fun _ h => .tail _ (.tail _ (.tail _ h)))⟩
                  try simp only [decide_eq_true_eq, decide_eq_false_iff_not, beq_iff_eq, bne_iff_ne, beq_eq_false_iff_ne, ne_eq, Bool.and_eq_true, Bool.not_eq_true', Bool.not_eq_false', Bool.not_eq_true, Bool.not_eq_false, bne_eq_false_iff_eq, Bool.and_eq_false_iff] at *
                  refine ⟨congrArg (Value.int .i64) ?_, rfl, rfl⟩
                  unfold fitsF fitsT fitsRest
                  first | (simp_all; done) | (simp_all; omega) | (repeat' split; all_goals first | rfl | omega | (simp_all; done) | (simp_all; omega))
                | some kt =>
                  obtain ⟨hkt, jt, xt, hct, hnt, hjt, hmt, hgt⟩ := hr.look1 hwt
                  obtain ⟨xmt, xbt, xAt, xct⟩ := xt
                  obtain rfl : xmt = markAt kt H.ents[kt] := hmt
                  refine WC_draw _ _ [] [(0, 0), (1, 0), (2, 0), (3, 0), (4, 0), (5, 0), (6, 0), (7, 0)] mixed (fun _ _ _ _ h => h) (List.Sublist.cons_cons _ (List.Sublist.cons_cons _ (List.Sublist.cons_cons _ (List.Sublist.cons_cons _ (List.Sublist.refl _))))) (fun _ h => h) (by kernel_rfl) (by decide) fun ws Z0 => ?_
                  refine WE_q rfl (q_move rfl) (by decide) ?_
                  refine WE_q rfl (q_nil rfl) (by decide) ?_
                  refine WE_q rfl (q_field (o' := 1) Tryd.underlying97 rfl ti95 rfl rfl) (by decide) ?_
                  refine WE_q rfl (q_load1 Tryd.underlying95 rfl rfl own0 rfl) (by decide) ?_
                  refine WE_q rfl (q_field (o' := 6) Tryd.underlying31 rfl ti25 rfl rfl) (by decide) ?_
                  refine WE_q rfl (q_loadN (vs := [_, _]) Tryd.underlying25 rfl ti25 rfl (ownS (own0)) rfl rfl) (by decide) ?_
                  refine WE_q rfl (q_lookS keyT hgt Tryd.underlying95 ti99 rfl rfl (ownS (ownS (own0)))) (by decide) ?_
                  refine WE_q rfl (q_assign rfl) (by decide) ?_
                  refine WE_end (WF_nil ?_)
                  refine thenN ?_
                  refine WC_fr [(8, _), (6, _), (5, _), (0, _), (1, _)] (.cons rfl (.cons rfl (.cons rfl (.cons rfl (.cons rfl (.nil _)))))) ?_
                  refine WC_seq ?_
                  refine WC_seq ?_
                  refine WC_region ?_
                  refine WL_q (q_move rfl) (by decide) ?_
                  refine WL_q (q_peql Tryd.underlying99 rfl rfl (by simp)) (by decide) ?_
                  refine WL_q (q_move rfl) (by decide) ?_
                  refine WL_gq rfl rfl rfl rfl (q_move rfl) (by decide) ?_
                  refine WL_gq rfl rfl rfl rfl (q_nil rfl) (by decide) ?_
                  refine WL_gq rfl rfl rfl rfl (q_field (o' := 0) Tryd.underlying101 rfl ti3 rfl rfl) (by decide) ?_
                  refine WL_gq rfl rfl rfl rfl (q_load1 (v := .int .i64 (kt : Int)) Tryd.underlying3 rfl rfl (ownS (ownS (ownS (ownI (mkP_mem hjt))))) rfl) (by decide) ?_
                  refine WL_gq rfl rfl rfl rfl (q_move rfl) (by decide) ?_
                  refine WL_gq rfl rfl rfl rfl (q_geq rfl rfl) (by decide) ?_
                  refine WL_q (q_pickF rfl rfl rfl) (by decide) ?_
                  refine WL_nil ?_
                  refine thenN ?_
                  refine WC_fr [(69, _), (8, _), (6, _), (5, _), (0, _)] (.cons rfl (.cons rfl (.cons rfl (.cons rfl (.cons rfl (.nil _)))))) ?_
                  refine WC_cond rfl (fun h69 => ?_) (fun h69 => ?_)
                  · refine WC_seq ?_
                    refine WC_region ?_
                    refine WL_q (q_assign rfl) (by decide) ?_
                    refine WL_nil ?_
                    refine thenN ?_
                    refine WC_ret ?_
                    refine thenRet ?_
                    refine thenRet ?_
                    refine ⟨_, [_, _, _], [], fun Z w hs => .tmp rfl (.nil), ?_, fun Z w hs => hs.out (List.Sublist.cons_cons _ (List.Sublist.cons _ (List.Sublist.cons_cons _ (List.Sublist.cons_cons _ (List.Sublist.refl _))))) (fun _ h => .tail _ (.tail _ (.tail _ h)))⟩
                    try simp only [decide_eq_true_eq, decide_eq_false_iff_not, beq_iff_eq, bne_iff_ne, beq_eq_false_iff_ne, ne_eq, Bool.and_eq_true, Bool.not_eq_true', Bool.not_eq_false', Bool.not_eq_true, Bool.not_eq_false, bne_eq_false_iff_eq, Bool.and_eq_false_iff] at *
                    refine ⟨congrArg (Value.int .i64) ?_, rfl, rfl⟩
                    unfold fitsF fitsT fitsRest
                    first | (simp_all; done) | (simp_all; omega) | (repeat' split; all_goals first | rfl | omega | (simp_all; done) | (simp_all; omega))
                  · refine WC_skip ?_
                    refine thenN ?_
                    refine WC_seq ?_
                    have hko : kt < H.ops.length := by omega
                    refine WC_elem (k := kt) (.tail _ (.tail _ (.tail _ (.tail _ (.head _))))) (List.getElem?_eq_getElem hko) (op_open _) fun bo qo yo eo => ?_
                    cases eo
                    have hop := ops_at hkt
                    refine WC_draw _ _ [] [(0, 0), (1, 0), (2, 0), (3, 0), (4, 0), (5, 0), (6, 0), (7, 0), (8, 0), (9, 0), (10, 0), (11, 0), (12, 0)] mixed (fun _ _ _ _ h => h) (List.Sublist.cons_cons _ (List.Sublist.cons_cons _ (List.Sublist.cons_cons _ (List.Sublist.cons_cons _ (List.Sublist.refl _))))) (fun _ h => h) (by kernel_rfl) (by decide) fun ws Z0 => ?_
                    refine WE_q rfl (q_move rfl) (by decide) ?_
                    refine WE_q rfl (q_nil rfl) (by decide) ?_
                    refine WE_q rfl (q_field (o' := 0) Tryd.underlying97 rfl ti45 rfl rfl) (by decide) ?_
                    refine WE_q rfl (q_load1 Tryd.underlying45 rfl rfl own0 rfl) (by decide) ?_
                    refine WE_q rfl (q_move rfl) (by decide) ?_
                    refine WE_q rfl (q_nil rfl) (by decide) ?_
                    refine WE_q rfl (q_field (o' := 0) Tryd.underlying101 rfl ti3 rfl rfl) (by decide) ?_
                    refine WE_q rfl (q_load1 (v := .int .i64 (kt : Int)) Tryd.underlying3 rfl rfl (ownS (ownS (ownS (ownI (mkP_mem hjt))))) rfl) (by decide) ?_
                    refine WE_q rfl (q_idxRd Tryd.underlying45 ti31 rfl rfl (by omega) (by omega)) (by decide) ?_
                    refine WE_q rfl (q_field (o' := _ + 0) Tryd.underlying31 rfl ti28 rfl rfl) (by decide) ?_
                    refine WE_q rfl (q_field (o' := _ + 2) Tryd.underlying28 rfl ti26 rfl rfl) (by decide) ?_
                    refine WE_q rfl (q_loadF1 (j := 2) Tryd.underlying26 rfl rfl (.head _) rfl rfl) (by decide) ?_
                    refine WE_q rfl (q_eql rfl rfl) (by decide) ?_
                    refine WE_end (WF_nil ?_)
                    refine thenN ?_
                    refine WC_fr [(82, _), (6, _), (5, _), (0, _)] (.cons rfl (.cons rfl (.cons rfl (.cons rfl (.nil _))))) ?_
                    refine WC_cond rfl (fun h82 => ?_) (fun h82 => ?_)
                    · refine WC_seq ?_
                      refine WC_region ?_
                      refine WL_q (q_assign rfl) (by decide) ?_
                      refine WL_nil ?_
                      refine thenN ?_
                      refine WC_ret ?_
                      refine thenRet ?_
                      refine ⟨_, [_, _, _], [], fun Z w hs => .tmp rfl (.nil), ?_, fun Z w hs => hs.out (List.Sublist.cons_cons _ (List.Sublist.cons _ (List.Sublist.cons_cons _ (List.Sublist.cons_cons _ (List.Sublist.refl _))))) (fun _ h => .tail _ (.tail _ (.tail _ (.tail _ (.tail _ (.tail _ h))))))⟩
                      try simp only [decide_eq_true_eq, decide_eq_false_iff_not, beq_iff_eq, bne_iff_ne, beq_eq_false_iff_ne, ne_eq, Bool.and_eq_true, Bool.not_eq_true', Bool.not_eq_false', Bool.not_eq_true, Bool.not_eq_false, bne_eq_false_iff_eq, Bool.and_eq_false_iff] at *
                      refine ⟨congrArg (Value.int .i64) ?_, rfl, rfl⟩
                      unfold fitsF fitsT fitsRest
                      first | (simp_all; done) | (simp_all; omega) | (repeat' split; all_goals first | rfl | omega | (simp_all; done) | (simp_all; omega))
                    · refine WC_skip ?_
                      refine thenN ?_
                      refine WC_seq ?_
                      refine WC_seq ?_
                      refine WC_draw _ _ [] [(0, 0), (1, 0), (2, 0), (3, 0), (4, 0), (5, 2), (6, 0), (7, 0)] mixed (fun _ _ _ _ h => h) (List.Sublist.cons_cons _ (List.Sublist.cons_cons _ (List.Sublist.cons_cons _ (List.Sublist.cons_cons _ (List.Sublist.refl _))))) (fun _ h => h) (by kernel_rfl) (by decide) fun ws Z0 => ?_
                      refine WE_q rfl (q_move rfl) (by decide) ?_
                      refine WE_q rfl (q_nil rfl) (by decide) ?_
                      refine WE_q rfl (q_field (o' := 2) Tryd.underlying97 rfl ti3 rfl rfl) (by decide) ?_
                      refine WE_q rfl (q_load1 Tryd.underlying3 rfl rfl own0 rfl) (by decide) ?_
                      refine WE_q rfl (q_loadN (vs := [_, _, _, _, _, _, _, _, _]) Tryd.underlying31 rfl ti31 rfl (ownS (own0)) rfl rfl) (by decide) ?_
                      refine WE_main rfl rfl (OW_call0 (width_s o Ao co (by have := ho.text; omega)) (.cons rfl (.nil)) (by decide) (memc (.tail _ (.tail _ (.tail _ (.tail _ (.tail _ (.tail _ (.tail _ (.head _)))))))) mem0) fun u18_5 Lo fs hres => ?_)
                      obtain ⟨rfl, rfl, rfl⟩ := hres
                      refine ⟨⟨(List.Sublist.cons_cons _ (List.Sublist.cons_cons _ (List.Sublist.cons_cons _ (List.Sublist.cons_cons _ (List.Sublist.refl _))))), (.head _)⟩, ?_⟩
                      refine WE_q rfl (q_add rfl rfl (wr64 (by have := hr.tot; have := widthF_le o; have := ho.text; omega))) (by decide) ?_
                      refine WE_q rfl (q_gtr rfl rfl) (by decide) ?_
                      refine WE_end (WF_nil ?_)
                      refine thenN ?_
                      refine WC_cond rfl (fun h90 => ?_) (fun h90 => ?_)
                      · refine WC_seq ?_
                        refine WC_region ?_
                        refine WL_q (q_assign rfl) (by decide) ?_
                        refine WL_nil ?_
                        refine thenN ?_
                        refine WC_ret ?_
                        refine thenRet ?_
                        refine ⟨_, [_, _, _], [], fun Z w hs => .tmp rfl (.nil), ?_, fun Z w hs => hs.out (List.Sublist.cons_cons _ (List.Sublist.cons _ (List.Sublist.cons_cons _ (List.Sublist.cons_cons _ (List.Sublist.refl _))))) (fun _ h => .tail _ (.tail _ (.tail _ (.tail _ (.tail _ (.tail _ (.tail _ h)))))))⟩
                        try simp only [decide_eq_true_eq, decide_eq_false_iff_not, beq_iff_eq, bne_iff_ne, beq_eq_false_iff_ne, ne_eq, Bool.and_eq_true, Bool.not_eq_true', Bool.not_eq_false', Bool.not_eq_true, Bool.not_eq_false, bne_eq_false_iff_eq, Bool.and_eq_false_iff] at *
                        refine ⟨congrArg (Value.int .i64) ?_, rfl, rfl⟩
                        unfold fitsF fitsT fitsRest
                        first | (simp_all; done) | (simp_all; omega) | (repeat' split; all_goals first | rfl | omega | (simp_all; done) | (simp_all; omega))
                      · refine WC_skip ?_
                        refine thenN ?_
                        refine WC_seq ?_
                        refine WC_region ?_
                        refine WL_q (q_assign rfl) (by decide) ?_
                        refine WL_nil ?_
                        refine thenN ?_
                        refine WC_ret ?_
                        refine ⟨_, [_, _, _], [], fun Z w hs => .tmp rfl (.nil), ?_, fun Z w hs => hs.out (List.Sublist.cons_cons _ (List.Sublist.cons _ (List.Sublist.cons_cons _ (List.Sublist.cons_cons _ (List.Sublist.refl _))))) (fun _ h => .tail _ (.tail _ (.tail _ (.tail _ (.tail _ (.tail _ (.tail _ h)))))))⟩
                        try simp only [decide_eq_true_eq, decide_eq_false_iff_not, beq_iff_eq, bne_iff_ne, beq_eq_false_iff_ne, ne_eq, Bool.and_eq_true, Bool.not_eq_true', Bool.not_eq_false', Bool.not_eq_true, Bool.not_eq_false, bne_eq_false_iff_eq, Bool.and_eq_false_iff] at *
                        refine ⟨congrArg (Value.int .i64) ?_, rfl, rfl⟩
                        unfold fitsF fitsT fitsRest
                        first | (simp_all; done) | (simp_all; omega) | (repeat' split; all_goals first | rfl | omega | (simp_all; done) | (simp_all; omega))
              · refine WC_skip ?_
                refine thenN ?_
                refine WC_seq ?_
                refine WC_seq ?_
                refine WC_draw _ _ [] [(0, 0), (1, 0), (2, 0), (3, 0), (4, 0), (5, 2), (6, 0), (7, 0)] mixed (fun _ _ _ _ h => h) (List.Sublist.cons_cons _ (List.Sublist.cons_cons _ (List.Sublist.cons_cons _ (List.Sublist.cons_cons _ (List.Sublist.refl _))))) (fun _ h => h) (by kernel_rfl) (by decide) fun ws Z0 => ?_
                refine WE_q rfl (q_move rfl) (by decide) ?_
                refine WE_q rfl (q_nil rfl) (by decide) ?_
                refine WE_q rfl (q_field (o' := 2) Tryd.underlying97 rfl ti3 rfl rfl) (by decide) ?_
                refine WE_q rfl (q_load1 Tryd.underlying3 rfl rfl own0 rfl) (by decide) ?_
                refine WE_q rfl (q_loadN (vs := [_, _, _, _, _, _, _, _, _]) Tryd.underlying31 rfl ti31 rfl (ownS (own0)) rfl rfl) (by decide) ?_
                refine WE_main rfl rfl (OW_call0 (width_s o Ao co (by have := ho.text; omega)) (.cons rfl (.nil)) (by decide) (memc (.tail _ (.tail _ (.tail _ (.head _)))) mem0) fun u18_5 Lo fs hres => ?_)
                obtain ⟨rfl, rfl, rfl⟩ := hres
                refine ⟨⟨(List.Sublist.cons_cons _ (List.Sublist.cons_cons _ (List.Sublist.cons_cons _ (List.Sublist.cons_cons _ (List.Sublist.refl _))))), (.head _)⟩, ?_⟩
                refine WE_q rfl (q_add rfl rfl (wr64 (by have := hr.tot; have := widthF_le o; have := ho.text; omega))) (by decide) ?_
                refine WE_q rfl (q_gtr rfl rfl) (by decide) ?_
                refine WE_end (WF_nil ?_)
                refine thenN ?_
                refine WC_fr [(90, _), (6, _)] (.cons rfl (.cons rfl (.nil _))) ?_
                refine WC_cond rfl (fun h90 => ?_) (fun h90 => ?_)
                · refine WC_seq ?_
                  refine WC_region ?_
                  refine WL_q (q_assign rfl) (by decide) ?_
                  refine WL_nil ?_
                  refine thenN ?_
                  refine WC_ret ?_
                  refine thenRet ?_
                  refine ⟨_, [_, _, _], [], fun Z w hs => .tmp rfl (.nil), ?_, fun Z w hs => hs.out (List.Sublist.cons_cons _ (List.Sublist.cons _ (List.Sublist.cons_cons _ (List.Sublist.cons_cons _ (List.Sublist.refl _))))) (fun _ h => .tail _ (.tail _ (.tail _ h)))⟩
                  try simp only [decide_eq_true_eq, decide_eq_false_iff_not, beq_iff_eq, bne_iff_ne, beq_eq_false_iff_ne, ne_eq, Bool.and_eq_true, Bool.not_eq_true', Bool.not_eq_false', Bool.not_eq_true, Bool.not_eq_false, bne_eq_false_iff_eq, Bool.and_eq_false_iff] at *
                  refine ⟨congrArg (Value.int .i64) ?_, rfl, rfl⟩
                  unfold fitsF fitsT fitsRest
                  first | (simp_all; done) | (simp_all; omega) | (repeat' split; all_goals first | rfl | omega | (simp_all; done) | (simp_all; omega))
                · refine WC_skip ?_
                  refine thenN ?_
                  refine WC_seq ?_
                  refine WC_region ?_
                  refine WL_q (q_assign rfl) (by decide) ?_
                  refine WL_nil ?_
                  refine thenN ?_
                  refine WC_ret ?_
                  refine ⟨_, [_, _, _], [], fun Z w hs => .tmp rfl (.nil), ?_, fun Z w hs => hs.out (List.Sublist.cons_cons _ (List.Sublist.cons _ (List.Sublist.cons_cons _ (List.Sublist.cons_cons _ (List.Sublist.refl _))))) (fun _ h => .tail _ (.tail _ (.tail _ h)))⟩
                  try simp only [decide_eq_true_eq, decide_eq_false_iff_not, beq_iff_eq, bne_iff_ne, beq_eq_false_iff_ne, ne_eq, Bool.and_eq_true, Bool.not_eq_true', Bool.not_eq_false', Bool.not_eq_true, Bool.not_eq_false, bne_eq_false_iff_eq, Bool.and_eq_false_iff] at *
                  refine ⟨congrArg (Value.int .i64) ?_, rfl, rfl⟩
                  unfold fitsF fitsT fitsRest
                  first | (simp_all; done) | (simp_all; omega) | (repeat' split; all_goals first | rfl | omega | (simp_all; done) | (simp_all; omega))
            | some kd =>
              obtain ⟨hkd, jd, xd, hcd, hnd, hjd, hmd, hgd⟩ := hr.look1 hwd
              obtain ⟨xmd, xbd, xAd, xcd⟩ := xd
              obtain rfl : xmd = markAt kd H.ents[kd] := hmd
              refine WC_draw _ _ [] [(0, 0), (1, 0), (2, 0), (3, 0), (4, 0), (5, 0), (6, 0), (7, 0), (8, 0), (9, 0)] mixed (fun _ _ _ _ h => h) (List.Sublist.cons_cons _ (List.Sublist.cons_cons _ (List.Sublist.cons_cons _ (List.Sublist.cons_cons _ (List.Sublist.refl _))))) (fun _ h => h) (by kernel_rfl) (by decide) fun ws Z0 => ?_
              refine WE_q rfl (q_move rfl) (by decide) ?_
              refine WE_q rfl (q_nil rfl) (by decide) ?_
              refine WE_q rfl (q_field (o' := 1) Tryd.underlying97 rfl ti95 rfl rfl) (by decide) ?_
              refine WE_q rfl (q_load1 Tryd.underlying95 rfl rfl own0 rfl) (by decide) ?_
              refine WE_q rfl (q_field (o' := 0) Tryd.underlying31 rfl ti28 rfl rfl) (by decide) ?_
              refine WE_q rfl (q_field (o' := 0) Tryd.underlying28 rfl ti25 rfl rfl) (by decide) ?_
              refine WE_q rfl (q_loadN (vs := [_, _]) Tryd.underlying25 rfl ti25 rfl (ownS (own0)) rfl rfl) (by decide) ?_
              refine WE_q rfl (q_lookS keyT hgd Tryd.underlying95 ti99 rfl rfl (ownS (ownS (own0)))) (by decide) ?_
              refine WE_q rfl (q_pneq Tryd.underlying99 rfl rfl (by simp)) (by decide) ?_
              refine WE_q rfl (q_assign rfl) (by decide) ?_
              refine WE_end (WF_nil ?_)
              refine thenN ?_
              refine WC_fr [(39, _), (6, _), (5, _), (0, _), (1, _)] (.cons rfl (.cons rfl (.cons rfl (.cons rfl (.cons rfl (.nil _)))))) ?_
              refine WC_true rfl rfl ?_
              refine WC_seq ?_
              refine WC_region ?_
              refine WL_q (q_assign rfl) (by decide) ?_
              refine WL_nil ?_
              refine thenN ?_
              refine WC_ret ?_
              refine blockRet ?_
              refine thenRet ?_
              refine ⟨_, [_, _, _], [], fun Z w hs => .tmp rfl (.nil), ?_, fun Z w hs => hs.out (List.Sublist.cons_cons _ (List.Sublist.cons _ (List.Sublist.cons_cons _ (List.Sublist.cons_cons _ (List.Sublist.refl _))))) (fun _ h => .tail _ (.tail _ h))⟩
              try simp only [decide_eq_true_eq, decide_eq_false_iff_not, beq_iff_eq, bne_iff_ne, beq_eq_false_iff_ne, ne_eq, Bool.and_eq_true, Bool.not_eq_true', Bool.not_eq_false', Bool.not_eq_true, Bool.not_eq_false, bne_eq_false_iff_eq, Bool.and_eq_false_iff] at *
              refine ⟨congrArg (Value.int .i64) ?_, rfl, rfl⟩
              unfold fitsF fitsT fitsRest
              first | (simp_all; done) | (simp_all; omega) | (repeat' split; all_goals first | rfl | omega | (simp_all; done) | (simp_all; omega))

end Go.Proofs.YtggdddkbhigjoaaDoor
