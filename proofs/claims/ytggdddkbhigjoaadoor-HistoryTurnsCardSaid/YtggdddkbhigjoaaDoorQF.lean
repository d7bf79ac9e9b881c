/- The walks and laws that this claim's card rests on, part 6. -/
import Derived.Lib.UnsafeStr
import Derived.Lib.Builder
import Derived.Laws.Externs
import Derived.Test.YtggdddkbhigjoaaDoorQE
set_option linter.unusedVariables false
set_option linter.unusedSimpArgs false
/- Walks: history.fits. -/
namespace Go.Proofs.YtggdddkbhigjoaaDoor
open Go Go.GW
theorem keyT : KeyT Tryd.prog 25 := ⟨⟨3, _, _, Tryd.underlying25, Tryd.underlying3, ti3⟩, eq25⟩
theorem bd25Xw13  (w : World) : (Instr.build 25 #[]).run Tryd.prog w = .ok (.agg #[.int .i64 0, .int .i64 0]) w := by kernel_rfl

set_option maxRecDepth 10000 in
theorem fits_s (h m cap : Nat) (A : Option Addr) (H : Hist) (L : List MR) (hr : HR H L) (i : Int) (o : GOp) (Ao : Option Addr) (co : Nat) (ho : Fit o) : Sp Tryd.prog 39 [.pointer (some ⟨h, 0, none⟩), .int .i64 i, opV o Ao co] [hdP h A H.ops.length cap m H.total, mpP m L, mkP L] [barF, RdF opD A cap H.ops, RdF rgD Ao co o.rs] (HIs (.int .i64 (fitsF H i o)) [hdP h A H.ops.length cap m H.total, mpP m L, mkP L]) := by
  have hol := ops_len H
  have hlen := hr.len
  refine Sp.of (n := 91) ⟨_, Tryd.func39, rfl, rfl, rfl, rfl⟩ (Nat.le_of_ble_eq_true rfl) fun Ps As => ?_
  refine WC_seq (WC_region ?_)
  refine WL_main rfl (OW_box (cs := [_, _, _, _, _, _, _, _, _]) rfl rfl (by decide) fun b5 => ?_)
  refine Lq (q_assign rfl) ?_
  refine WL_nil (thenN (WC_seq (WC_seq (WC_region ?_))))
  refine Lq (q_move rfl) ?_
  refine Lq (q_lss rfl rfl) ?_
  refine Lq (q_move rfl) ?_
  refine WL_guard (t := 11) rfl (fun g11 => ?_) (fun g11 => ?_)
  · refine Ln rfl rfl rfl g11 ?_
    refine Ln rfl rfl rfl g11 ?_
    refine Ln rfl rfl rfl g11 ?_
    refine Ln rfl rfl rfl g11 ?_
    refine Ln rfl rfl rfl g11 ?_
    refine Ln rfl rfl rfl g11 ?_
    refine Ln rfl rfl rfl g11 ?_
    refine Lq (q_pickT rfl g11 rfl) ?_
    refine WL_nil (thenN ?_)
    refine WC_fr [(19, _), (6, _), (5, _), (0, _), (1, _)] (.cons rfl (.cons rfl (.cons rfl (.cons rfl (.cons rfl (.nil _)))))) ?_
    refine WC_true rfl rfl (WC_seq (WC_region ?_))
    refine Lq (q_assign rfl) ?_
    refine WL_nil (thenN (WC_ret (thenRet ?_)))
    refine ⟨_, [_, _, _], [], fun Z w hs => .tmp rfl (.nil), ?_, fun Z w hs => hs.out (List.Sublist.cons _ (List.Sublist.cons_cons _ (List.Sublist.cons_cons _ (List.Sublist.cons_cons _ (List.Sublist.refl _))))) (fun _ h => h)⟩
    try simp only [Bq0, Bq1, Bq2, Bq3, Bq4, Bq5, Bq6, Bq7, Bq8, Bq9, Bq10, Bq11, Bq12] at *
    refine ⟨congrArg (Value.int .i64) ?_, rfl, rfl⟩
    unfold fitsF fitsT fitsRest
    first | (simp_all; done) | (simp_all; omega) | (repeat' split; all_goals first | rfl | omega | (simp_all; done) | (simp_all; omega))
  · refine Lg rfl rfl rfl g11 (q_move rfl) ?_
    refine Lg rfl rfl rfl g11 (q_move rfl) ?_
    refine Lg rfl rfl rfl g11 (q_nil rfl) ?_
    refine Lg rfl rfl rfl g11 (q_field (o' := 0) Tryd.underlying97 rfl ti45 rfl rfl) ?_
    refine Lg rfl rfl rfl g11 (q_load1 Tryd.underlying45 rfl rfl (ownS (own0)) rfl) ?_
    refine Lg rfl rfl rfl g11 (q_len Tryd.underlying45 rfl) ?_
    refine Lg rfl rfl rfl g11 (q_gtr rfl rfl) ?_
    refine Lq (q_pickF rfl g11 rfl) ?_
    refine WL_nil (thenN ?_)
    refine WC_fr [(19, _), (6, _), (5, _), (0, _), (1, _)] (.cons rfl (.cons rfl (.cons rfl (.cons rfl (.cons rfl (.nil _)))))) ?_
    refine WC_cond rfl (fun h19 => ?_) (fun h19 => ?_)
    · refine WC_seq (WC_region ?_)
      refine Lq (q_assign rfl) ?_
      refine WL_nil (thenN (WC_ret (thenRet ?_)))
      refine ⟨_, [_, _, _], [], fun Z w hs => .tmp rfl (.nil), ?_, fun Z w hs => hs.out (List.Sublist.cons _ (List.Sublist.cons_cons _ (List.Sublist.cons_cons _ (List.Sublist.cons_cons _ (List.Sublist.refl _))))) (fun _ h => h)⟩
      try simp only [Bq0, Bq1, Bq2, Bq3, Bq4, Bq5, Bq6, Bq7, Bq8, Bq9, Bq10, Bq11, Bq12] at *
      refine ⟨congrArg (Value.int .i64) ?_, rfl, rfl⟩
      unfold fitsF fitsT fitsRest
      first | (simp_all; done) | (simp_all; omega) | (repeat' split; all_goals first | rfl | omega | (simp_all; done) | (simp_all; omega))
    · refine WC_skip (thenN (WC_seq (WC_seq ?_)))
      try simp only [Bq0, Bq1, Bq2, Bq3, Bq4, Bq5, Bq6, Bq7, Bq8, Bq9, Bq10, Bq11, Bq12] at *
      obtain ⟨i, rfl⟩ : ∃ k : Nat, i = (k : Int) := ⟨i.toNat, by omega⟩
      refine WC_draw _ _ [] (.c 0 0 (.c 1 0 (.c 2 0 (.c 3 2 (.c 4 2 (.c 5 0 .nil)))))) mixed (fun _ _ _ _ h => h) (List.Sublist.cons_cons _ (List.Sublist.cons _ (List.Sublist.cons_cons _ (List.Sublist.cons_cons _ (List.Sublist.refl _))))) (fun _ h => h) (by kernel_rfl) (by decide) fun ws Z0 => ?_
      refine Qe rfl (q_loadN (vs := [_, _, _, _, _, _, _, _, _]) Tryd.underlying31 rfl ti31 rfl own0 rfl rfl) ?_
      refine Qe rfl (q_move rfl) ?_
      refine Qe rfl (q_move rfl) ?_
      refine WE_main rfl rfl (OW_call1 (before_s h m cap A H L hr i (by omega)) (.cons rfl (.cons rfl (.nil))) (by decide) (.s (.z)) (memc (.tail _ (.head _)) (memc (.tail _ (.tail _ (.head _))) mem0)) fun u3_3 Lo fs hres => ?_)
      obtain ⟨rfl, rfl, rfl⟩ := hres
      refine ⟨⟨(List.Sublist.cons _ (List.Sublist.cons_cons _ (List.Sublist.cons_cons _ (List.Sublist.cons_cons _ (List.Sublist.refl _))))), (.head _)⟩, ?_⟩
      refine WE_main rfl rfl (OW_call0 (opCheck_s o Ao co (beforeF H i) (by have := ho.text; omega) ho.rs) (.cons rfl (.cons rfl (.nil))) (by decide) (memc (.tail _ (.head _)) (memc (.tail _ (.tail _ (.tail _ (.head _)))) mem0)) fun u3_4 Lo fs hres => ?_)
      obtain ⟨rfl, rfl, rfl⟩ := hres
      refine ⟨⟨(List.Sublist.cons _ (List.Sublist.cons_cons _ (List.Sublist.cons_cons _ (List.Sublist.cons_cons _ (List.Sublist.refl _))))), (.head _)⟩, ?_⟩
      refine Qe rfl (q_assign rfl) ?_
      refine WE_end (WF_nil ?_)
      refine thenN (WC_seq (WC_region ?_))
      refine Lq (q_move rfl) ?_
      refine Lq (q_neq rfl rfl) ?_
      refine WL_nil (thenN ?_)
      refine WC_cond rfl (fun h26 => ?_) (fun h26 => ?_)
      · refine WC_seq (WC_region ?_)
        refine Lq (q_move rfl) ?_
        refine Lq (q_assign rfl) ?_
        refine WL_nil (thenN ?_)
        refine WC_fr [(6, _), (5, _), (0, _), (1, _)] (.cons rfl (.cons rfl (.cons rfl (.cons rfl (.nil _))))) ?_
        refine WC_ret (thenRet ?_)
        refine ⟨_, [_, _, _], [], fun Z w hs => .tmp rfl (.nil), ?_, fun Z w hs => hs.out (List.Sublist.cons_cons _ (List.Sublist.cons _ (List.Sublist.cons_cons _ (List.Sublist.cons_cons _ (List.Sublist.refl _))))) (fun _ h => .tail _ h)⟩
        try simp only [Bq0, Bq1, Bq2, Bq3, Bq4, Bq5, Bq6, Bq7, Bq8, Bq9, Bq10, Bq11, Bq12] at *
        refine ⟨congrArg (Value.int .i64) ?_, rfl, rfl⟩
        unfold fitsF fitsT fitsRest
        first | (simp_all; done) | (simp_all; omega) | (repeat' split; all_goals first | rfl | omega | (simp_all; done) | (simp_all; omega))
      · refine WC_skip (thenN (WC_seq (WC_block (WC_seq (WC_region ?_)))))
        refine Lq (q_field (o' := 0) Tryd.underlying31 rfl ti28 rfl rfl) ?_
        refine Lq (q_field (o' := 2) Tryd.underlying28 rfl ti26 rfl rfl) ?_
        refine Lq (q_load1 Tryd.underlying26 rfl rfl (ownS (own0)) rfl) ?_
        refine Lq (q_eql rfl rfl) ?_
        refine Lq (q_assign rfl) ?_
        refine WL_nil (thenN ?_)
        refine WC_fr [(28, _), (6, _), (5, _), (0, _), (1, _)] (.cons rfl (.cons rfl (.cons rfl (.cons rfl (.cons rfl (.nil _)))))) ?_
        refine WC_cond rfl (fun h28 => ?_) (fun h28 => ?_)
        · refine WC_seq (WC_region ?_)
          refine Lq (q_assign rfl) ?_
          refine WL_nil (thenN (WC_ret (blockRet (thenRet ?_))))
          refine ⟨_, [_, _, _], [], fun Z w hs => .tmp rfl (.nil), ?_, fun Z w hs => hs.out (List.Sublist.cons_cons _ (List.Sublist.cons _ (List.Sublist.cons_cons _ (List.Sublist.cons_cons _ (List.Sublist.refl _))))) (fun _ h => .tail _ h)⟩
          try simp only [Bq0, Bq1, Bq2, Bq3, Bq4, Bq5, Bq6, Bq7, Bq8, Bq9, Bq10, Bq11, Bq12] at *
          refine ⟨congrArg (Value.int .i64) ?_, rfl, rfl⟩
          unfold fitsF fitsT fitsRest
          first | (simp_all; done) | (simp_all; omega) | (repeat' split; all_goals first | rfl | omega | (simp_all; done) | (simp_all; omega))
        · refine WC_seq (WC_region ?_)
          refine Lq (q_field (o' := 0) Tryd.underlying31 rfl ti28 rfl rfl) ?_
          refine Lq (q_field (o' := 0) Tryd.underlying28 rfl ti25 rfl rfl) ?_
          refine Lq (q_loadN (vs := [_, _]) Tryd.underlying25 rfl ti25 rfl (ownS (own0)) rfl rfl) ?_
          refine Lq (q_build (.nil) (bd25Xw13)) ?_
          refine Lq (q_aggeql rfl rfl (eq25 _ _ _ _)) ?_
          refine Lq (q_assign rfl) ?_
          refine WL_nil (thenN ?_)
          refine WC_cond rfl (fun h33 => ?_) (fun h33 => ?_)
          · refine WC_seq (WC_region ?_)
            refine Lq (q_assign rfl) ?_
            refine WL_nil (thenN (WC_ret (blockRet (thenRet ?_))))
            refine ⟨_, [_, _, _], [], fun Z w hs => .tmp rfl (.nil), ?_, fun Z w hs => hs.out (List.Sublist.cons_cons _ (List.Sublist.cons _ (List.Sublist.cons_cons _ (List.Sublist.cons_cons _ (List.Sublist.refl _))))) (fun _ h => .tail _ h)⟩
            try simp only [Bq0, Bq1, Bq2, Bq3, Bq4, Bq5, Bq6, Bq7, Bq8, Bq9, Bq10, Bq11, Bq12] at *
            refine ⟨congrArg (Value.int .i64) ?_, rfl, rfl⟩
            unfold fitsF fitsT fitsRest
            first | (simp_all; done) | (simp_all; omega) | (repeat' split; all_goals first | rfl | omega | (simp_all; done) | (simp_all; omega))
          · refine WC_seq ?_
            cases hwd : whereId H.ents o.c o.n with
            | none =>
              have hgd := hr.look0 hwd
              refine WC_draw _ _ [] (.c 0 0 (.c 1 0 (.c 2 0 (.c 3 0 (.c 4 0 (.c 5 0 (.c 6 0 (.c 7 0 (.c 8 0 (.c 9 0 .nil)))))))))) mixed (fun _ _ _ _ h => h) (List.Sublist.cons_cons _ (List.Sublist.cons_cons _ (List.Sublist.cons_cons _ (List.Sublist.cons_cons _ (List.Sublist.refl _))))) (fun _ h => h) (by kernel_rfl) (by decide) fun ws Z0 => ?_
              refine Qe rfl (q_move rfl) ?_
              refine Qe rfl (q_nil rfl) ?_
              refine Qe rfl (q_field (o' := 1) Tryd.underlying97 rfl ti95 rfl rfl) ?_
              refine Qe rfl (q_load1 Tryd.underlying95 rfl rfl own0 rfl) ?_
              refine Qe rfl (q_field (o' := 0) Tryd.underlying31 rfl ti28 rfl rfl) ?_
              refine Qe rfl (q_field (o' := 0) Tryd.underlying28 rfl ti25 rfl rfl) ?_
              refine Qe rfl (q_loadN (vs := [_, _]) Tryd.underlying25 rfl ti25 rfl (ownS (own0)) rfl rfl) ?_
              refine Qe rfl (q_lookN keyT hgd Tryd.underlying95 ti99 rfl rfl (ownS (ownS (own0)))) ?_
              refine Qe rfl (q_pneq Tryd.underlying99 rfl rfl (by simp)) ?_
              refine Qe rfl (q_assign rfl) ?_
              refine WE_end (WF_nil ?_)
              refine thenN ?_
              refine WC_fr [(39, _), (6, _), (5, _), (0, _), (1, _)] (.cons rfl (.cons rfl (.cons rfl (.cons rfl (.cons rfl (.nil _)))))) ?_
              refine WC_false rfl rfl (WC_skip (blockN (thenN (WC_seq (WC_seq (WC_region ?_))))))
              refine Lq (q_field (o' := 0) Tryd.underlying31 rfl ti28 rfl rfl) ?_
              refine Lq (q_field (o' := 2) Tryd.underlying28 rfl ti26 rfl rfl) ?_
              refine Lq (q_load1 Tryd.underlying26 rfl rfl (ownS (own0)) rfl) ?_
              refine Lq (q_eql rfl rfl) ?_
              refine WL_nil (thenN ?_)
              refine WC_cond rfl (fun h52 => ?_) (fun h52 => ?_)
              · refine WC_seq ?_
                cases hwt : whereId H.ents o.tc o.tn with
                | none =>
                  have hgt := hr.look0 hwt
                  refine WC_draw _ _ [] (.c 0 0 (.c 1 0 (.c 2 0 (.c 3 0 (.c 4 0 (.c 5 0 (.c 6 0 (.c 7 0 .nil)))))))) mixed (fun _ _ _ _ h => h) (List.Sublist.cons_cons _ (List.Sublist.cons_cons _ (List.Sublist.cons_cons _ (List.Sublist.cons_cons _ (List.Sublist.refl _))))) (fun _ h => h) (by kernel_rfl) (by decide) fun ws Z0 => ?_
                  refine Qe rfl (q_move rfl) ?_
                  refine Qe rfl (q_nil rfl) ?_
                  refine Qe rfl (q_field (o' := 1) Tryd.underlying97 rfl ti95 rfl rfl) ?_
                  refine Qe rfl (q_load1 Tryd.underlying95 rfl rfl own0 rfl) ?_
                  refine Qe rfl (q_field (o' := 6) Tryd.underlying31 rfl ti25 rfl rfl) ?_
                  refine Qe rfl (q_loadN (vs := [_, _]) Tryd.underlying25 rfl ti25 rfl (ownS (own0)) rfl rfl) ?_
                  refine Qe rfl (q_lookN keyT hgt Tryd.underlying95 ti99 rfl rfl (ownS (ownS (own0)))) ?_
                  refine Qe rfl (q_assign rfl) ?_
                  refine WE_end (WF_nil ?_)
                  refine thenN ?_
                  refine WC_fr [(8, _), (6, _), (5, _), (0, _), (1, _)] (.cons rfl (.cons rfl (.cons rfl (.cons rfl (.cons rfl (.nil _)))))) ?_
                  refine WC_seq (WC_seq (WC_region ?_))
                  refine Lq (q_move rfl) ?_
                  refine Lq (q_peql Tryd.underlying99 rfl rfl (by simp)) ?_
                  refine Lq (q_move rfl) ?_
                  refine Ln rfl rfl rfl rfl ?_
                  refine Ln rfl rfl rfl rfl ?_
                  refine Ln rfl rfl rfl rfl ?_
                  refine Ln rfl rfl rfl rfl ?_
                  refine Ln rfl rfl rfl rfl ?_
                  refine Ln rfl rfl rfl rfl ?_
                  refine Lq (q_pickT rfl rfl rfl) ?_
                  refine WL_nil (thenN ?_)
                  refine WC_fr [(69, _), (8, _), (6, _), (5, _), (0, _)] (.cons rfl (.cons rfl (.cons rfl (.cons rfl (.cons rfl (.nil _)))))) ?_
                  refine WC_true rfl rfl (WC_seq (WC_region ?_))
                  refine Lq (q_assign rfl) ?_
                  refine WL_nil (thenN (WC_ret (thenRet (thenRet ?_))))
                  refine ⟨_, [_, _, _], [], fun Z w hs => .tmp rfl (.nil), ?_, fun Z w hs => hs.out (List.Sublist.cons_cons _ (List.Sublist.cons _ (List.Sublist.cons_cons _ (List.Sublist.cons_cons _ (List.Sublist.refl _))))) (fun _ h => .tail _ (.tail _ (.tail _ h)))⟩
                  try simp only [Bq0, Bq1, Bq2, Bq3, Bq4, Bq5, Bq6, Bq7, Bq8, Bq9, Bq10, Bq11, Bq12] at *
                  refine ⟨congrArg (Value.int .i64) ?_, rfl, rfl⟩
                  unfold fitsF fitsT fitsRest
                  first | (simp_all; done) | (simp_all; omega) | (repeat' split; all_goals first | rfl | omega | (simp_all; done) | (simp_all; omega))
                | some kt =>
                  obtain ⟨hkt, jt, xt, hct, hnt, hjt, hmt, hgt⟩ := hr.look1 hwt
                  obtain ⟨xmt, xbt, xAt, xct⟩ := xt
                  obtain rfl : xmt = markAt kt H.ents[kt] := hmt
                  refine WC_draw _ _ [] (.c 0 0 (.c 1 0 (.c 2 0 (.c 3 0 (.c 4 0 (.c 5 0 (.c 6 0 (.c 7 0 .nil)))))))) mixed (fun _ _ _ _ h => h) (List.Sublist.cons_cons _ (List.Sublist.cons_cons _ (List.Sublist.cons_cons _ (List.Sublist.cons_cons _ (List.Sublist.refl _))))) (fun _ h => h) (by kernel_rfl) (by decide) fun ws Z0 => ?_
                  refine Qe rfl (q_move rfl) ?_
                  refine Qe rfl (q_nil rfl) ?_
                  refine Qe rfl (q_field (o' := 1) Tryd.underlying97 rfl ti95 rfl rfl) ?_
                  refine Qe rfl (q_load1 Tryd.underlying95 rfl rfl own0 rfl) ?_
                  refine Qe rfl (q_field (o' := 6) Tryd.underlying31 rfl ti25 rfl rfl) ?_
                  refine Qe rfl (q_loadN (vs := [_, _]) Tryd.underlying25 rfl ti25 rfl (ownS (own0)) rfl rfl) ?_
                  refine Qe rfl (q_lookS keyT hgt Tryd.underlying95 ti99 rfl rfl (ownS (ownS (own0)))) ?_
                  refine Qe rfl (q_assign rfl) ?_
                  refine WE_end (WF_nil ?_)
                  refine thenN ?_
                  refine WC_fr [(8, _), (6, _), (5, _), (0, _), (1, _)] (.cons rfl (.cons rfl (.cons rfl (.cons rfl (.cons rfl (.nil _)))))) ?_
                  refine WC_seq (WC_seq (WC_region ?_))
                  refine Lq (q_move rfl) ?_
                  refine Lq (q_peql Tryd.underlying99 rfl rfl (by simp)) ?_
                  refine Lq (q_move rfl) ?_
                  refine Lg rfl rfl rfl rfl (q_move rfl) ?_
                  refine Lg rfl rfl rfl rfl (q_nil rfl) ?_
                  refine Lg rfl rfl rfl rfl (q_field (o' := 0) Tryd.underlying101 rfl ti3 rfl rfl) ?_
                  refine Lg rfl rfl rfl rfl (q_load1 (v := .int .i64 (kt : Int)) Tryd.underlying3 rfl rfl (ownS (ownS (ownS (ownI (mkP_mem hjt))))) rfl) ?_
                  refine Lg rfl rfl rfl rfl (q_move rfl) ?_
                  refine Lg rfl rfl rfl rfl (q_geq rfl rfl) ?_
                  refine Lq (q_pickF rfl rfl rfl) ?_
                  refine WL_nil (thenN ?_)
                  refine WC_fr [(69, _), (8, _), (6, _), (5, _), (0, _)] (.cons rfl (.cons rfl (.cons rfl (.cons rfl (.cons rfl (.nil _)))))) ?_
                  refine WC_cond rfl (fun h69 => ?_) (fun h69 => ?_)
                  · refine WC_seq (WC_region ?_)
                    refine Lq (q_assign rfl) ?_
                    refine WL_nil (thenN (WC_ret (thenRet (thenRet ?_))))
                    refine ⟨_, [_, _, _], [], fun Z w hs => .tmp rfl (.nil), ?_, fun Z w hs => hs.out (List.Sublist.cons_cons _ (List.Sublist.cons _ (List.Sublist.cons_cons _ (List.Sublist.cons_cons _ (List.Sublist.refl _))))) (fun _ h => .tail _ (.tail _ (.tail _ h)))⟩
                    try simp only [Bq0, Bq1, Bq2, Bq3, Bq4, Bq5, Bq6, Bq7, Bq8, Bq9, Bq10, Bq11, Bq12] at *
                    refine ⟨congrArg (Value.int .i64) ?_, rfl, rfl⟩
                    unfold fitsF fitsT fitsRest
                    first | (simp_all; done) | (simp_all; omega) | (repeat' split; all_goals first | rfl | omega | (simp_all; done) | (simp_all; omega))
                  · refine WC_skip (thenN (WC_seq ?_))
                    have hko : kt < H.ops.length := by omega
                    refine WC_elem (k := kt) (.tail _ (.tail _ (.tail _ (.tail _ (.head _))))) (List.getElem?_eq_getElem hko) (op_open _) fun bo qo yo eo => ?_
                    cases eo
                    have hop := ops_at hkt
                    refine WC_draw _ _ [] (.c 0 0 (.c 1 0 (.c 2 0 (.c 3 0 (.c 4 0 (.c 5 0 (.c 6 0 (.c 7 0 (.c 8 0 (.c 9 0 (.c 10 0 (.c 11 0 (.c 12 0 .nil))))))))))))) mixed (fun _ _ _ _ h => h) (List.Sublist.cons_cons _ (List.Sublist.cons_cons _ (List.Sublist.cons_cons _ (List.Sublist.cons_cons _ (List.Sublist.refl _))))) (fun _ h => h) (by kernel_rfl) (by decide) fun ws Z0 => ?_
                    refine Qe rfl (q_move rfl) ?_
                    refine Qe rfl (q_nil rfl) ?_
                    refine Qe rfl (q_field (o' := 0) Tryd.underlying97 rfl ti45 rfl rfl) ?_
                    refine Qe rfl (q_load1 Tryd.underlying45 rfl rfl own0 rfl) ?_
                    refine Qe rfl (q_move rfl) ?_
                    refine Qe rfl (q_nil rfl) ?_
                    refine Qe rfl (q_field (o' := 0) Tryd.underlying101 rfl ti3 rfl rfl) ?_
                    refine Qe rfl (q_load1 (v := .int .i64 (kt : Int)) Tryd.underlying3 rfl rfl (ownS (ownS (ownS (ownI (mkP_mem hjt))))) rfl) ?_
                    refine Qe rfl (q_idxRd Tryd.underlying45 ti31 rfl rfl (by omega) (by omega)) ?_
                    refine Qe rfl (q_field (o' := _ + 0) Tryd.underlying31 rfl ti28 rfl rfl) ?_
                    refine Qe rfl (q_field (o' := _ + 2) Tryd.underlying28 rfl ti26 rfl rfl) ?_
                    refine Qe rfl (q_loadF1 (j := 2) Tryd.underlying26 rfl rfl (.head _) rfl rfl) ?_
                    refine Qe rfl (q_eql rfl rfl) ?_
                    refine WE_end (WF_nil ?_)
                    refine thenN ?_
                    refine WC_fr [(82, _), (6, _), (5, _), (0, _)] (.cons rfl (.cons rfl (.cons rfl (.cons rfl (.nil _))))) ?_
                    refine WC_cond rfl (fun h82 => ?_) (fun h82 => ?_)
                    · refine WC_seq (WC_region ?_)
                      refine Lq (q_assign rfl) ?_
                      refine WL_nil (thenN (WC_ret (thenRet ?_)))
                      refine ⟨_, [_, _, _], [], fun Z w hs => .tmp rfl (.nil), ?_, fun Z w hs => hs.out (List.Sublist.cons_cons _ (List.Sublist.cons _ (List.Sublist.cons_cons _ (List.Sublist.cons_cons _ (List.Sublist.refl _))))) (fun _ h => .tail _ (.tail _ (.tail _ (.tail _ (.tail _ (.tail _ h))))))⟩
                      try simp only [Bq0, Bq1, Bq2, Bq3, Bq4, Bq5, Bq6, Bq7, Bq8, Bq9, Bq10, Bq11, Bq12] at *
                      refine ⟨congrArg (Value.int .i64) ?_, rfl, rfl⟩
                      unfold fitsF fitsT fitsRest
                      first | (simp_all; done) | (simp_all; omega) | (repeat' split; all_goals first | rfl | omega | (simp_all; done) | (simp_all; omega))
                    · refine WC_skip (thenN (WC_seq (WC_seq ?_)))
                      refine WC_draw _ _ [] (.c 0 0 (.c 1 0 (.c 2 0 (.c 3 0 (.c 4 0 (.c 5 2 (.c 6 0 (.c 7 0 .nil)))))))) mixed (fun _ _ _ _ h => h) (List.Sublist.cons_cons _ (List.Sublist.cons_cons _ (List.Sublist.cons_cons _ (List.Sublist.cons_cons _ (List.Sublist.refl _))))) (fun _ h => h) (by kernel_rfl) (by decide) fun ws Z0 => ?_
                      refine Qe rfl (q_move rfl) ?_
                      refine Qe rfl (q_nil rfl) ?_
                      refine Qe rfl (q_field (o' := 2) Tryd.underlying97 rfl ti3 rfl rfl) ?_
                      refine Qe rfl (q_load1 Tryd.underlying3 rfl rfl own0 rfl) ?_
                      refine Qe rfl (q_loadN (vs := [_, _, _, _, _, _, _, _, _]) Tryd.underlying31 rfl ti31 rfl (ownS (own0)) rfl rfl) ?_
                      refine WE_main rfl rfl (OW_call0 (width_s o Ao co (by have := ho.text; omega)) (.cons rfl (.nil)) (by decide) (memc (.tail _ (.tail _ (.tail _ (.tail _ (.tail _ (.tail _ (.tail _ (.head _)))))))) mem0) fun u18_5 Lo fs hres => ?_)
                      obtain ⟨rfl, rfl, rfl⟩ := hres
                      refine ⟨⟨(List.Sublist.cons_cons _ (List.Sublist.cons_cons _ (List.Sublist.cons_cons _ (List.Sublist.cons_cons _ (List.Sublist.refl _))))), (.head _)⟩, ?_⟩
                      refine Qe rfl (q_add rfl rfl (wr64 (by have := hr.tot; have := widthF_le o; have := ho.text; omega))) ?_
                      refine Qe rfl (q_gtr rfl rfl) ?_
                      refine WE_end (WF_nil ?_)
                      refine thenN ?_
                      refine WC_cond rfl (fun h90 => ?_) (fun h90 => ?_)
                      · refine WC_seq (WC_region ?_)
                        refine Lq (q_assign rfl) ?_
                        refine WL_nil (thenN (WC_ret (thenRet ?_)))
                        refine ⟨_, [_, _, _], [], fun Z w hs => .tmp rfl (.nil), ?_, fun Z w hs => hs.out (List.Sublist.cons_cons _ (List.Sublist.cons _ (List.Sublist.cons_cons _ (List.Sublist.cons_cons _ (List.Sublist.refl _))))) (fun _ h => .tail _ (.tail _ (.tail _ (.tail _ (.tail _ (.tail _ (.tail _ h)))))))⟩
                        try simp only [Bq0, Bq1, Bq2, Bq3, Bq4, Bq5, Bq6, Bq7, Bq8, Bq9, Bq10, Bq11, Bq12] at *
                        refine ⟨congrArg (Value.int .i64) ?_, rfl, rfl⟩
                        unfold fitsF fitsT fitsRest
                        first | (simp_all; done) | (simp_all; omega) | (repeat' split; all_goals first | rfl | omega | (simp_all; done) | (simp_all; omega))
                      · refine WC_skip (thenN (WC_seq (WC_region ?_)))
                        refine Lq (q_assign rfl) ?_
                        refine WL_nil (thenN (WC_ret ?_))
                        refine ⟨_, [_, _, _], [], fun Z w hs => .tmp rfl (.nil), ?_, fun Z w hs => hs.out (List.Sublist.cons_cons _ (List.Sublist.cons _ (List.Sublist.cons_cons _ (List.Sublist.cons_cons _ (List.Sublist.refl _))))) (fun _ h => .tail _ (.tail _ (.tail _ (.tail _ (.tail _ (.tail _ (.tail _ h)))))))⟩
                        try simp only [Bq0, Bq1, Bq2, Bq3, Bq4, Bq5, Bq6, Bq7, Bq8, Bq9, Bq10, Bq11, Bq12] at *
                        refine ⟨congrArg (Value.int .i64) ?_, rfl, rfl⟩
                        unfold fitsF fitsT fitsRest
                        first | (simp_all; done) | (simp_all; omega) | (repeat' split; all_goals first | rfl | omega | (simp_all; done) | (simp_all; omega))
              · refine WC_skip (thenN (WC_seq (WC_seq ?_)))
                refine WC_draw _ _ [] (.c 0 0 (.c 1 0 (.c 2 0 (.c 3 0 (.c 4 0 (.c 5 2 (.c 6 0 (.c 7 0 .nil)))))))) mixed (fun _ _ _ _ h => h) (List.Sublist.cons_cons _ (List.Sublist.cons_cons _ (List.Sublist.cons_cons _ (List.Sublist.cons_cons _ (List.Sublist.refl _))))) (fun _ h => h) (by kernel_rfl) (by decide) fun ws Z0 => ?_
                refine Qe rfl (q_move rfl) ?_
                refine Qe rfl (q_nil rfl) ?_
                refine Qe rfl (q_field (o' := 2) Tryd.underlying97 rfl ti3 rfl rfl) ?_
                refine Qe rfl (q_load1 Tryd.underlying3 rfl rfl own0 rfl) ?_
                refine Qe rfl (q_loadN (vs := [_, _, _, _, _, _, _, _, _]) Tryd.underlying31 rfl ti31 rfl (ownS (own0)) rfl rfl) ?_
                refine WE_main rfl rfl (OW_call0 (width_s o Ao co (by have := ho.text; omega)) (.cons rfl (.nil)) (by decide) (memc (.tail _ (.tail _ (.tail _ (.head _)))) mem0) fun u18_5 Lo fs hres => ?_)
                obtain ⟨rfl, rfl, rfl⟩ := hres
                refine ⟨⟨(List.Sublist.cons_cons _ (List.Sublist.cons_cons _ (List.Sublist.cons_cons _ (List.Sublist.cons_cons _ (List.Sublist.refl _))))), (.head _)⟩, ?_⟩
                refine Qe rfl (q_add rfl rfl (wr64 (by have := hr.tot; have := widthF_le o; have := ho.text; omega))) ?_
                refine Qe rfl (q_gtr rfl rfl) ?_
                refine WE_end (WF_nil ?_)
                refine thenN ?_
                refine WC_fr [(90, _), (6, _)] (.cons rfl (.cons rfl (.nil _))) ?_
                refine WC_cond rfl (fun h90 => ?_) (fun h90 => ?_)
                · refine WC_seq (WC_region ?_)
                  refine Lq (q_assign rfl) ?_
                  refine WL_nil (thenN (WC_ret (thenRet ?_)))
                  refine ⟨_, [_, _, _], [], fun Z w hs => .tmp rfl (.nil), ?_, fun Z w hs => hs.out (List.Sublist.cons_cons _ (List.Sublist.cons _ (List.Sublist.cons_cons _ (List.Sublist.cons_cons _ (List.Sublist.refl _))))) (fun _ h => .tail _ (.tail _ (.tail _ h)))⟩
                  try simp only [Bq0, Bq1, Bq2, Bq3, Bq4, Bq5, Bq6, Bq7, Bq8, Bq9, Bq10, Bq11, Bq12] at *
                  refine ⟨congrArg (Value.int .i64) ?_, rfl, rfl⟩
                  unfold fitsF fitsT fitsRest
                  first | (simp_all; done) | (simp_all; omega) | (repeat' split; all_goals first | rfl | omega | (simp_all; done) | (simp_all; omega))
                · refine WC_skip (thenN (WC_seq (WC_region ?_)))
                  refine Lq (q_assign rfl) ?_
                  refine WL_nil (thenN (WC_ret ?_))
                  refine ⟨_, [_, _, _], [], fun Z w hs => .tmp rfl (.nil), ?_, fun Z w hs => hs.out (List.Sublist.cons_cons _ (List.Sublist.cons _ (List.Sublist.cons_cons _ (List.Sublist.cons_cons _ (List.Sublist.refl _))))) (fun _ h => .tail _ (.tail _ (.tail _ h)))⟩
                  try simp only [Bq0, Bq1, Bq2, Bq3, Bq4, Bq5, Bq6, Bq7, Bq8, Bq9, Bq10, Bq11, Bq12] at *
                  refine ⟨congrArg (Value.int .i64) ?_, rfl, rfl⟩
                  unfold fitsF fitsT fitsRest
                  first | (simp_all; done) | (simp_all; omega) | (repeat' split; all_goals first | rfl | omega | (simp_all; done) | (simp_all; omega))
            | some kd =>
              obtain ⟨hkd, jd, xd, hcd, hnd, hjd, hmd, hgd⟩ := hr.look1 hwd
              obtain ⟨xmd, xbd, xAd, xcd⟩ := xd
              obtain rfl : xmd = markAt kd H.ents[kd] := hmd
              refine WC_draw _ _ [] (.c 0 0 (.c 1 0 (.c 2 0 (.c 3 0 (.c 4 0 (.c 5 0 (.c 6 0 (.c 7 0 (.c 8 0 (.c 9 0 .nil)))))))))) mixed (fun _ _ _ _ h => h) (List.Sublist.cons_cons _ (List.Sublist.cons_cons _ (List.Sublist.cons_cons _ (List.Sublist.cons_cons _ (List.Sublist.refl _))))) (fun _ h => h) (by kernel_rfl) (by decide) fun ws Z0 => ?_
              refine Qe rfl (q_move rfl) ?_
              refine Qe rfl (q_nil rfl) ?_
              refine Qe rfl (q_field (o' := 1) Tryd.underlying97 rfl ti95 rfl rfl) ?_
              refine Qe rfl (q_load1 Tryd.underlying95 rfl rfl own0 rfl) ?_
              refine Qe rfl (q_field (o' := 0) Tryd.underlying31 rfl ti28 rfl rfl) ?_
              refine Qe rfl (q_field (o' := 0) Tryd.underlying28 rfl ti25 rfl rfl) ?_
              refine Qe rfl (q_loadN (vs := [_, _]) Tryd.underlying25 rfl ti25 rfl (ownS (own0)) rfl rfl) ?_
              refine Qe rfl (q_lookS keyT hgd Tryd.underlying95 ti99 rfl rfl (ownS (ownS (own0)))) ?_
              refine Qe rfl (q_pneq Tryd.underlying99 rfl rfl (by simp)) ?_
              refine Qe rfl (q_assign rfl) ?_
              refine WE_end (WF_nil ?_)
              refine thenN ?_
              refine WC_fr [(39, _), (6, _), (5, _), (0, _), (1, _)] (.cons rfl (.cons rfl (.cons rfl (.cons rfl (.cons rfl (.nil _)))))) ?_
              refine WC_true rfl rfl (WC_seq (WC_region ?_))
              refine Lq (q_assign rfl) ?_
              refine WL_nil (thenN (WC_ret (blockRet (thenRet ?_))))
              refine ⟨_, [_, _, _], [], fun Z w hs => .tmp rfl (.nil), ?_, fun Z w hs => hs.out (List.Sublist.cons_cons _ (List.Sublist.cons _ (List.Sublist.cons_cons _ (List.Sublist.cons_cons _ (List.Sublist.refl _))))) (fun _ h => .tail _ (.tail _ h))⟩
              try simp only [Bq0, Bq1, Bq2, Bq3, Bq4, Bq5, Bq6, Bq7, Bq8, Bq9, Bq10, Bq11, Bq12] at *
              refine ⟨congrArg (Value.int .i64) ?_, rfl, rfl⟩
              unfold fitsF fitsT fitsRest
              first | (simp_all; done) | (simp_all; omega) | (repeat' split; all_goals first | rfl | omega | (simp_all; done) | (simp_all; omega))

end Go.Proofs.YtggdddkbhigjoaaDoor
/- Walks: history.moved. -/
namespace Go.Proofs.YtggdddkbhigjoaaDoor
open Go Go.GW
/-- Cells of the answers. -/
def slC (x : List Rg × Option Addr × Nat) : Value := .slice x.2.1 x.1.length x.2.2
def slsF (ys : List (List Rg × Option Addr × Nat)) : Fact := AllF ys fun x => RdF rgD x.2.1 x.2.2 x.1
structure MvI (ents : List Ent) (at_ n : Int) (k : Nat) (ys : List (List Rg × Option Addr × Nat)) : Prop where
  le : k ≤ ents.length
  len : ys.length = k
  eq : movedAll ents at_ n = (match movedAll (ents.drop k) at_ n with | .error e => .error e | .ok ls => .ok (ys.map Prod.fst ++ ls))
theorem MvI.err {ents : List Ent} {at_ n : Int} {k : Nat} {ys : List (List Rg × Option Addr × Nat)} (h : MvI ents at_ n k ys) (hk : k < ents.length) (h1 : (thrF ents[k].now at_ n).2 ≠ 0) : movedAll ents at_ n = .error (thrF ents[k].now at_ n).2 := by
  rw [h.eq, List.drop_eq_getElem_cons hk, movedAll, if_pos h1]
theorem MvI.next {ents : List Ent} {at_ n : Int} {k : Nat} {ys : List (List Rg × Option Addr × Nat)} (h : MvI ents at_ n k ys) (hk : k < ents.length) (h1 : ¬ (thrF ents[k].now at_ n).2 ≠ 0) (A : Option Addr) (c : Nat) : MvI ents at_ n (k + 1) (ys ++ [((thrF ents[k].now at_ n).1, A, c)]) := by
  refine ⟨hk, by simp [h.len], ?_⟩
  rw [h.eq, List.drop_eq_getElem_cons hk, movedAll, if_neg h1]
  cases movedAll (ents.drop (k + 1)) at_ n with
  | error e => rfl
  | ok ls => simp
theorem MvI.done {ents : List Ent} {at_ n : Int} {k : Nat} {ys : List (List Rg × Option Addr × Nat)} (h : MvI ents at_ n k ys) (hk : ¬ k < ents.length) : movedAll ents at_ n = .ok (ys.map Prod.fst) := by
  rw [h.eq, List.drop_eq_nil_of_le (by have := h.le; omega)]
  simp [movedAll]
theorem sls_reps {ys : List (List Rg × Option Addr × Nat)} {Z : Nat → Prop} {w : World} (h : (slsF ys).holds Z w) : Reps (rsl.rep Z w) (ys.map Prod.fst) (ys.map fun x => [slC x]) := by
  induction ys with
  | nil => exact .nil
  | cons y ys ih => exact .cons ⟨y.2.1, y.2.2, rfl, h y List.mem_cons_self⟩ (ih fun x hx => h x (List.mem_cons_of_mem _ hx))
theorem sls_flat (ys : List (List Rg × Option Addr × Nat)) : (ys.map fun x => [slC x]).flatten = ys.map slC := by
  induction ys with
  | nil => rfl
  | cons y ys ih => simp [ih]
def MvP (r : Except Int (List (List Rg))) (ps : List Part) : Value → List Part → List Fact → Prop := fun v Lo fs => Lo = ps ∧
  match r with
  | .error e => v = .tuple #[.slice none 0 0, .int .i64 e] ∧ fs = []
  | .ok ls => ∃ A c, v = .tuple #[.slice A ls.length c, .int .i64 0] ∧ fs = [RdF rsl A c ls]

set_option maxRecDepth 10000 in
theorem hmoved_s (h m cap : Nat) (A : Option Addr) (H : Hist) (L : List MR) (hr : HR H L) (at_ n : Int) : Sp Tryd.prog 41 [.pointer (some ⟨h, 0, none⟩), .int .i64 at_, .int .i64 n] [hdP h A H.ops.length cap m H.total, mpP m L, mkP L] [RdF opD A cap H.ops, AllF L nowF] (MvP (movedAll H.ents at_ n) [hdP h A H.ops.length cap m H.total, mpP m L, mkP L]) := by
  have hol := ops_len H
  have hlen := hr.len
  refine Sp.of (n := 55) ⟨_, Tryd.func41, rfl, rfl, rfl, rfl⟩ (Nat.le_of_ble_eq_true rfl) fun Ps As => ?_
  refine WC_seq (WC_region ?_)
  refine Lq (q_assign rfl) ?_
  refine Lq (q_assign rfl) ?_
  refine WL_nil (thenN (WC_seq (WC_region ?_)))
  refine Lq (q_move rfl) ?_
  refine Lq (q_nil rfl) ?_
  refine Lq (q_field (o' := 0) Tryd.underlying97 rfl ti45 rfl rfl) ?_
  refine Lq (q_load1 Tryd.underlying45 rfl rfl own0 rfl) ?_
  refine Lq (q_len Tryd.underlying45 rfl) ?_
  refine WL_main rfl (OW_make1 Tryd.underlying102 ti29 rfl rfl rfl (by omega) (by unfold maxLen; omega) (by decide) fun bo => ?_)
  refine Lq (q_assign rfl) ?_
  refine WL_nil (thenN (WC_seq (WC_seq (WC_region ?_))))
  refine Lq (q_move rfl) ?_
  refine Lq (q_nil rfl) ?_
  refine Lq (q_field (o' := 0) Tryd.underlying97 rfl ti45 rfl rfl) ?_
  refine Lq (q_load1 Tryd.underlying45 rfl rfl (ownS (own0)) rfl) ?_
  refine Lq (q_len Tryd.underlying45 rfl) ?_
  refine Lq (q_move rfl) ?_
  refine WL_nil (thenN ?_)
  refine WC_fr [(24, _), (23, _), (22, _), (8, _), (7, _), (6, _), (0, _), (1, _), (2, _)] (.cons rfl (.cons rfl (.cons rfl (.cons rfl (.cons rfl (.cons rfl (.cons rfl (.cons rfl (.cons rfl (.nil _)))))))))) ?_
  refine WC_block ?_
  refine WC_fact (A := slsF []) (fun Z w hs x hx => by cases hx) ?_
  refine WC_loopE (α := Nat × List (List Rg × Option Addr × Nat)) (fun (k, ys) => H.ops.length - k)
    (fun (k, ys) => [(0, .pointer (some ⟨h, 0, none⟩)), (1, .int .i64 at_), (2, .int .i64 n), (8, .slice (some ⟨bo, 0, none⟩) H.ops.length H.ops.length), (22, .slice A H.ops.length cap), (23, .int .i64 H.ops.length), (24, .int .i64 k)])
    (fun (k, ys) => ([(bo, cellsO (ys.map slC ++ List.replicate (H.ops.length - k) (Value.slice none 0 0)) 29)] :: hdP h A H.ops.length cap m H.total :: mpP m L :: mkP L :: Ps))
    (fun (k, ys) => (slsF ys :: RdF opD A cap H.ops :: AllF L nowF :: As))
    (fun (k, ys) => MvI H.ents at_ n k ys)
    (0, []) ?_ (.cons rfl (.cons rfl (.cons rfl (.cons rfl (.cons rfl (.cons rfl (.cons rfl (.nil _)))))))) (List.Sublist.cons_cons _ (List.Sublist.cons_cons _ (List.Sublist.cons_cons _ (List.Sublist.cons_cons _ (List.Sublist.refl _))))) (fun _ h => h) ?_
  · exact ⟨Nat.zero_le _, rfl, by cases hq : movedAll H.ents at_ n <;> simp [hq]⟩
  · rintro ⟨k, ys⟩ hI
    refine WC_seq (WC_region ?_)
    refine Lq (q_lss rfl rfl) ?_
    refine WL_nil (thenN (WC_seq ?_))
    refine WC_cond rfl (fun h25 => ?_) (fun h25 => ?_)
    · refine WC_skip (thenN (WC_seq (WC_block (WC_seq ?_))))
      try simp only [Bq0, Bq1, Bq2, Bq3, Bq4, Bq5, Bq6, Bq7, Bq8, Bq9, Bq10, Bq11, Bq12] at *
      have hke : k < H.ents.length := by omega
      have hk : k < H.ops.length := by omega
      have hop := ops_at hke
      refine WC_elem (k := k) (.tail _ (.head _)) (List.getElem?_eq_getElem hk) (op_open _) fun b4 q4 y4 e4 => ?_
      cases e4
      refine WC_region ?_
      refine Lq (q_move rfl) ?_
      refine Lq (q_idxRd Tryd.underlying45 ti31 rfl rfl (by omega) (by omega)) ?_
      refine Lq (q_loadFN (k := 0) (vs := [_, _, _, _, _, _, _, _, _]) Tryd.underlying31 rfl ti31 rfl (.head _) rfl rfl rfl) ?_
      refine WL_main rfl (OW_alloc (cs := [_, _, _, _, _, _, _, _, _]) ti31 rfl (by decide) fun b10 => ?_)
      refine Lq (q_assign rfl) ?_
      refine WL_main rfl (OW_storeN (cs' := [_, _, _, _, _, _, _, _, _]) (vs := [_, _, _, _, _, _, _, _, _]) ti31 rfl rfl rfl rfl rfl (Nat.le_of_ble_eq_true rfl) (.z) ?_)
      refine WL_nil (thenN (WC_seq ?_))
      obtain ⟨jm, xm, hjm, hxm, hgm⟩ := hr.look hke
      obtain ⟨xk, xb, xA, xc⟩ := xm
      obtain rfl : xk = markAt k H.ents[k] := hxm
      rw [← hop] at hgm
      refine WC_all _ (.tail _ (.tail _ (.tail _ (.tail _ (.head _))))) (List.mem_of_getElem? hjm) ?_
      refine WC_draw _ _ [] (.c 0 0 (.c 1 0 (.c 2 0 (.c 3 0 (.c 4 0 (.c 5 0 (.c 6 0 (.c 7 0 (.c 8 0 (.c 9 0 (.c 10 0 (.c 11 0 (.c 12 0 (.c 13 2 (.c 14 0 (.c 15 0 (.c 16 0 (.c 17 0 (.c 18 0 .nil))))))))))))))))))) mixed (fun _ _ _ _ h => h) (List.Sublist.cons_cons _ (List.Sublist.cons_cons _ (List.Sublist.cons_cons _ (List.Sublist.cons_cons _ (List.Sublist.cons_cons _ (List.Sublist.refl _)))))) (fun _ h => h) (by kernel_rfl) (by decide) fun ws Z0 => ?_
      refine Qe rfl (q_move rfl) ?_
      refine Qe rfl (q_nil rfl) ?_
      refine Qe rfl (q_field (o' := 1) Tryd.underlying97 rfl ti95 rfl rfl) ?_
      refine Qe rfl (q_load1 Tryd.underlying95 rfl rfl (ownS (ownS (own0))) rfl) ?_
      refine Qe rfl (q_field (o' := 0) Tryd.underlying31 rfl ti28 rfl rfl) ?_
      refine Qe rfl (q_field (o' := 0) Tryd.underlying28 rfl ti25 rfl rfl) ?_
      refine Qe rfl (q_loadN (vs := [_, _]) Tryd.underlying25 rfl ti25 rfl own0 rfl rfl) ?_
      refine Qe rfl (q_lookS keyT hgm Tryd.underlying95 ti99 rfl rfl (ownS (ownS (ownS (own0))))) ?_
      refine Qe rfl (q_nil rfl) ?_
      refine Qe rfl (q_field (o' := 1) Tryd.underlying101 rfl ti29 rfl rfl) ?_
      refine Qe rfl (q_load1 Tryd.underlying29 rfl rfl (ownS (ownS (ownS (ownS (ownI (mkP_mem hjm)))))) rfl) ?_
      refine Qe rfl (q_move rfl) ?_
      refine Qe rfl (q_move rfl) ?_
      refine WE_main rfl rfl (OW_call0 (through_s xA xc H.ents[k].now at_ n (hr.now _ (List.getElem_mem hke))) (.cons rfl (.cons rfl (.cons rfl (.nil)))) (by decide) (memc (.tail _ (.head _)) mem0) fun u5_13 Lo fs hres => ?_)
      obtain ⟨A3, c3, rfl, rfl, rfl⟩ := hres
      refine ⟨⟨(List.Sublist.cons_cons _ (List.Sublist.cons_cons _ (List.Sublist.cons_cons _ (List.Sublist.cons_cons _ (List.Sublist.cons_cons _ (List.Sublist.refl _)))))), (.tail _ (.head _))⟩, ?_⟩
      refine Qe rfl (q_move rfl) ?_
      refine Qe rfl (q_extract (vs := [_, _]) rfl rfl) ?_
      refine Qe rfl (q_extract (vs := [_, _]) rfl rfl) ?_
      refine Qe rfl (q_assign rfl) ?_
      refine Qe rfl (q_assign rfl) ?_
      refine WE_end (WF_nil ?_)
      refine thenN (WC_seq (WC_seq (WC_region ?_)))
      refine Lq (q_move rfl) ?_
      refine Lq (q_neq rfl rfl) ?_
      refine WL_nil (thenN ?_)
      refine WC_cond rfl (fun h47 => ?_) (fun h47 => ?_)
      · refine WC_seq (WC_region ?_)
        refine Lq (q_move rfl) ?_
        refine Lq (q_assign rfl) ?_
        refine Lq (q_assign rfl) ?_
        refine WL_nil (thenN (WC_ret (thenRet (blockRet (thenRet (thenRet (blockRet ?_)))))))
        refine thenRet ?_
        refine ⟨_, [_, _, _], [], fun Z w hs => .tmp rfl (.tmp rfl (.nil)), ?_, fun Z w hs => hs.out (List.Sublist.cons _ (List.Sublist.cons _ (List.Sublist.cons_cons _ (List.Sublist.cons_cons _ (List.Sublist.cons_cons _ (List.Sublist.refl _)))))) (fun _ h => .tail _ (.tail _ (.tail _ (.tail _ (.tail _ (.tail _ h))))))⟩
        try simp only [Bq0, Bq1, Bq2, Bq3, Bq4, Bq5, Bq6, Bq7, Bq8, Bq9, Bq10, Bq11, Bq12] at *
        refine ⟨rfl, ?_⟩
        rw [hI.err hke (by omega)]
        exact ⟨rfl, rfl⟩
      · refine WC_skip (thenN ?_)
        try simp only [Bq0, Bq1, Bq2, Bq3, Bq4, Bq5, Bq6, Bq7, Bq8, Bq9, Bq10, Bq11, Bq12] at *
        have hrep : List.replicate (H.ops.length - k) (Value.slice none 0 0) = .slice none 0 0 :: List.replicate (H.ops.length - (k + 1)) (Value.slice none 0 0) := by rw [show H.ops.length - k = (H.ops.length - (k + 1)) + 1 from by omega, List.replicate_succ]
        have hyl := hI.len
        refine WC_region ?_
        refine Lq (q_move rfl) ?_
        refine Lq (q_move rfl) ?_
        refine Lq (q_move rfl) ?_
        refine Lq (q_idxOwn Tryd.underlying102 ti29 rfl rfl (by omega) (by omega)) ?_
        refine WL_main rfl (OW_storeC ti29 rfl rfl rfl (by rw [List.length_append, List.length_map, List.length_replicate]; omega) (.s (.z)) ?_)
        refine WL_nil (blockN (thenN ?_))
        have hcell : (ys.map slC ++ List.replicate (H.ops.length - k) (Value.slice none 0 0)).set ((k : Int).toNat * 1) (.slice A3 (thrF (H.ents[k].now) at_ n).1.length c3) = (ys ++ [((thrF H.ents[k].now at_ n).1, A3, c3)]).map slC ++ List.replicate (H.ops.length - (k + 1)) (Value.slice none 0 0) := by
          have hk0 : (k : Int).toNat * 1 = (ys.map slC).length := by rw [List.length_map]; omega
          rw [hk0, List.set_append_right _ _ (Nat.le_refl _), Nat.sub_self, hrep]; simp [slC]
        refine WC_fact (A := slsF (ys ++ [((thrF H.ents[k].now at_ n).1, A3, c3)])) (fun Z w hs x hx => ?_) ?_
        · rcases List.mem_append.1 hx with hx | hx
          · exact hs.facts _ (.tail _ (.tail _ (.tail _ (.tail _ (.tail _ (.head _)))))) x hx
          · obtain rfl := List.mem_singleton.1 hx; exact hs.facts _ (.head _)
        rw [hcell]
        refine WC_region ?_
        refine Lq (q_add rfl rfl (wr64 (by omega))) ?_
        refine Lq (q_move rfl) ?_
        refine WL_nil (thenK ?_)
        refine ⟨(k + 1, ys ++ [((thrF H.ents[k].now at_ n).1, A3, c3)]), ?_, (.cons rfl (.cons rfl (.cons rfl (.cons rfl (.cons rfl (.cons rfl (.cons rfl (.nil _)))))))), (List.Sublist.cons _ (List.Sublist.cons_cons _ (List.Sublist.cons_cons _ (List.Sublist.cons_cons _ (List.Sublist.cons_cons _ (List.Sublist.refl _)))))), (memc (.head _) (fun _ h => .tail _ (.tail _ (.tail _ (.tail _ (.tail _ (.tail _ (.tail _ h))))))))⟩
        exact ⟨by show H.ops.length - (k + 1) < H.ops.length - k; omega, hI.next hke (by omega) A3 c3⟩
    · refine WC_exit (thenExit (thenExit (blockHit (thenN (WC_seq ?_)))))
      try simp only [Bq0, Bq1, Bq2, Bq3, Bq4, Bq5, Bq6, Bq7, Bq8, Bq9, Bq10, Bq11, Bq12] at *
      have hyl := hI.len
      have hle := hI.le
      have hdone := hI.done (by omega)
      refine WC_fact (A := RepsF rsl (ys.map Prod.fst) (ys.map fun x => [slC x])) (fun Z w hs => sls_reps (hs.facts _ (.head _))) ?_
      have hrow : Row 29 rsl.sz (.slice (some ⟨bo, 0, none⟩) H.ops.length H.ops.length) H.ops.length (ys.map fun x => [slC x]).flatten [(bo, cellsO (ys.map slC ++ List.replicate (H.ops.length - k) (Value.slice none 0 0)) 29)] := by
        rw [sls_flat]
        exact ⟨by rw [List.length_map]; show _ = _ * 1; omega, .inr ⟨bo, _, _, rfl, rfl, by rw [List.length_append, List.length_map, List.length_replicate]; show _ = _ * 1; omega, Nat.le_refl _, by unfold maxLen; omega⟩⟩
      refine WC_freeze (e := rsl) (css := ys.map fun x => [slC x]) (xs := ys.map Prod.fst) hrow (.z) (by rw [List.length_map]; omega) (.head _) fun Ao co eo => ?_
      obtain ⟨rfl, _, rfl⟩ := Value.slice.inj eo
      refine WC_region ?_
      refine Lq (q_move rfl) ?_
      refine Lq (q_assign rfl) ?_
      refine Lq (q_assign rfl) ?_
      refine WL_nil (thenN (WC_ret ?_))
      refine ⟨_, [_, _, _], [_], fun Z w hs => .tmp rfl (.tmp rfl (.nil)), ?_, fun Z w hs => hs.out (List.Sublist.cons_cons _ (List.Sublist.cons_cons _ (List.Sublist.cons_cons _ (List.Sublist.refl _)))) (memc (.head _) (fun _ h => .tail _ (.tail _ (.tail _ h))))⟩
      refine ⟨rfl, ?_⟩
      rw [hdone]
      exact ⟨_, _, by rw [List.length_map, hyl, show k = H.ops.length from by omega]; rfl, rfl⟩

end Go.Proofs.YtggdddkbhigjoaaDoor
/- Walks: history.turn, turned. -/
namespace Go.Proofs.YtggdddkbhigjoaaDoor
open Go Go.GW
/-- What a method answers that makes an operation. -/
def OpR (r : GOp) (ps : List Part) : Value → List Part → List Fact → Prop := fun v Lo fs => ∃ (A' : Option Addr) (c' : Nat), v = opV r A' c' ∧ Lo = ps ∧ fs = [RdF rgD A' c' r.rs]
theorem bd28_1Xw15 (x1_ : Int) (w : World) : (Instr.build 28 #[(1, .int .i64 x1_)]).run Tryd.prog w = .ok (.agg #[.int .i64 0, .int .i64 0, .int .i64 x1_]) w := by kernel_rfl
theorem bd31_0_3Xw15 (x0_0a0 : Int) (x0_0a1 : Int) (x0_1 : Int) (x3_A : Option Addr) (x3_n x3_c : Nat) (w : World) : (Instr.build 31 #[(0, .agg #[.int .i64 x0_0a0, .int .i64 x0_0a1, .int .i64 x0_1]), (3, .slice x3_A x3_n x3_c)]).run Tryd.prog w = .ok (.agg #[.int .i64 x0_0a0, .int .i64 x0_0a1, .int .i64 x0_1, .int .i64 0, .string ⟨#[]⟩, .slice x3_A x3_n x3_c, .int .i64 0, .int .i64 0, .bool false]) w := by kernel_rfl

set_option maxRecDepth 10000 in
theorem turn_s (h m cap : Nat) (A : Option Addr) (H : Hist) (L : List MR) (hr : HR H L) (xs : List GOp) (tot : Int) (hx : xs = H.ops) (j k : Nat) (xb : Nat) (xA : Option Addr) (xc : Nat) (hk : k < H.ents.length) (hj : L[j]? = some ⟨markAt k H.ents[k], xb, xA, xc⟩) (on : Bool) : Sp Tryd.prog 59 [.pointer (some ⟨h, 0, none⟩), .pointer (some ⟨xb, 0, none⟩), .bool on] [hdP h A xs.length cap m tot, mkP L] [RdF opD A cap xs, AllF L nowF] (OpR (turnF H.ents[k] on) [hdP h A xs.length cap m tot, mkP L]) := by
  subst hx
  have hol := ops_len H
  have hlen := hr.len
  refine Sp.of (n := 31) ⟨_, Tryd.func59, rfl, rfl, rfl, rfl⟩ (Nat.le_of_ble_eq_true rfl) fun Ps As => ?_
  refine WC_seq (WC_region ?_)
  refine WL_main rfl (OW_alloc (cs := [_, _, _, _, _, _, _, _, _]) ti31 rfl (by decide) fun b6 => ?_)
  refine WL_nil (thenN (WC_seq (WC_region ?_)))
  refine Lq (q_assign rfl) ?_
  refine WL_nil (thenN (WC_seq (WC_seq ?_)))
  have hko : k < H.ops.length := by omega
  have hop := ops_at hk
  refine WC_elem (k := k) (.head _) (List.getElem?_eq_getElem hko) (op_open _) fun bo qo yo eo => ?_
  cases eo
  refine WC_all _ (.tail _ (.tail _ (.tail _ (.head _)))) (List.mem_of_getElem? hj) ?_
  refine WC_draw _ _ [] (.c 0 0 (.c 1 0 (.c 2 0 (.c 3 0 (.c 4 0 (.c 5 0 (.c 6 0 (.c 7 0 (.c 8 0 (.c 9 0 (.c 10 0 (.c 11 0 (.c 12 0 (.c 13 0 (.c 14 0 .nil))))))))))))))) mixed (fun _ _ _ _ h => h) (List.Sublist.cons_cons _ (List.Sublist.cons_cons _ (List.Sublist.cons_cons _ (List.Sublist.refl _)))) (fun _ h => h) (by kernel_rfl) (by decide) fun ws Z0 => ?_
  refine Qe rfl (q_move rfl) ?_
  refine Qe rfl (q_nil rfl) ?_
  refine Qe rfl (q_field (o' := 0) Tryd.underlying97 rfl ti45 rfl rfl) ?_
  refine Qe rfl (q_load1 Tryd.underlying45 rfl rfl (ownS (own0)) rfl) ?_
  refine Qe rfl (q_move rfl) ?_
  refine Qe rfl (q_nil rfl) ?_
  refine Qe rfl (q_field (o' := 0) Tryd.underlying101 rfl ti3 rfl rfl) ?_
  refine Qe rfl (q_load1 (v := .int .i64 (k : Int)) Tryd.underlying3 rfl rfl (ownS (ownS (ownI (mkP_mem hj)))) rfl) ?_
  refine Qe rfl (q_idxRd Tryd.underlying45 ti31 rfl rfl (by omega) (by omega)) ?_
  refine Qe rfl (q_field (o' := _ + 0) Tryd.underlying31 rfl ti28 rfl rfl) ?_
  refine Qe rfl (q_field (o' := _ + 2) Tryd.underlying28 rfl ti26 rfl rfl) ?_
  refine Qe rfl (q_loadF1 (j := 2) Tryd.underlying26 rfl rfl (.tail _ (.head _)) rfl rfl) ?_
  refine Qe rfl (q_eql rfl rfl) ?_
  refine Qe rfl (q_move rfl) ?_
  refine Qe rfl (q_beql' Tryd.underlying4 rfl rfl) ?_
  refine WE_end (WF_nil ?_)
  refine thenN ?_
  refine WC_fr [(22, _), (7, _), (6, _), (1, _)] (.cons rfl (.cons rfl (.cons rfl (.cons rfl (.nil _))))) ?_
  refine WC_cond rfl (fun h22 => ?_) (fun h22 => ?_)
  · refine WC_region ?_
    refine Lq (q_assign rfl) ?_
    refine WL_nil (thenN (WC_seq (WC_region ?_)))
    refine Lq (q_move rfl) ?_
    refine Lq (q_build (.cons rfl (.nil)) (bd28_1Xw15 _)) ?_
    refine Lq (q_move rfl) ?_
    refine Lq (q_nil rfl) ?_
    refine Lq (q_field (o' := 1) Tryd.underlying101 rfl ti29 rfl rfl) ?_
    refine Lq (q_load1 Tryd.underlying29 rfl rfl (ownS (ownS (ownI (mkP_mem hj)))) rfl) ?_
    refine Lq (q_build (.cons rfl (.cons rfl (.nil))) (bd31_0_3Xw15 _ _ _ _ _ _)) ?_
    refine WL_main rfl (OW_call0 (clone_s { zeroOp with kind := 2, rs := H.ents[k].now } xA xc (hr.now _ (List.getElem_mem hk))) (.cons rfl (.nil)) (by decide) (memc (.tail _ (.head _)) mem0) fun u4_7 Lo fs hres => ?_)
    obtain ⟨A1, c1, rfl, rfl, rfl⟩ := hres
    refine WL_main rfl (OW_storeN (cs' := [_, _, _, _, _, _, _, _, _]) (vs := [_, _, _, _, _, _, _, _, _]) ti31 rfl rfl rfl rfl rfl (Nat.le_of_ble_eq_true rfl) (.z) ?_)
    refine WL_nil (thenN (WC_ret ?_))
    refine ⟨_, [_, _], [_], fun Z w hs => RV_ownN hs Tryd.underlying31 rfl ti31 rfl own0 rfl (.nil), ?_, fun Z w hs => hs.out (List.Sublist.cons _ (List.Sublist.cons_cons _ (List.Sublist.cons_cons _ (List.Sublist.refl _)))) (memc (.head _) (fun _ h => .tail _ (.tail _ (.tail _ (.tail _ (.tail _ h))))))⟩
    try simp only [Bq0, Bq1, Bq2, Bq3, Bq4, Bq5, Bq6, Bq7, Bq8, Bq9, Bq10, Bq11, Bq12] at *
    rw [hop] at h22
    have hT : turnF H.ents[k] on = { zeroOp with kind := 2, rs := H.ents[k].now } := by unfold turnF; cases on <;> simp_all
    exact ⟨A1, c1, by rw [hT]; rfl, rfl, by rw [hT]⟩
  · refine WC_skip (thenN (WC_seq (WC_region ?_)))
    refine Lq (q_move rfl) ?_
    refine Lq (q_build (.cons rfl (.nil)) (bd28_1Xw15 _)) ?_
    refine Lq (q_move rfl) ?_
    refine Lq (q_nil rfl) ?_
    refine Lq (q_field (o' := 1) Tryd.underlying101 rfl ti29 rfl rfl) ?_
    refine Lq (q_load1 Tryd.underlying29 rfl rfl (ownS (ownS (ownI (mkP_mem hj)))) rfl) ?_
    refine Lq (q_build (.cons rfl (.cons rfl (.nil))) (bd31_0_3Xw15 _ _ _ _ _ _)) ?_
    refine WL_main rfl (OW_call0 (clone_s { zeroOp with kind := 3, rs := H.ents[k].now } xA xc (hr.now _ (List.getElem_mem hk))) (.cons rfl (.nil)) (by decide) (memc (.tail _ (.head _)) mem0) fun u4_7 Lo fs hres => ?_)
    obtain ⟨A1, c1, rfl, rfl, rfl⟩ := hres
    refine WL_main rfl (OW_storeN (cs' := [_, _, _, _, _, _, _, _, _]) (vs := [_, _, _, _, _, _, _, _, _]) ti31 rfl rfl rfl rfl rfl (Nat.le_of_ble_eq_true rfl) (.z) ?_)
    refine WL_nil (thenN (WC_ret ?_))
    refine ⟨_, [_, _], [_], fun Z w hs => RV_ownN hs Tryd.underlying31 rfl ti31 rfl own0 rfl (.nil), ?_, fun Z w hs => hs.out (List.Sublist.cons _ (List.Sublist.cons_cons _ (List.Sublist.cons_cons _ (List.Sublist.refl _)))) (memc (.head _) (fun _ h => .tail _ (.tail _ (.tail _ (.tail _ (.tail _ h))))))⟩
    try simp only [Bq0, Bq1, Bq2, Bq3, Bq4, Bq5, Bq6, Bq7, Bq8, Bq9, Bq10, Bq11, Bq12] at *
    rw [hop] at h22
    have hT : turnF H.ents[k] on = { zeroOp with kind := 3, rs := H.ents[k].now } := by unfold turnF; cases on <;> simp_all
    exact ⟨A1, c1, by rw [hT]; rfl, rfl, by rw [hT]⟩

def TdP (H : Hist) (i : Nat) (o : GOp) (h m cap : Nat) (A : Option Addr) (L : List MR) : Value → List Part → List Fact → Prop := fun v Lo fs =>
  ∃ (L' : List MR) (A' : Option Addr) (c' : Nat), HR ⟨(turnedF H i o).1, H.total⟩ L' ∧ keys L' = keys L ∧ v = opV (turnedF H i o).2 A' c' ∧ Lo = [hdP h A H.ops.length cap m H.total, mpP m L, mkP L'] ∧ fs = [RdF rgD A' c' (turnedF H i o).2.rs, AllF L' nowF]
structure TdI (H : Hist) (i : Nat) (o : GOp) (k : Nat) : Prop where
  le : k ≤ (H.ops.drop i).length
  eq : laterT (H.ents.drop i) o.tc o.tn = laterT (H.ents.drop (i + k)) o.tc o.tn
theorem laterT_cons (e : Ent) (l : List Ent) (c n : Int) : laterT (e :: l) c n = ((decide (e.op.kind = 4) && (decide (e.op.tc = c) && decide (e.op.tn = n))) || laterT l c n) := rfl
theorem TdI.hit {H : Hist} {i : Nat} {o : GOp} {k : Nat} (h : TdI H i o k) (hk : i + k < H.ents.length) (h1 : H.ents[i + k].op.kind = 4 ∧ H.ents[i + k].op.tc = o.tc ∧ H.ents[i + k].op.tn = o.tn) : laterT (H.ents.drop i) o.tc o.tn = true := by
  rw [h.eq, List.drop_eq_getElem_cons hk, laterT_cons]; simp [h1]
theorem TdI.next {H : Hist} {i : Nat} {o : GOp} {k : Nat} (h : TdI H i o k) (hk : i + k < H.ents.length) (h1 : ¬ (H.ents[i + k].op.kind = 4 ∧ H.ents[i + k].op.tc = o.tc ∧ H.ents[i + k].op.tn = o.tn)) : TdI H i o (k + 1) := by
  refine ⟨by rw [List.length_drop, ops_len]; omega, ?_⟩
  rw [h.eq, List.drop_eq_getElem_cons hk, laterT_cons]
  have : (decide (H.ents[i + k].op.kind = 4) && (decide (H.ents[i + k].op.tc = o.tc) && decide (H.ents[i + k].op.tn = o.tn))) = false := by
    rw [Bool.eq_false_iff]; intro hh; simp at hh; exact h1 hh
  rw [this, Bool.false_or]; rfl
theorem TdI.done {H : Hist} {i : Nat} {o : GOp} {k : Nat} (h : TdI H i o k) (hk : ¬ i + k < H.ents.length) : laterT (H.ents.drop i) o.tc o.tn = false := by
  rw [h.eq, List.drop_eq_nil_of_le (by omega)]; rfl
theorem turnedF_1 {H : Hist} {i : Nat} {o : GOp} (h : laterT (H.ents.drop i) o.tc o.tn = true) : turnedF H i o = (H.ents, zeroOp) := by unfold turnedF; rw [if_pos h]
theorem turnedF_2 {H : Hist} {i : Nat} {o : GOp} {k : Nat} (h : laterT (H.ents.drop i) o.tc o.tn = false) (hw : whereId H.ents o.tc o.tn = some k) (hk : k < H.ents.length) (h2 : H.ents[k].off = !o.on) : turnedF H i o = (H.ents, zeroOp) := by
  unfold turnedF; rw [if_neg (by rw [h]; decide), hw]; simp only [List.getElem?_eq_getElem hk, if_pos h2]
theorem turnedF_3 {H : Hist} {i : Nat} {o : GOp} {k : Nat} (h : laterT (H.ents.drop i) o.tc o.tn = false) (hw : whereId H.ents o.tc o.tn = some k) (hk : k < H.ents.length) (h2 : ¬ H.ents[k].off = !o.on) : turnedF H i o = (H.ents.set k (offE H.ents[k] (!o.on)), turnF H.ents[k] o.on) := by
  unfold turnedF; rw [if_neg (by rw [h]; decide), hw]; simp only [List.getElem?_eq_getElem hk, if_neg h2]
theorem bd31Xw15  (w : World) : (Instr.build 31 #[]).run Tryd.prog w = .ok (.agg #[.int .i64 0, .int .i64 0, .int .i64 0, .int .i64 0, .string ⟨#[]⟩, .slice none 0 0, .int .i64 0, .int .i64 0, .bool false]) w := by kernel_rfl

set_option maxRecDepth 10000 in
theorem turned_s (h m cap : Nat) (A : Option Addr) (H : Hist) (L : List MR) (hr : HR H L) (i : Nat) (hi : i ≤ H.ents.length) (o : GOp) (Ao : Option Addr) (co k : Nat) (hw : whereId H.ents o.tc o.tn = some k) : Sp Tryd.prog 43 [.pointer (some ⟨h, 0, none⟩), .int .i64 i, opV o Ao co] [hdP h A H.ops.length cap m H.total, mpP m L, mkP L] [RdF opD A cap H.ops, AllF L nowF] (TdP H i o h m cap A L) := by
  have hol := ops_len H
  have hlen := hr.len
  obtain ⟨hk, j, x, hc, hn, hj, hm, hg⟩ := hr.look1 hw
  obtain ⟨xm, xb, xA, xc⟩ := x
  obtain rfl : xm = markAt k H.ents[k] := hm
  refine Sp.of (n := 61) ⟨_, Tryd.func43, rfl, rfl, rfl, rfl⟩ (Nat.le_of_ble_eq_true rfl) fun Ps As => ?_
  refine WC_seq (WC_region ?_)
  refine WL_main rfl (OW_box (cs := [_, _, _, _, _, _, _, _, _]) rfl rfl (by decide) fun b5 => ?_)
  refine WL_main rfl (OW_alloc (cs := [_, _, _, _, _, _, _, _, _]) ti31 rfl (by decide) fun b6 => ?_)
  refine WL_nil (thenN (WC_seq (WC_seq ?_)))
  refine WC_fact (A := RdF rgD none 0 []) (fun Z w hs => RdS.nil _ _ _) ?_
  refine WC_capLe (.tail _ (.head _)) fun hcap hcap2 => ?_
  obtain ⟨B, hB⟩ : ∃ B, B = cutA A i cap 9 := ⟨_, rfl⟩
  have hdl : H.ops.length - i = (H.ops.drop i).length := by rw [List.length_drop]
  refine WC_fact (A := RdF opD B (cap - i) (H.ops.drop i)) (fun Z w hs => by rw [hB]; have h1 := RdS.cut (lo := i) (hi := H.ops.length) (m := cap) (hs.facts _ (.tail _ (.head _))) (by omega) (by omega) (by omega) (Nat.le_refl _); rw [List.take_length] at h1; exact h1) ?_
  refine WC_region ?_
  refine Lq (q_move rfl) ?_
  refine Lq (q_nil rfl) ?_
  refine Lq (q_field (o' := 0) Tryd.underlying97 rfl ti45 rfl rfl) ?_
  refine Lq (q_load1 Tryd.underlying45 rfl rfl (ownS (ownS (own0))) rfl) ?_
  refine Lq (q_move rfl) ?_
  refine Lq (q_cutLo Tryd.underlying45 ti31 rfl rfl (by omega) (by omega)) ?_
  refine Lq (q_len Tryd.underlying45 rfl) ?_
  refine Lq (q_move rfl) ?_
  refine WL_nil (thenN (WC_block ?_))
  refine WC_loopE (α := Nat) (fun q => (H.ops.drop i).length - q)
    (fun q => [(0, .pointer (some ⟨h, 0, none⟩)), (5, .pointer (some ⟨b5, 0, none⟩)), (6, .pointer (some ⟨b6, 0, none⟩)), (15, .slice B (H.ops.drop i).length (cap - i)), (16, .int .i64 (H.ops.drop i).length), (17, .int .i64 q)])
    (fun q => ([(b6, cellsO (opC zeroOp none 0) 31)] :: [(b5, cellsO (opC o Ao co) 31)] :: hdP h A H.ops.length cap m H.total :: mpP m L :: mkP L :: Ps))
    (fun q => (RdF opD B (cap - i) (H.ops.drop i) :: RdF rgD none 0 [] :: RdF opD A cap H.ops :: AllF L nowF :: As))
    (fun q => TdI H i o q)
    0 ?_ (.cons rfl (.cons rfl (.cons rfl (.cons (by rw [hB, ← hdl]; rfl) (.cons (by rw [← hdl]; rfl) (.cons rfl (.nil _))))))) (List.Sublist.cons_cons _ (List.Sublist.cons_cons _ (List.Sublist.cons_cons _ (List.Sublist.cons_cons _ (List.Sublist.cons_cons _ (List.Sublist.refl _)))))) (fun _ h => h) ?_
  · exact ⟨Nat.zero_le _, rfl⟩
  · rintro q hI
    refine WC_seq (WC_region ?_)
    refine Lq (q_lss rfl rfl) ?_
    refine WL_nil (thenN (WC_seq ?_))
    refine WC_cond rfl (fun h18 => ?_) (fun h18 => ?_)
    · refine WC_skip (thenN (WC_seq (WC_block (WC_seq ?_))))
      try simp only [Bq0, Bq1, Bq2, Bq3, Bq4, Bq5, Bq6, Bq7, Bq8, Bq9, Bq10, Bq11, Bq12] at *
      have hq : q < (H.ops.drop i).length := by omega
      have hqe : i + q < H.ents.length := by rw [List.length_drop] at hq; omega
      have hop : (H.ops.drop i)[q] = H.ents[i + q].op := by rw [List.getElem_drop, ops_at]
      refine WC_elem (k := q) (.head _) (List.getElem?_eq_getElem hq) (op_open _) fun b3 q3 y3 e3 => ?_
      cases e3
      refine WC_region ?_
      refine Lq (q_idxRd Tryd.underlying45 ti31 rfl rfl (by omega) (by omega)) ?_
      refine Lq (q_loadFN (k := 0) (vs := [_, _, _, _, _, _, _, _, _]) Tryd.underlying31 rfl ti31 rfl (.head _) rfl rfl rfl) ?_
      refine WL_main rfl (OW_alloc (cs := [_, _, _, _, _, _, _, _, _]) ti31 rfl (by decide) fun b8 => ?_)
      refine WL_main rfl (OW_storeN (cs' := [_, _, _, _, _, _, _, _, _]) (vs := [_, _, _, _, _, _, _, _, _]) ti31 rfl rfl rfl rfl rfl (Nat.le_of_ble_eq_true rfl) (.z) ?_)
      refine WL_nil (thenN (WC_seq (WC_region ?_)))
      refine Lq (q_field (o' := 0) Tryd.underlying31 rfl ti28 rfl rfl) ?_
      refine Lq (q_field (o' := 2) Tryd.underlying28 rfl ti26 rfl rfl) ?_
      refine Lq (q_load1 Tryd.underlying26 rfl rfl own0 rfl) ?_
      refine Lq (q_eql rfl rfl) ?_
      refine Lq (q_move rfl) ?_
      refine WL_guard (t := 25) rfl (fun g25 => ?_) (fun g25 => ?_)
      · refine Lg rfl rfl rfl g25 (q_field (o' := 6) Tryd.underlying31 rfl ti25 rfl rfl) ?_
        refine Lg rfl rfl rfl g25 (q_loadN (vs := [_, _]) Tryd.underlying25 rfl ti25 rfl own0 rfl rfl) ?_
        refine Lg rfl rfl rfl g25 (q_field (o' := 6) Tryd.underlying31 rfl ti25 rfl rfl) ?_
        refine Lg rfl rfl rfl g25 (q_loadN (vs := [_, _]) Tryd.underlying25 rfl ti25 rfl (ownS (ownS (own0))) rfl rfl) ?_
        refine Lg rfl rfl rfl g25 (q_aggeql rfl rfl (eq25 _ _ _ _)) ?_
        refine Lq (q_pickT rfl g25 rfl) ?_
        refine WL_nil (thenN ?_)
        refine WC_cond rfl (fun h31 => ?_) (fun h31 => ?_)
        · refine WC_seq (WC_region ?_)
          refine Lq (q_build (.nil) (bd31Xw15)) ?_
          refine WL_main rfl (OW_storeN (cs' := [_, _, _, _, _, _, _, _, _]) (vs := [_, _, _, _, _, _, _, _, _]) ti31 rfl rfl rfl rfl rfl (Nat.le_of_ble_eq_true rfl) (.s (.z)) ?_)
          refine WL_nil (thenN (WC_ret (blockRet (thenRet (thenRet (blockRet (thenRet ?_)))))))
          refine ⟨_, [_, _, _], [_, _], fun Z w hs => RV_ownN hs Tryd.underlying31 rfl ti31 rfl (ownS (own0)) rfl (.nil), ?_, fun Z w hs => hs.out (List.Sublist.cons _ (List.Sublist.cons _ (List.Sublist.cons _ (List.Sublist.cons_cons _ (List.Sublist.cons_cons _ (List.Sublist.cons_cons _ (List.Sublist.refl _))))))) (memc (.tail _ (.tail _ (.tail _ (.head _)))) (memc (.tail _ (.tail _ (.tail _ (.tail _ (.tail _ (.head _)))))) (fun _ h => .tail _ (.tail _ (.tail _ (.tail _ h))))))⟩
          try simp only [Bq0, Bq1, Bq2, Bq3, Bq4, Bq5, Bq6, Bq7, Bq8, Bq9, Bq10, Bq11, Bq12] at *
          have hF : turnedF H i o = _ := turnedF_1 (hI.hit hqe (by rw [← hop]; exact ⟨g25, h31.1, h31.2⟩))
          exact ⟨L, none, 0, by rw [hF]; exact hr, rfl, by rw [hF]; rfl, rfl, by rw [hF]; rfl⟩
        · refine WC_skip (blockN (thenN (WC_region ?_)))
          refine Lq (q_add rfl rfl (wr64 (by omega))) ?_
          refine Lq (q_move rfl) ?_
          refine WL_nil (thenK ?_)
          try simp only [Bq0, Bq1, Bq2, Bq3, Bq4, Bq5, Bq6, Bq7, Bq8, Bq9, Bq10, Bq11, Bq12] at *
          refine ⟨q + 1, ?_, (.cons rfl (.cons rfl (.cons rfl (.cons rfl (.cons rfl (.cons rfl (.nil _))))))), (List.Sublist.cons _ (List.Sublist.cons_cons _ (List.Sublist.cons_cons _ (List.Sublist.cons_cons _ (List.Sublist.cons_cons _ (List.Sublist.cons_cons _ (List.Sublist.refl _))))))), (fun _ h => .tail _ (.tail _ h))⟩
          exact ⟨by omega, hI.next hqe (fun ⟨e1, e2, e3⟩ => by rw [← hop] at e1 e2 e3; first | exact absurd e1 g25 | (rcases h31 with h31 | h31; exact h31 e2; exact h31 e3))⟩
      · refine Ln rfl rfl rfl g25 ?_
        refine Ln rfl rfl rfl g25 ?_
        refine Ln rfl rfl rfl g25 ?_
        refine Ln rfl rfl rfl g25 ?_
        refine Ln rfl rfl rfl g25 ?_
        refine Lq (q_pickF rfl g25 rfl) ?_
        refine WL_nil (thenN (WC_false rfl rfl (WC_skip (blockN (thenN (WC_region ?_))))))
        refine Lq (q_add rfl rfl (wr64 (by omega))) ?_
        refine Lq (q_move rfl) ?_
        refine WL_nil (thenK ?_)
        try simp only [Bq0, Bq1, Bq2, Bq3, Bq4, Bq5, Bq6, Bq7, Bq8, Bq9, Bq10, Bq11, Bq12] at *
        refine ⟨q + 1, ?_, (.cons rfl (.cons rfl (.cons rfl (.cons rfl (.cons rfl (.cons rfl (.nil _))))))), (List.Sublist.cons _ (List.Sublist.cons_cons _ (List.Sublist.cons_cons _ (List.Sublist.cons_cons _ (List.Sublist.cons_cons _ (List.Sublist.cons_cons _ (List.Sublist.refl _))))))), (fun _ h => .tail _ (.tail _ h))⟩
        exact ⟨by omega, hI.next hqe (fun ⟨e1, e2, e3⟩ => by rw [← hop] at e1 e2 e3; first | exact absurd e1 g25 | (rcases h31 with h31 | h31; exact h31 e2; exact h31 e3))⟩
    · refine WC_exit (thenExit (thenExit (blockHit (thenN (WC_seq ?_)))))
      refine WC_draw _ _ [] (.c 0 0 (.c 1 0 (.c 2 0 (.c 3 0 (.c 4 0 (.c 5 0 (.c 6 0 (.c 7 0 .nil)))))))) mixed (fun _ _ _ _ h => h) (List.Sublist.cons_cons _ (List.Sublist.cons_cons _ (List.Sublist.cons_cons _ (List.Sublist.cons_cons _ (List.Sublist.cons_cons _ (List.Sublist.refl _)))))) (fun _ h => h) (by kernel_rfl) (by decide) fun ws Z0 => ?_
      refine Qe rfl (q_move rfl) ?_
      refine Qe rfl (q_nil rfl) ?_
      refine Qe rfl (q_field (o' := 1) Tryd.underlying97 rfl ti95 rfl rfl) ?_
      refine Qe rfl (q_load1 Tryd.underlying95 rfl rfl (ownS (ownS (own0))) rfl) ?_
      refine Qe rfl (q_field (o' := 6) Tryd.underlying31 rfl ti25 rfl rfl) ?_
      refine Qe rfl (q_loadN (vs := [_, _]) Tryd.underlying25 rfl ti25 rfl (ownS (own0)) rfl rfl) ?_
      refine Qe rfl (q_lookS keyT hg Tryd.underlying95 ti99 rfl rfl (ownS (ownS (ownS (own0))))) ?_
      refine Qe rfl (q_assign rfl) ?_
      refine WE_end (WF_nil ?_)
      refine thenN ?_
      refine WC_fr [(9, _), (0, _), (5, _), (6, _)] (.cons rfl (.cons rfl (.cons rfl (.cons rfl (.nil _))))) ?_
      refine WC_seq (WC_seq ?_)
      refine WC_draw _ _ [] (.c 0 0 (.c 1 0 (.c 2 0 (.c 3 0 (.c 4 0 (.c 5 0 (.c 6 0 (.c 7 0 .nil)))))))) mixed (fun _ _ _ _ h => h) (List.Sublist.cons_cons _ (List.Sublist.cons_cons _ (List.Sublist.cons_cons _ (List.Sublist.cons_cons _ (List.Sublist.cons_cons _ (List.Sublist.refl _)))))) (fun _ h => h) (by kernel_rfl) (by decide) fun ws Z0 => ?_
      refine Qe rfl (q_move rfl) ?_
      refine Qe rfl (q_nil rfl) ?_
      refine Qe rfl (q_field (o' := 2) Tryd.underlying101 rfl ti4 rfl rfl) ?_
      refine Qe rfl (q_load1 (v := .bool H.ents[k].off) Tryd.underlying4 rfl rfl (ownS (ownS (ownS (ownS (ownI (mkP_mem hj)))))) rfl) ?_
      refine Qe rfl (q_field (o' := 8) Tryd.underlying31 rfl ti4 rfl rfl) ?_
      refine Qe rfl (q_load1 Tryd.underlying4 rfl rfl (ownS (own0)) rfl) ?_
      refine Qe rfl (q_not rfl) ?_
      refine Qe rfl (q_beql' Tryd.underlying4 rfl rfl) ?_
      refine WE_end (WF_nil ?_)
      refine thenN ?_
      refine WC_cond rfl (fun h48 => ?_) (fun h48 => ?_)
      · refine WC_seq (WC_region ?_)
        refine Lq (q_build (.nil) (bd31Xw15)) ?_
        refine WL_main rfl (OW_storeN (cs' := [_, _, _, _, _, _, _, _, _]) (vs := [_, _, _, _, _, _, _, _, _]) ti31 rfl rfl rfl rfl rfl (Nat.le_of_ble_eq_true rfl) (.z) ?_)
        refine WL_nil (thenN (WC_ret (thenRet ?_)))
        refine ⟨_, [_, _, _], [_, _], fun Z w hs => RV_ownN hs Tryd.underlying31 rfl ti31 rfl own0 rfl (.nil), ?_, fun Z w hs => hs.out (List.Sublist.cons _ (List.Sublist.cons _ (List.Sublist.cons_cons _ (List.Sublist.cons_cons _ (List.Sublist.cons_cons _ (List.Sublist.refl _)))))) (memc (.tail _ (.tail _ (.tail _ (.head _)))) (memc (.tail _ (.tail _ (.tail _ (.tail _ (.tail _ (.head _)))))) (fun _ h => .tail _ (.tail _ (.tail _ (.tail _ h))))))⟩
        try simp only [Bq0, Bq1, Bq2, Bq3, Bq4, Bq5, Bq6, Bq7, Bq8, Bq9, Bq10, Bq11, Bq12] at *
        have hF : turnedF H i o = _ := turnedF_2 (hI.done (by have := hI.le; rw [List.length_drop] at this; omega)) hw hk (by simpa using h48)
        exact ⟨L, none, 0, by rw [hF]; exact hr, rfl, by rw [hF]; rfl, rfl, by rw [hF]; rfl⟩
      · refine WC_skip (thenN (WC_seq (WC_region ?_)))
        refine Lq (q_move rfl) ?_
        refine Lq (q_field (o' := 8) Tryd.underlying31 rfl ti4 rfl rfl) ?_
        refine Lq (q_load1 Tryd.underlying4 rfl rfl (ownS (own0)) rfl) ?_
        refine Lq (q_not rfl) ?_
        refine Lq (q_nil rfl) ?_
        refine Lq (q_field (o' := 2) Tryd.underlying101 rfl ti4 rfl rfl) ?_
        refine WL_main rfl (OW_storeP (i := j) ti4 rfl rfl rfl (mkP_get hj) (.s (.s (.z))) (.s (.s (.s (.s (.z))))) ?_)
        refine WL_nil (thenN ?_)
        refine WC_fr [(9, _), (0, _), (5, _), (6, _)] (.cons rfl (.cons rfl (.cons rfl (.cons rfl (.nil _))))) ?_
        refine WC_seq ?_
        try simp only [Bq0, Bq1, Bq2, Bq3, Bq4, Bq5, Bq6, Bq7, Bq8, Bq9, Bq10, Bq11, Bq12] at *
        have hmk : (mkP L).set j (xb, cellsO [.int .i64 (markAt k H.ents[k]).num, .slice xA (markAt k H.ents[k]).now.length xc, .bool (!o.on)] 101) = mkP (L.set j ⟨markAt k (offE H.ents[k] (!o.on)), xb, xA, xc⟩) := by rw [mkP_set]; rfl
        rw [hmk]
        have hr' := hr.upd hk hj rfl (offE H.ents[k] (!o.on)) rfl (hr.now H.ents[k] (List.getElem_mem hk)) xA xc
        refine WC_fact (A := AllF (L.set j ⟨markAt k (offE H.ents[k] (!o.on)), xb, xA, xc⟩) nowF) (fun Z w hs => now_set (hs.facts _ (.tail _ (.tail _ (.tail _ (.tail _ (.tail _ (.head _))))))) (hs.facts _ (.tail _ (.tail _ (.tail _ (.tail _ (.tail _ (.head _)))))) ⟨markAt k H.ents[k], xb, xA, xc⟩ (List.mem_of_getElem? hj))) ?_
        refine WC_region ?_
        refine Lq (q_move rfl) ?_
        refine Lq (q_move rfl) ?_
        refine Lq (q_field (o' := 8) Tryd.underlying31 rfl ti4 rfl rfl) ?_
        refine Lq (q_load1 Tryd.underlying4 rfl rfl (ownS (own0)) rfl) ?_
        refine WL_main rfl (OW_call2 (turn_s h m cap A _ _ hr' H.ops H.total (hops_set hk (offE H.ents[k] (!o.on)) rfl H.total).symm j k xb xA xc (by simpa using hk) (by rw [List.getElem?_set_self (by rcases Nat.lt_or_ge j L.length with hh | hh; exact hh; rw [List.getElem?_eq_none hh] at hj; cases hj)]; simp) o.on) (.cons rfl (.cons rfl (.cons rfl (.nil)))) (by decide) (.s (.s (.z))) (.s (.s (.s (.z)))) (memc (.tail _ (.tail _ (.tail _ (.tail _ (.tail _ (.head _)))))) (memc (.head _) mem0)) fun u11_4 Lo fs hres => ?_)
        obtain ⟨A1, c1, rfl, rfl, rfl⟩ := hres
        refine WL_main rfl (OW_storeN (cs' := [_, _, _, _, _, _, _, _, _]) (vs := [_, _, _, _, _, _, _, _, _]) ti31 rfl rfl rfl rfl rfl (Nat.le_of_ble_eq_true rfl) (.s (.s (.z))) ?_)
        refine WL_nil (thenN (WC_ret ?_))
        refine ⟨_, [_, _, _], [_, _], fun Z w hs => RV_ownN hs Tryd.underlying31 rfl ti31 rfl (ownS (ownS (own0))) rfl (.nil), ?_, fun Z w hs => (((hs.pick (.s (.z))).pick (.s (.s (.s (.s (.z)))))).pick (.s (.s (.z)))).out (List.Sublist.cons_cons _ (List.Sublist.cons_cons _ (List.Sublist.cons_cons _ (List.Sublist.cons _ (List.Sublist.cons _ (List.Sublist.refl _)))))) (memc (.head _) (memc (.tail _ (.head _)) (fun _ h => .tail _ (.tail _ (.tail _ (.tail _ (.tail _ (.tail _ h))))))))⟩
        have hF := turnedF_3 (hI.done (by have := hI.le; rw [List.length_drop] at this; omega)) hw hk (by simpa using h48)
        refine ⟨L.set j ⟨markAt k (offE H.ents[k] (!o.on)), xb, xA, xc⟩, A1, c1, by rw [hF]; exact hr', keys_set hj rfl rfl rfl, ?_, rfl, ?_⟩
        · rw [hF]; simp only [List.getElem_set_self]; rfl
        · rw [hF]; simp only [List.getElem_set_self]; rfl

end Go.Proofs.YtggdddkbhigjoaaDoor
/- Walks: history.Entry, Ops. -/
namespace Go.Proofs.YtggdddkbhigjoaaDoor
open Go Go.GW
structure GEn where
  c : Int
  n : Int
  kind : Int
  on : Bool
  rs : List Rg
  tc : Int
  tn : Int
def enC (e : GEn) (A : Option Addr) (c : Nat) : List Value := [.int .i64 e.c, .int .i64 e.n, .int .i64 e.kind, .bool e.on, .slice A e.rs.length c, .int .i64 e.tc, .int .i64 e.tn]
def enV (e : GEn) (A : Option Addr) (c : Nat) : Value := .agg (enC e A c).toArray
def entE (e : Ent) : GEn := if e.op.kind = 4 then ⟨e.op.c, e.op.n, e.op.kind, e.op.on, [], e.op.tc, e.op.tn⟩ else ⟨e.op.c, e.op.n, e.op.kind, !e.off, e.now, 0, 0⟩
def entryF (H : Hist) (i : Int) : GEn × Int := match H.ents[i.toNat]? with
  | none => (⟨0, 0, 0, false, [], 0, 0⟩, 12)
  | some e => if i < 0 then (⟨0, 0, 0, false, [], 0, 0⟩, 12) else (entE e, 0)
theorem entryF_bad {H : Hist} {i : Int} (h : i < 0 ∨ i ≥ H.ents.length) : entryF H i = (⟨0, 0, 0, false, [], 0, 0⟩, 12) := by
  unfold entryF
  cases hq : H.ents[i.toNat]? with
  | none => rfl
  | some e =>
    rcases h with h | h
    · simp [h]
    · rw [List.getElem?_eq_none (by omega)] at hq; cases hq
theorem entryF_at {H : Hist} {k : Nat} (h : k < H.ents.length) : entryF H k = (entE H.ents[k], 0) := by
  unfold entryF
  rw [Int.toNat_natCast, List.getElem?_eq_getElem h]
  simp only [if_neg (by omega : ¬ (k : Int) < 0)]
def EnP (r : GEn × Int) (ps : List Part) : Value → List Part → List Fact → Prop := fun v Lo fs => ∃ (A' : Option Addr) (c' : Nat), v = .tuple #[enV r.1 A' c', .int .i64 r.2] ∧ Lo = ps ∧ fs = [RdF rgD A' c' r.1.rs]
theorem bd42Xw16  (w : World) : (Instr.build 42 #[]).run Tryd.prog w = .ok (.agg #[.int .i64 0, .int .i64 0, .int .i64 0, .bool false, .slice none 0 0, .int .i64 0, .int .i64 0]) w := by kernel_rfl
theorem bd42_0_1_2_4Xw16 (x0_a0 : Int) (x0_a1 : Int) (x1_ : Int) (x2_ : Bool) (x4_a0 : Int) (x4_a1 : Int) (w : World) : (Instr.build 42 #[(0, .agg #[.int .i64 x0_a0, .int .i64 x0_a1]), (1, .int .i64 x1_), (2, .bool x2_), (4, .agg #[.int .i64 x4_a0, .int .i64 x4_a1])]).run Tryd.prog w = .ok (.agg #[.int .i64 x0_a0, .int .i64 x0_a1, .int .i64 x1_, .bool x2_, .slice none 0 0, .int .i64 x4_a0, .int .i64 x4_a1]) w := by kernel_rfl
theorem bd31_3Xw16 (x3_A : Option Addr) (x3_n x3_c : Nat) (w : World) : (Instr.build 31 #[(3, .slice x3_A x3_n x3_c)]).run Tryd.prog w = .ok (.agg #[.int .i64 0, .int .i64 0, .int .i64 0, .int .i64 0, .string ⟨#[]⟩, .slice x3_A x3_n x3_c, .int .i64 0, .int .i64 0, .bool false]) w := by kernel_rfl
theorem fd31_3Xw16 (x00a0 : Int) (x00a1 : Int) (x01 : Int) (x1 : Int) (x2 : ByteArray) (x3A : Option Addr) (x3n x3c : Nat) (x4a0 : Int) (x4a1 : Int) (x5 : Bool) (w : World) : (Instr.field 31 (.agg #[.int .i64 x00a0, .int .i64 x00a1, .int .i64 x01, .int .i64 x1, .string x2, .slice x3A x3n x3c, .int .i64 x4a0, .int .i64 x4a1, .bool x5]) 3).run Tryd.prog w = .ok (.slice x3A x3n x3c) w := by kernel_rfl
theorem bd42_0_1_2_3Xw16 (x0_a0 : Int) (x0_a1 : Int) (x1_ : Int) (x2_ : Bool) (x3_A : Option Addr) (x3_n x3_c : Nat) (w : World) : (Instr.build 42 #[(0, .agg #[.int .i64 x0_a0, .int .i64 x0_a1]), (1, .int .i64 x1_), (2, .bool x2_), (3, .slice x3_A x3_n x3_c)]).run Tryd.prog w = .ok (.agg #[.int .i64 x0_a0, .int .i64 x0_a1, .int .i64 x1_, .bool x2_, .slice x3_A x3_n x3_c, .int .i64 0, .int .i64 0]) w := by kernel_rfl

set_option maxRecDepth 10000 in
theorem entry_s (h m cap : Nat) (A : Option Addr) (H : Hist) (L : List MR) (hr : HR H L) (i : Int) : Sp Tryd.prog 16 [.pointer (some ⟨h, 0, none⟩), .int .i64 i] [hdP h A H.ops.length cap m H.total, mpP m L, mkP L] [RdF opD A cap H.ops, AllF L nowF] (EnP (entryF H i) [hdP h A H.ops.length cap m H.total, mpP m L, mkP L]) := by
  have hol := ops_len H
  have hlen := hr.len
  refine Sp.of (n := 69) ⟨_, Tryd.func16, rfl, rfl, rfl, rfl⟩ (Nat.le_of_ble_eq_true rfl) fun Ps As => ?_
  refine WC_seq (WC_region ?_)
  refine WL_main rfl (OW_alloc (cs := [_, _, _, _, _, _, _]) ti42 rfl (by decide) fun b4 => ?_)
  refine Lq (q_assign rfl) ?_
  refine WL_nil (thenN (WC_seq (WC_seq ?_)))
  refine WC_fact (A := RdF rgD none 0 []) (fun Z w hs => RdS.nil _ _ _) ?_
  refine WC_region ?_
  refine Lq (q_move rfl) ?_
  refine Lq (q_lss rfl rfl) ?_
  refine Lq (q_move rfl) ?_
  refine WL_guard (t := 10) rfl (fun g10 => ?_) (fun g10 => ?_)
  · refine Ln rfl rfl rfl g10 ?_
    refine Ln rfl rfl rfl g10 ?_
    refine Ln rfl rfl rfl g10 ?_
    refine Ln rfl rfl rfl g10 ?_
    refine Ln rfl rfl rfl g10 ?_
    refine Ln rfl rfl rfl g10 ?_
    refine Ln rfl rfl rfl g10 ?_
    refine Lq (q_pickT rfl g10 rfl) ?_
    refine WL_nil (thenN ?_)
    refine WC_fr [(18, _), (5, _), (4, _), (0, _), (1, _)] (.cons rfl (.cons rfl (.cons rfl (.cons rfl (.cons rfl (.nil _)))))) ?_
    refine WC_true rfl rfl (WC_seq (WC_region ?_))
    refine Lq (q_build (.nil) (bd42Xw16)) ?_
    refine WL_main rfl (OW_storeN (cs' := [_, _, _, _, _, _, _]) (vs := [_, _, _, _, _, _, _]) ti42 rfl rfl rfl rfl rfl (Nat.le_of_ble_eq_true rfl) (.z) ?_)
    refine Lq (q_assign rfl) ?_
    refine WL_nil (thenN (WC_ret (thenRet ?_)))
    refine ⟨_, [_, _, _], [_], fun Z w hs => RV_ownN hs Tryd.underlying42 rfl ti42 rfl own0 rfl (.tmp rfl (.nil)), ?_, fun Z w hs => hs.out (List.Sublist.cons _ (List.Sublist.cons_cons _ (List.Sublist.cons_cons _ (List.Sublist.cons_cons _ (List.Sublist.refl _))))) (fun _ h => h)⟩
    try simp only [Bq0, Bq1, Bq2, Bq3, Bq4, Bq5, Bq6, Bq7, Bq8, Bq9, Bq10, Bq11, Bq12] at *
    have hF := entryF_bad (H := H) (i := i) (by omega)
    exact ⟨none, 0, by rw [hF]; rfl, rfl, by rw [hF]⟩
  · refine Lg rfl rfl rfl g10 (q_move rfl) ?_
    refine Lg rfl rfl rfl g10 (q_move rfl) ?_
    refine Lg rfl rfl rfl g10 (q_nil rfl) ?_
    refine Lg rfl rfl rfl g10 (q_field (o' := 0) Tryd.underlying97 rfl ti45 rfl rfl) ?_
    refine Lg rfl rfl rfl g10 (q_load1 Tryd.underlying45 rfl rfl (ownS (own0)) rfl) ?_
    refine Lg rfl rfl rfl g10 (q_len Tryd.underlying45 rfl) ?_
    refine Lg rfl rfl rfl g10 (q_geq rfl rfl) ?_
    refine Lq (q_pickF rfl g10 rfl) ?_
    refine WL_nil (thenN ?_)
    refine WC_fr [(18, _), (5, _), (4, _), (0, _), (1, _)] (.cons rfl (.cons rfl (.cons rfl (.cons rfl (.cons rfl (.nil _)))))) ?_
    refine WC_cond rfl (fun h18 => ?_) (fun h18 => ?_)
    · refine WC_seq (WC_region ?_)
      refine Lq (q_build (.nil) (bd42Xw16)) ?_
      refine WL_main rfl (OW_storeN (cs' := [_, _, _, _, _, _, _]) (vs := [_, _, _, _, _, _, _]) ti42 rfl rfl rfl rfl rfl (Nat.le_of_ble_eq_true rfl) (.z) ?_)
      refine Lq (q_assign rfl) ?_
      refine WL_nil (thenN (WC_ret (thenRet ?_)))
      refine ⟨_, [_, _, _], [_], fun Z w hs => RV_ownN hs Tryd.underlying42 rfl ti42 rfl own0 rfl (.tmp rfl (.nil)), ?_, fun Z w hs => hs.out (List.Sublist.cons _ (List.Sublist.cons_cons _ (List.Sublist.cons_cons _ (List.Sublist.cons_cons _ (List.Sublist.refl _))))) (fun _ h => h)⟩
      try simp only [Bq0, Bq1, Bq2, Bq3, Bq4, Bq5, Bq6, Bq7, Bq8, Bq9, Bq10, Bq11, Bq12] at *
      have hF := entryF_bad (H := H) (i := i) (by omega)
      exact ⟨none, 0, by rw [hF]; rfl, rfl, by rw [hF]⟩
    · refine WC_skip (thenN (WC_seq ?_))
      try simp only [Bq0, Bq1, Bq2, Bq3, Bq4, Bq5, Bq6, Bq7, Bq8, Bq9, Bq10, Bq11, Bq12] at *
      obtain ⟨k, rfl⟩ : ∃ k : Nat, i = (k : Int) := ⟨i.toNat, by omega⟩
      have hk : k < H.ents.length := by omega
      have hko : k < H.ops.length := by omega
      have hop := ops_at hk
      refine WC_elem (k := k) (.tail _ (.head _)) (List.getElem?_eq_getElem hko) (op_open _) fun bo qo yo eo => ?_
      cases eo
      refine WC_region ?_
      refine Lq (q_move rfl) ?_
      refine Lq (q_nil rfl) ?_
      refine Lq (q_field (o' := 0) Tryd.underlying97 rfl ti45 rfl rfl) ?_
      refine Lq (q_load1 Tryd.underlying45 rfl rfl (ownS (own0)) rfl) ?_
      refine Lq (q_move rfl) ?_
      refine Lq (q_idxRd Tryd.underlying45 ti31 rfl rfl (by omega) (by omega)) ?_
      refine Lq (q_loadFN (k := 0) (vs := [_, _, _, _, _, _, _, _, _]) Tryd.underlying31 rfl ti31 rfl (.head _) rfl rfl rfl) ?_
      refine WL_main rfl (OW_alloc (cs := [_, _, _, _, _, _, _, _, _]) ti31 rfl (by decide) fun b6 => ?_)
      refine WL_main rfl (OW_storeN (cs' := [_, _, _, _, _, _, _, _, _]) (vs := [_, _, _, _, _, _, _, _, _]) ti31 rfl rfl rfl rfl rfl (Nat.le_of_ble_eq_true rfl) (.z) ?_)
      refine WL_nil (thenN (WC_seq (WC_seq (WC_region ?_))))
      refine Lq (q_field (o' := 0) Tryd.underlying31 rfl ti28 rfl rfl) ?_
      refine Lq (q_field (o' := 2) Tryd.underlying28 rfl ti26 rfl rfl) ?_
      refine Lq (q_load1 Tryd.underlying26 rfl rfl own0 rfl) ?_
      refine Lq (q_eql rfl rfl) ?_
      refine WL_nil (thenN ?_)
      refine WC_fr [(30, _), (6, _), (5, _), (4, _), (0, _)] (.cons rfl (.cons rfl (.cons rfl (.cons rfl (.cons rfl (.nil _)))))) ?_
      refine WC_cond rfl (fun h30 => ?_) (fun h30 => ?_)
      · refine WC_seq (WC_region ?_)
        refine Lq (q_field (o' := 0) Tryd.underlying31 rfl ti28 rfl rfl) ?_
        refine Lq (q_field (o' := 0) Tryd.underlying28 rfl ti25 rfl rfl) ?_
        refine Lq (q_loadN (vs := [_, _]) Tryd.underlying25 rfl ti25 rfl own0 rfl rfl) ?_
        refine Lq (q_field (o' := 0) Tryd.underlying31 rfl ti28 rfl rfl) ?_
        refine Lq (q_field (o' := 2) Tryd.underlying28 rfl ti26 rfl rfl) ?_
        refine Lq (q_load1 Tryd.underlying26 rfl rfl own0 rfl) ?_
        refine Lq (q_field (o' := 8) Tryd.underlying31 rfl ti4 rfl rfl) ?_
        refine Lq (q_load1 Tryd.underlying4 rfl rfl own0 rfl) ?_
        refine Lq (q_field (o' := 6) Tryd.underlying31 rfl ti25 rfl rfl) ?_
        refine Lq (q_loadN (vs := [_, _]) Tryd.underlying25 rfl ti25 rfl own0 rfl rfl) ?_
        refine Lq (q_build (.cons rfl (.cons rfl (.cons rfl (.cons rfl (.nil))))) (bd42_0_1_2_4Xw16 _ _ _ _ _ _)) ?_
        refine WL_main rfl (OW_storeN (cs' := [_, _, _, _, _, _, _]) (vs := [_, _, _, _, _, _, _]) ti42 rfl rfl rfl rfl rfl (Nat.le_of_ble_eq_true rfl) (.s (.z)) ?_)
        refine Lq (q_assign rfl) ?_
        refine WL_nil (thenN ?_)
        refine WC_fr [(5, _), (6, _), (4, _), (0, _)] (.cons rfl (.cons rfl (.cons rfl (.cons rfl (.nil _))))) ?_
        refine WC_ret (thenRet ?_)
        refine ⟨_, [_, _, _], [_], fun Z w hs => RV_ownN hs Tryd.underlying42 rfl ti42 rfl (ownS (own0)) rfl (.tmp rfl (.nil)), ?_, fun Z w hs => hs.out (List.Sublist.cons _ (List.Sublist.cons _ (List.Sublist.cons_cons _ (List.Sublist.cons_cons _ (List.Sublist.cons_cons _ (List.Sublist.refl _)))))) (fun _ h => .tail _ (.tail _ h))⟩
        try simp only [Bq0, Bq1, Bq2, Bq3, Bq4, Bq5, Bq6, Bq7, Bq8, Bq9, Bq10, Bq11, Bq12] at *
        rw [hop] at h30
        have hF : entryF H (k : Int) = _ := (entryF_at hk).trans (by unfold entE; rw [if_pos h30])
        exact ⟨none, 0, by rw [hF]; simp only [hop]; rfl, rfl, by rw [hF]⟩
      · refine WC_skip (thenN (WC_seq ?_))
        obtain ⟨jm, xm, hjm, hxm, hgm⟩ := hr.look hk
        obtain ⟨xk, xb, xA, xc⟩ := xm
        obtain rfl : xk = markAt k H.ents[k] := hxm
        rw [← hop] at hgm
        refine WC_all _ (.tail _ (.tail _ (.tail _ (.tail _ (.head _))))) (List.mem_of_getElem? hjm) ?_
        refine WC_draw _ _ [] (.c 0 0 (.c 1 0 (.c 2 0 (.c 3 0 (.c 4 0 (.c 5 0 (.c 6 0 (.c 7 0 (.c 8 0 .nil))))))))) mixed (fun _ _ _ _ h => h) (List.Sublist.cons_cons _ (List.Sublist.cons_cons _ (List.Sublist.cons_cons _ (List.Sublist.cons_cons _ (List.Sublist.cons_cons _ (List.Sublist.refl _)))))) (fun _ h => h) (by kernel_rfl) (by decide) fun ws Z0 => ?_
        refine Qe rfl (q_move rfl) ?_
        refine Qe rfl (q_nil rfl) ?_
        refine Qe rfl (q_field (o' := 1) Tryd.underlying97 rfl ti95 rfl rfl) ?_
        refine Qe rfl (q_load1 Tryd.underlying95 rfl rfl (ownS (ownS (own0))) rfl) ?_
        refine Qe rfl (q_field (o' := 0) Tryd.underlying31 rfl ti28 rfl rfl) ?_
        refine Qe rfl (q_field (o' := 0) Tryd.underlying28 rfl ti25 rfl rfl) ?_
        refine Qe rfl (q_loadN (vs := [_, _]) Tryd.underlying25 rfl ti25 rfl own0 rfl rfl) ?_
        refine Qe rfl (q_lookS keyT hgm Tryd.underlying95 ti99 rfl rfl (ownS (ownS (ownS (own0))))) ?_
        refine Qe rfl (q_assign rfl) ?_
        refine WE_end (WF_nil ?_)
        refine thenN ?_
        refine WC_fr [(7, _), (6, _), (5, _), (4, _)] (.cons rfl (.cons rfl (.cons rfl (.cons rfl (.nil _))))) ?_
        refine WC_seq ?_
        refine WC_draw _ _ [19] (.c 0 0 (.c 1 0 (.c 2 0 (.c 3 0 (.c 4 0 (.c 5 0 (.c 6 0 (.c 7 0 (.c 8 0 (.c 9 0 (.c 10 0 (.c 11 0 (.c 12 0 (.c 13 0 (.c 14 0 (.c 15 0 (.c 16 2 (.c 17 0 (.c 18 0 (.c 19 3 (.c 20 1 .nil))))))))))))))))))))) mixed (fun _ _ _ _ h => h) (List.Sublist.cons_cons _ (List.Sublist.cons_cons _ (List.Sublist.cons_cons _ (List.Sublist.cons_cons _ (List.Sublist.cons_cons _ (List.Sublist.refl _)))))) (fun _ h => h) (by kernel_rfl) (by decide) fun ws Z0 => ?_
        refine Qe rfl (q_field (o' := 0) Tryd.underlying31 rfl ti28 rfl rfl) ?_
        refine Qe rfl (q_field (o' := 0) Tryd.underlying28 rfl ti25 rfl rfl) ?_
        refine Qe rfl (q_loadN (vs := [_, _]) Tryd.underlying25 rfl ti25 rfl own0 rfl rfl) ?_
        refine Qe rfl (q_field (o' := 0) Tryd.underlying31 rfl ti28 rfl rfl) ?_
        refine Qe rfl (q_field (o' := 2) Tryd.underlying28 rfl ti26 rfl rfl) ?_
        refine Qe rfl (q_load1 Tryd.underlying26 rfl rfl own0 rfl) ?_
        refine Qe rfl (q_move rfl) ?_
        refine Qe rfl (q_nil rfl) ?_
        refine Qe rfl (q_field (o' := 2) Tryd.underlying101 rfl ti4 rfl rfl) ?_
        refine Qe rfl (q_load1 (v := .bool H.ents[k].off) Tryd.underlying4 rfl rfl (ownS (ownS (ownS (ownS (ownI (mkP_mem hjm)))))) rfl) ?_
        refine Qe rfl (q_not rfl) ?_
        refine Qe rfl (q_move rfl) ?_
        refine Qe rfl (q_nil rfl) ?_
        refine Qe rfl (q_field (o' := 1) Tryd.underlying101 rfl ti29 rfl rfl) ?_
        refine Qe rfl (q_load1 (v := .slice xA H.ents[k].now.length xc) Tryd.underlying29 rfl rfl (ownS (ownS (ownS (ownS (ownI (mkP_mem hjm)))))) rfl) ?_
        refine Qe rfl (q_build (.cons rfl (.nil)) (bd31_3Xw16 _ _ _)) ?_
        refine WE_main rfl rfl (OW_call0 (clone_s { zeroOp with rs := H.ents[k].now } xA xc (hr.now _ (List.getElem_mem hk))) (.cons rfl (.nil)) (by decide) (memc (.tail _ (.tail _ (.head _))) mem0) fun u7_16 Lo fs hres => ?_)
        obtain ⟨A1, c1, rfl, rfl, rfl⟩ := hres
        refine ⟨⟨(List.Sublist.cons_cons _ (List.Sublist.cons_cons _ (List.Sublist.cons_cons _ (List.Sublist.cons_cons _ (List.Sublist.cons_cons _ (List.Sublist.refl _)))))), (.tail _ (.head _))⟩, ?_⟩
        refine Qe rfl (q_part rfl (fd31_3Xw16 _ _ _ _ _ _ _ _ _ _ _)) ?_
        refine Qe rfl (q_build (.cons rfl (.cons rfl (.cons rfl (.cons rfl (.nil))))) (bd42_0_1_2_3Xw16 _ _ _ _ _ _ _)) ?_
        refine WE_end (WF_last rfl rfl (OW_storeN (cs' := [_, _, _, _, _, _, _]) (vs := [_, _, _, _, _, _, _]) ti42 rfl rfl rfl rfl rfl (Nat.le_of_ble_eq_true rfl) (.s (.z)) ?_))
        refine WF_p rfl (q_assign rfl) (by decide) ?_
        refine WF_nil ?_
        refine thenN ?_
        refine WC_fr [(5, _), (4, _)] (.cons rfl (.cons rfl (.nil _))) ?_
        refine WC_ret ?_
        refine ⟨_, [_, _, _], [_], fun Z w hs => RV_ownN hs Tryd.underlying42 rfl ti42 rfl (ownS (own0)) rfl (.tmp rfl (.nil)), ?_, fun Z w hs => hs.out (List.Sublist.cons _ (List.Sublist.cons _ (List.Sublist.cons_cons _ (List.Sublist.cons_cons _ (List.Sublist.cons_cons _ (List.Sublist.refl _)))))) (memc (.head _) (fun _ h => .tail _ (.tail _ (.tail _ (.tail _ (.tail _ (.tail _ (.tail _ h))))))))⟩
        try simp only [Bq0, Bq1, Bq2, Bq3, Bq4, Bq5, Bq6, Bq7, Bq8, Bq9, Bq10, Bq11, Bq12] at *
        rw [hop] at h30
        have hF : entryF H (k : Int) = _ := (entryF_at hk).trans (by unfold entE; rw [if_neg h30])
        exact ⟨A1, c1, by rw [hF]; simp only [hop]; rfl, rfl, by rw [hF]⟩

end Go.Proofs.YtggdddkbhigjoaaDoor
/- Walks: history.Last. -/
namespace Go.Proofs.YtggdddkbhigjoaaDoor
open Go Go.GW
structure LsI (K : List MK) (c : Int) (seen : Array Nat) (v : Int) : Prop where
  le : ∀ (j : Nat) (y : MK), K[j]? = some y → seen.contains j = true → y.c = c → y.n ≤ v
  at_ : v = 0 ∨ ∃ y ∈ K, y.c = c ∧ y.n = v
  pos : 0 ≤ v
theorem LsI.zero (K : List MK) (c : Int) : LsI K c #[] 0 := ⟨fun j y _ h => by simp at h, .inl rfl, Int.le_refl _⟩
theorem seen_push {seen : Array Nat} {i j : Nat} (h : (seen.push j).contains i = true) : seen.contains i = true ∨ i = j := by
  simpa using h
theorem LsI.hit {K : List MK} {c : Int} {seen : Array Nat} {v : Int} (h : LsI K c seen v) {j : Nat} {y : MK} (hj : K[j]? = some y) (hc : y.c = c) : LsI K c (seen.push j) (max v y.n) := by
  refine ⟨fun i z hi hs hz => ?_, ?_, by have := h.pos; omega⟩
  · rcases seen_push hs with hs | rfl
    · have := h.le i z hi hs hz; omega
    · rw [hj] at hi; cases hi; omega
  · by_cases hv : y.n ≤ v
    · rw [show max v y.n = v from by omega]; exact h.at_
    · exact .inr ⟨y, List.mem_of_getElem? hj, hc, by omega⟩
/-- The greatest number of a client. -/
def LastIs (H : Hist) (c r : Int) : Prop := (∀ e ∈ H.ents, e.op.c = c → e.op.n ≤ r) ∧ (r = 0 ∨ ∃ e ∈ H.ents, e.op.c = c ∧ e.op.n = r) ∧ 0 ≤ r
theorem LsI.done {H : Hist} {L : List MR} (hr : HR H L) {c : Int} {seen : Array Nat} {v : Int} (h : LsI (keys L) c seen v) (hall : ∀ j, j < (keys L).length → seen.contains j = true) : LastIs H c v := by
  refine ⟨fun e he hc => ?_, ?_, h.pos⟩
  · obtain ⟨k, hk, rfl⟩ := List.mem_iff_getElem.1 he
    obtain ⟨j, x, hj, hm, _⟩ := hr.look hk
    have hkj := keys_get hj
    have hlt : j < (keys L).length := by
      rcases Nat.lt_or_ge j (keys L).length with h | h
      · exact h
      · rw [List.getElem?_eq_none h] at hkj; cases hkj
    have := h.le j _ hkj (hall j hlt)
    simp only [hm, markAt] at this
    exact this hc
  · rcases h.at_ with h1 | ⟨y, hy, hc, hn⟩
    · exact .inl h1
    · right
      obtain ⟨x, hx, rfl⟩ := List.mem_map.1 hy
      have h4 := (hr.perm.mem_iff).1 (List.mem_map.2 ⟨x, hx, rfl⟩)
      obtain ⟨k, e, h5, h6⟩ := marksFrom_mem h4
      simp only [h6, markAt] at hc hn
      exact ⟨e, List.mem_of_getElem? h5, hc, hn⟩
end Go.Proofs.YtggdddkbhigjoaaDoor
/- Walks: history.Put. -/
namespace Go.Proofs.YtggdddkbhigjoaaDoor
open Go Go.GW
theorem turned_ops (H : Hist) (i : Nat) (o : GOp) : (turnedF H i o).1.map (·.op) = H.ops := by
  unfold turnedF
  split
  · rfl
  · split
    · rfl
    · split
      · rfl
      · rename_i k hwk _ e he
        split
        · rfl
        · have hk : k < H.ents.length := by
            rcases Nat.lt_or_ge k H.ents.length with h | h
            · exact h
            · rw [List.getElem?_eq_none h] at he; cases he
          have e1 : H.ents[k] = e := by rw [List.getElem?_eq_getElem hk] at he; exact Option.some.inj he
          exact hops_set hk (offE e (!o.on)) (by rw [e1]; rfl) 0
theorem whereId_ops {es : List Ent} {H : Hist} {c n : Int} (h : es.map (·.op) = H.ops) (hn : whereId H.ents c n = none) : whereId es c n = none := by
  unfold whereId
  rw [List.findIdx?_eq_none_iff]
  intro e he
  have h1 : e.op ∈ H.ops := by rw [← h]; exact List.mem_map.2 ⟨e, he, rfl⟩
  obtain ⟨x, hx, hxe⟩ := List.mem_map.1 h1
  have h2 := whereId_none hn x hx
  rw [hxe] at h2
  cases hq : (decide (c = e.op.c) && decide (n = e.op.n)) with
  | false => rfl
  | true => simp at hq; exact absurd ⟨hq.1.symm, hq.2.symm⟩ h2
theorem bd31Xw18  (w : World) : (Instr.build 31 #[]).run Tryd.prog w = .ok (.agg #[.int .i64 0, .int .i64 0, .int .i64 0, .int .i64 0, .string ⟨#[]⟩, .slice none 0 0, .int .i64 0, .int .i64 0, .bool false]) w := by kernel_rfl
theorem bd101_0Xw18 (x0_ : Int) (w : World) : (Instr.build 101 #[(0, .int .i64 x0_)]).run Tryd.prog w = .ok (.agg #[.int .i64 x0_, .slice none 0 0, .bool false]) w := by kernel_rfl
theorem bd28_1Xw18 (x1_ : Int) (w : World) : (Instr.build 28 #[(1, .int .i64 x1_)]).run Tryd.prog w = .ok (.agg #[.int .i64 0, .int .i64 0, .int .i64 x1_]) w := by kernel_rfl
theorem bd31_0Xw18 (x0_0a0 : Int) (x0_0a1 : Int) (x0_1 : Int) (w : World) : (Instr.build 31 #[(0, .agg #[.int .i64 x0_0a0, .int .i64 x0_0a1, .int .i64 x0_1])]).run Tryd.prog w = .ok (.agg #[.int .i64 x0_0a0, .int .i64 x0_0a1, .int .i64 x0_1, .int .i64 0, .string ⟨#[]⟩, .slice none 0 0, .int .i64 0, .int .i64 0, .bool false]) w := by kernel_rfl
theorem bd37_0_1Xw18 (x0_ : Int) (x1_ : Int) (w : World) : (Instr.build 37 #[(0, .int .i64 x0_), (1, .int .i64 x1_)]).run Tryd.prog w = .ok (.agg #[.int .i64 x0_, .int .i64 x1_]) w := by kernel_rfl
theorem fd31_3Xw18 (x00a0 : Int) (x00a1 : Int) (x01 : Int) (x1 : Int) (x2 : ByteArray) (x3A : Option Addr) (x3n x3c : Nat) (x4a0 : Int) (x4a1 : Int) (x5 : Bool) (w : World) : (Instr.field 31 (.agg #[.int .i64 x00a0, .int .i64 x00a1, .int .i64 x01, .int .i64 x1, .string x2, .slice x3A x3n x3c, .int .i64 x4a0, .int .i64 x4a1, .bool x5]) 3).run Tryd.prog w = .ok (.slice x3A x3n x3c) w := by kernel_rfl

set_option maxRecDepth 10000 in
theorem put_s (h m cap : Nat) (A : Option Addr) (H : Hist) (L : List MR) (hr : HR H L) (i : Int) (o : GOp) (Ao : Option Addr) (co : Nat) (ho : Fit o) (hlt : H.ents.length < 1000000) : Sp Tryd.prog 11 [.pointer (some ⟨h, 0, none⟩), .int .i64 i, opV o Ao co] [hdP h A H.ops.length cap m H.total, mpP m L, mkP L] [barF, RdF opD A cap H.ops, AllF L nowF, RdF rgD Ao co o.rs] (PuP H i o h m cap A L) := by
  have hol := ops_len H
  have hlen := hr.len
  refine Sp.of (n := 196) ⟨_, Tryd.func11, rfl, rfl, rfl, rfl⟩ (Nat.le_of_ble_eq_true rfl) fun Ps As => ?_
  refine WC_seq (WC_region ?_)
  refine WL_main rfl (OW_box (cs := [_, _, _, _, _, _, _, _, _]) rfl rfl (by decide) fun b5 => ?_)
  refine WL_main rfl (OW_alloc (cs := [_, _, _, _, _, _, _, _, _]) ti31 rfl (by decide) fun b6 => ?_)
  refine Lq (q_assign rfl) ?_
  refine WL_nil (thenN (WC_seq (WC_seq ?_)))
  refine WC_fact (A := RdF rgD none 0 []) (fun Z w hs => RdS.nil _ _ _) ?_
  refine WC_region ?_
  refine Lq (q_move rfl) ?_
  refine Lq (q_move rfl) ?_
  refine Lq (q_loadN (vs := [_, _, _, _, _, _, _, _, _]) Tryd.underlying31 rfl ti31 rfl (ownS (own0)) rfl rfl) ?_
  refine WL_main rfl (OW_call3 (fits_s h m cap A H L hr i o Ao co ho) (.cons rfl (.cons rfl (.cons rfl (.nil)))) (by decide) (.s (.s (.z))) (.s (.s (.z))) (.s (.s (.z))) (memc (.tail _ (.head _)) (memc (.tail _ (.tail _ (.head _))) (memc (.tail _ (.tail _ (.tail _ (.tail _ (.head _))))) mem0))) fun u1_3 Lo fs hres => ?_)
  obtain ⟨rfl, rfl, rfl⟩ := hres
  refine Lq (q_assign rfl) ?_
  refine WL_nil (thenN (WC_seq (WC_region ?_)))
  refine Lq (q_move rfl) ?_
  refine Lq (q_neq rfl rfl) ?_
  refine WL_nil (thenN ?_)
  refine WC_cond rfl (fun h24 => ?_) (fun h24 => ?_)
  · refine WC_seq (WC_region ?_)
    refine Lq (q_build (.nil) (bd31Xw18)) ?_
    refine Lq (q_move rfl) ?_
    refine WL_main rfl (OW_storeN (cs' := [_, _, _, _, _, _, _, _, _]) (vs := [_, _, _, _, _, _, _, _, _]) ti31 rfl rfl rfl rfl rfl (Nat.le_of_ble_eq_true rfl) (.s (.s (.s (.z)))) ?_)
    refine Lq (q_assign rfl) ?_
    refine WL_nil (thenN (WC_ret (thenRet ?_)))
    refine ⟨_, [_, _, _], [_, _, _], fun Z w hs => RV_ownN hs Tryd.underlying31 rfl ti31 rfl (ownS (ownS (ownS (own0)))) rfl (.tmp rfl (.nil)), ?_, fun Z w hs => hs.out (List.Sublist.cons_cons _ (List.Sublist.cons_cons _ (List.Sublist.cons_cons _ (List.Sublist.cons _ (List.Sublist.cons _ (List.Sublist.refl _)))))) (memc (.head _) (memc (.tail _ (.tail _ (.head _))) (memc (.tail _ (.tail _ (.tail _ (.head _)))) (fun _ h => .tail _ h))))⟩
    try simp only [Bq0, Bq1, Bq2, Bq3, Bq4, Bq5, Bq6, Bq7, Bq8, Bq9, Bq10, Bq11, Bq12] at *
    have hF := put_1 h24
    exact ⟨L, A, cap, none, 0, by rw [hF]; exact hr, by rw [hF]; rfl, by rw [hF], by rw [hF]; rfl⟩
  · refine WC_skip (thenN (WC_seq ?_))
    try simp only [Bq0, Bq1, Bq2, Bq3, Bq4, Bq5, Bq6, Bq7, Bq8, Bq9, Bq10, Bq11, Bq12] at *
    obtain ⟨h0, h1, hw0, htot, hne3, hk1, hk4, hck, htgt⟩ := fits_0 h24
    obtain ⟨i, rfl⟩ : ∃ k : Nat, i = (k : Int) := ⟨i.toNat, by omega⟩
    have hil : i ≤ H.ents.length := by omega
    have hwid := check_wid hck
    refine WC_region ?_
    refine Lq (q_loadN (vs := [_, _, _, _, _, _, _, _, _]) Tryd.underlying31 rfl ti31 rfl (ownS (ownS (ownS (ownS (own0))))) rfl rfl) ?_
    refine WL_main rfl (OW_call0 (clone_s o Ao co ho.rs) (.cons rfl (.nil)) (by decide) (memc (.tail _ (.tail _ (.tail _ (.tail _ (.head _))))) mem0) fun u4_1 Lo fs hres => ?_)
    obtain ⟨A1, c1, rfl, rfl, rfl⟩ := hres
    refine WL_main rfl (OW_storeN (cs' := [_, _, _, _, _, _, _, _, _]) (vs := [_, _, _, _, _, _, _, _, _]) ti31 rfl rfl rfl rfl rfl (Nat.le_of_ble_eq_true rfl) (.s (.s (.s (.s (.z))))) ?_)
    refine WL_nil (thenN (WC_seq ?_))
    refine WC_capLe (.tail _ (.tail _ (.tail _ (.head _)))) fun hcap hcap2 => ?_
    obtain ⟨B, hB⟩ : ∃ B, B = cutA A i cap 9 := ⟨_, rfl⟩
    have hFd : ∀ x ∈ H.ops.drop i, Fit x := fun x hx => by obtain ⟨e, he, rfl⟩ := List.mem_map.1 (List.mem_of_mem_drop hx); exact hr.fit e he
    refine WC_fact (A := RdF opD B (cap - i) (H.ops.drop i)) (fun Z w hs => by rw [hB]; have h1 := RdS.cut (lo := i) (hi := H.ops.length) (m := cap) (hs.facts _ (.tail _ (.tail _ (.tail _ (.head _))))) (by omega) (by omega) (by omega) (Nat.le_refl _); rw [List.take_length] at h1; exact h1) ?_
    refine WC_draw _ _ [] (.c 0 0 (.c 2 0 (.c 3 0 (.c 4 0 (.c 5 0 (.c 6 0 (.c 7 0 (.c 1 2 (.c 8 2 (.c 9 0 (.c 10 0 (.c 11 0 (.c 12 0 (.c 13 0 (.c 14 0 (.c 15 0 .nil)))))))))))))))) mixed (fun _ _ _ _ h => h) (List.Sublist.cons_cons _ (List.Sublist.cons_cons _ (List.Sublist.cons_cons _ (List.Sublist.cons_cons _ (List.Sublist.cons_cons _ (List.Sublist.refl _)))))) (fun _ h => h) (by kernel_rfl) (by decide) fun ws Z0 => ?_
    refine Qe rfl (q_loadN (vs := [_, _, _, _, _, _, _, _, _]) Tryd.underlying31 rfl ti31 rfl (ownS (ownS (ownS (ownS (own0))))) rfl rfl) ?_
    refine Qe rfl (q_move rfl) ?_
    refine Qe rfl (q_nil rfl) ?_
    refine Qe rfl (q_field (o' := 0) Tryd.underlying97 rfl ti45 rfl rfl) ?_
    refine Qe rfl (q_load1 Tryd.underlying45 rfl rfl own0 rfl) ?_
    refine Qe rfl (q_move rfl) ?_
    refine Qe rfl (q_cutLo Tryd.underlying45 ti31 rfl rfl (by omega) (by omega)) ?_
    refine WE_main rfl rfl (OW_slice1 (cs := [_, _, _, _, _, _, _, _, _]) Tryd.underlying45 ti31 (by decide) (by decide) rfl rfl rfl rfl (by decide) fun b31 => ?_)
    refine ⟨⟨(List.Sublist.cons _ (List.Sublist.cons_cons _ (List.Sublist.cons_cons _ (List.Sublist.cons_cons _ (List.Sublist.cons_cons _ (List.Sublist.cons_cons _ (List.Sublist.refl _))))))), (.head _)⟩, ?_⟩
    refine WE_freeze1 (e := opD) (u := o) (.z) (fun Z w hs => ⟨A1, c1, rfl, hs.facts _ (.tail _ (.tail _ (.head _)))⟩) ?_
    refine WE_main rfl rfl (OW_call0 (cross_s (some ⟨b31, 0, none⟩) B 1 (cap - i) [o] (H.ops.drop i) (by simpa using ho) hFd (by simp) (by rw [List.length_drop]; omega)) (.cons rfl (.cons (by rw [hB, List.length_drop]; rfl) (.nil))) (by decide) (memc (.tail _ (.tail _ (.tail _ (.tail _ (.tail _ (.head _)))))) (memc (.head _) (memc (.tail _ (.tail _ (.head _))) mem0))) fun u5_8 Lo fs hres => ?_)
    obtain ⟨Ac, cc, Ad, cd, rfl, rfl, rfl⟩ := hres
    refine ⟨⟨(List.Sublist.cons_cons _ (List.Sublist.cons_cons _ (List.Sublist.cons_cons _ (List.Sublist.cons_cons _ (List.Sublist.cons_cons _ (List.Sublist.refl _)))))), (.tail _ (.tail _ (.tail _ (.head _))))⟩, ?_⟩
    refine Qe rfl (q_move rfl) ?_
    refine Qe rfl (q_extract (vs := [_, _, _]) rfl rfl) ?_
    refine Qe rfl (q_extract (vs := [_, _, _]) rfl rfl) ?_
    refine Qe rfl (q_extract (vs := [_, _, _]) rfl rfl) ?_
    refine Qe rfl (q_assign rfl) ?_
    refine Qe rfl (q_assign rfl) ?_
    refine Qe rfl (q_assign rfl) ?_
    refine WE_end (WF_nil ?_)
    refine thenN ?_
    refine WC_fr [(11, _), (10, _), (9, _), (7, _), (6, _), (5, _), (0, _), (1, _)] (.cons rfl (.cons rfl (.cons rfl (.cons rfl (.cons rfl (.cons rfl (.cons rfl (.cons rfl (.nil _))))))))) ?_
    refine WC_seq (WC_seq (WC_region ?_))
    refine Lq (q_move rfl) ?_
    refine Lq (q_neq rfl rfl) ?_
    refine WL_nil (thenN ?_)
    refine WC_cond rfl (fun h43 => ?_) (fun h43 => ?_)
    · refine WC_seq (WC_region ?_)
      refine Lq (q_build (.nil) (bd31Xw18)) ?_
      refine Lq (q_move rfl) ?_
      refine WL_main rfl (OW_storeN (cs' := [_, _, _, _, _, _, _, _, _]) (vs := [_, _, _, _, _, _, _, _, _]) ti31 rfl rfl rfl rfl rfl (Nat.le_of_ble_eq_true rfl) (.s (.s (.s (.z)))) ?_)
      refine Lq (q_assign rfl) ?_
      refine WL_nil (thenN (WC_ret (thenRet ?_)))
      refine ⟨_, [_, _, _], [_, _, _], fun Z w hs => RV_ownN hs Tryd.underlying31 rfl ti31 rfl (ownS (ownS (ownS (own0)))) rfl (.tmp rfl (.nil)), ?_, fun Z w hs => hs.out (List.Sublist.cons_cons _ (List.Sublist.cons_cons _ (List.Sublist.cons_cons _ (List.Sublist.cons _ (List.Sublist.cons _ (List.Sublist.refl _)))))) (memc (.tail _ (.tail _ (.tail _ (.tail _ (.tail _ (.tail _ (.head _))))))) (memc (.tail _ (.tail _ (.tail _ (.tail _ (.tail _ (.tail _ (.tail _ (.tail _ (.head _))))))))) (memc (.tail _ (.tail _ (.tail _ (.tail _ (.tail _ (.tail _ (.tail _ (.tail _ (.tail _ (.head _)))))))))) (fun _ h => .tail _ (.tail _ (.tail _ (.tail _ (.tail _ (.tail _ (.tail _ h))))))))))⟩
      try simp only [Bq0, Bq1, Bq2, Bq3, Bq4, Bq5, Bq6, Bq7, Bq8, Bq9, Bq10, Bq11, Bq12] at *
      have hF := put_2 h24 h43
      exact ⟨L, A, cap, none, 0, by rw [hF]; exact hr, by rw [hF]; rfl, by rw [hF], by rw [hF]; rfl⟩
    · refine WC_skip (thenN (WC_seq ?_))
      try simp only [Bq0, Bq1, Bq2, Bq3, Bq4, Bq5, Bq6, Bq7, Bq8, Bq9, Bq10, Bq11, Bq12] at *
      have hX : (crossF [o] (H.ops.drop i)).2.2 = 0 := by omega
      obtain ⟨td, htd, hsame⟩ := crossOne hX
      have hcf := crossF_fit (xs := [o]) (ys := H.ops.drop i) (by simpa using ho) hFd
      have htf : Fit td := hcf.1 td (by rw [htd]; exact List.mem_singleton.2 rfl)
      obtain ⟨later, hlater⟩ : ∃ x, x = (crossF [o] (H.ops.drop i)).2.1 := ⟨_, rfl⟩
      have hsl : Sames (H.ops.drop i) later := by rw [hlater]; exact (crossF_same hX).2
      have hfl : ∀ y ∈ later, Fit y := by rw [hlater]; exact hcf.2
      have hll : later.length = H.ops.length - i := by rw [hsl.length, List.length_drop]
      rw [htd, ← hlater]
      refine WC_region ?_
      refine Lq (q_move rfl) ?_
      refine Lq (q_build (.cons rfl (.nil)) (bd101_0Xw18 _)) ?_
      refine WL_main rfl (OW_box (cs := [_, _, _]) rfl rfl (by decide) fun b48 => ?_)
      refine Lq (q_assign rfl) ?_
      refine WL_nil (thenN (WC_seq (WC_region ?_)))
      refine Lq (q_field (o' := 0) Tryd.underlying31 rfl ti28 rfl rfl) ?_
      refine Lq (q_field (o' := 2) Tryd.underlying28 rfl ti26 rfl rfl) ?_
      refine Lq (q_load1 Tryd.underlying26 rfl rfl (ownS (ownS (ownS (ownS (ownS (own0)))))) rfl) ?_
      refine Lq (q_build (.cons rfl (.nil)) (bd28_1Xw18 _)) ?_
      refine Lq (q_build (.cons rfl (.nil)) (bd31_0Xw18 _ _ _)) ?_
      refine WL_main rfl (OW_alloc (cs := [_, _, _, _, _, _, _, _, _]) ti31 rfl (by decide) fun b13 => ?_)
      refine WL_main rfl (OW_storeN (cs' := [_, _, _, _, _, _, _, _, _]) (vs := [_, _, _, _, _, _, _, _, _]) ti31 rfl rfl rfl rfl rfl (Nat.le_of_ble_eq_true rfl) (.z) ?_)
      refine WL_nil (thenN ?_)
      refine WC_fr [(13, _), (12, _), (10, _), (9, _), (7, _), (6, _), (5, _), (0, _), (1, _)] (.cons rfl (.cons rfl (.cons rfl (.cons rfl (.cons rfl (.cons rfl (.cons rfl (.cons rfl (.cons rfl (.nil _)))))))))) ?_
      refine WC_meet (α := List Ent × List MR × List Rg × Option Addr × Nat × GOp × Option Addr × Nat)
        (fun (es, L1, nw, An, cn, eff, Ae, ce) => [(0, .pointer (some ⟨h, 0, none⟩)), (1, .int .i64 i), (5, .pointer (some ⟨b5, 0, none⟩)), (6, .pointer (some ⟨b6, 0, none⟩)), (10, .slice Ad later.length cd), (12, .pointer (some ⟨b48, 0, none⟩)), (13, .pointer (some ⟨b13, 0, none⟩))])
        (fun (es, L1, nw, An, cn, eff, Ae, ce) => ([(b13, cellsO (opC eff Ae ce) 31)] :: [(b48, cellsO [.int .i64 i, .slice An nw.length cn, .bool false] 101)] :: [(b6, cellsO (opC zeroOp none 0) 31)] :: [(b5, cellsO (opC o A1 c1) 31)] :: hdP h A H.ops.length cap m H.total :: mpP m L :: mkP L1 :: Ps))
        (fun (es, L1, nw, An, cn, eff, Ae, ce) => (RdF rgD Ae ce eff.rs :: RdF rgD An cn nw :: AllF L1 nowF :: RdF opD Ad cd later :: RdF rgD A1 c1 o.rs :: RdF rgD none 0 [] :: barF :: RdF opD A cap H.ops :: AllF L nowF :: RdF rgD Ao co o.rs :: As))
        (fun (es, L1, nw, An, cn, eff, Ae, ce) => MidI H i o td L es L1 nw eff) ?_ ?_
      · refine WC_seq (WC_region ?_)
        refine Lq (q_field (o' := 0) Tryd.underlying31 rfl ti28 rfl rfl) ?_
        refine Lq (q_field (o' := 2) Tryd.underlying28 rfl ti26 rfl rfl) ?_
        refine Lq (q_load1 Tryd.underlying26 rfl rfl (ownS (ownS (ownS (ownS (ownS (ownS (own0))))))) rfl) ?_
        refine WL_nil (thenN (WC_block (WC_seq (WC_region ?_))))
        refine Lq (q_eql rfl rfl) ?_
        refine Lq (q_assign rfl) ?_
        refine WL_nil (thenN ?_)
        refine WC_cond rfl (fun h57 => ?_) (fun h57 => ?_)
        · refine WC_seq ?_
          refine WC_elem (k := 0) (.head _) rfl (op_open _) fun b12 q12 y12 e12 => ?_
          cases e12
          refine WC_draw _ _ [9] (.c 0 0 (.c 1 0 (.c 2 0 (.c 3 0 (.c 4 0 (.c 5 0 (.c 6 0 (.c 7 2 (.c 8 0 (.c 9 3 .nil)))))))))) mixed (fun _ _ _ _ h => h) (List.Sublist.cons _ (List.Sublist.cons_cons _ (List.Sublist.cons_cons _ (List.Sublist.cons_cons _ (List.Sublist.cons_cons _ (List.Sublist.cons_cons _ (List.Sublist.cons_cons _ (List.Sublist.refl _)))))))) (fun _ h => h) (by kernel_rfl) (by decide) fun ws Z0 => ?_
          refine Qe rfl (q_move rfl) ?_
          refine Qe rfl (q_idxRd Tryd.underlying45 ti31 rfl rfl (by decide) (by simp)) ?_
          refine Qe rfl (q_field (o' := _ + 3) Tryd.underlying31 rfl ti3 rfl rfl) ?_
          refine Qe rfl (q_loadF1 (j := 3) Tryd.underlying3 rfl rfl (.head _) rfl rfl) ?_
          refine Qe rfl (q_field (o' := 4) Tryd.underlying31 rfl ti9 rfl rfl) ?_
          refine Qe rfl (q_load1 Tryd.underlying9 rfl rfl (ownS (ownS (ownS (ownS (ownS (own0)))))) rfl) ?_
          refine Qe rfl (q_field (o' := 3) Tryd.underlying31 rfl ti3 rfl rfl) ?_
          refine WE_main rfl rfl (OW_store1 ti3 rfl rfl rfl (.s (.s (.s (.z)))) (.z) ?_)
          refine ⟨⟨(List.Sublist.cons _ (List.Sublist.cons_cons _ (List.Sublist.cons_cons _ (List.Sublist.cons_cons _ (List.Sublist.cons_cons _ (List.Sublist.cons_cons _ (List.Sublist.cons_cons _ (List.Sublist.refl _)))))))), (.head _)⟩, ?_⟩
          refine Qe rfl (q_field (o' := 4) Tryd.underlying31 rfl ti9 rfl rfl) ?_
          refine WE_end (WF_last rfl rfl (OW_store1 ti9 rfl rfl rfl (.s (.s (.s (.s (.z))))) (.z) ?_))
          refine WF_nil ?_
          refine thenN ?_
          refine WC_fr [(13, _), (12, _), (10, _), (7, _), (6, _), (5, _), (0, _), (1, _)] (.cons rfl (.cons rfl (.cons rfl (.cons rfl (.cons rfl (.cons rfl (.cons rfl (.cons rfl (.nil _))))))))) ?_
          refine WC_seq ?_
          cases hmv : movedAll H.ents td.at_ (widthF o) with
          | error e =>
            refine WC_draw _ _ [] (.c 0 0 (.c 1 0 (.c 2 0 (.c 3 0 (.c 4 2 (.c 5 2 (.c 6 0 (.c 7 0 (.c 8 0 (.c 9 0 (.c 10 0 .nil))))))))))) mixed (fun _ _ _ _ h => h) (List.Sublist.cons_cons _ (List.Sublist.cons_cons _ (List.Sublist.cons _ (List.Sublist.cons _ (List.Sublist.cons _ (List.Sublist.cons_cons _ (List.Sublist.cons_cons _ (List.Sublist.refl _)))))))) (fun _ h => h) (by kernel_rfl) (by decide) fun ws Z0 => ?_
            refine Qe rfl (q_move rfl) ?_
            refine Qe rfl (q_field (o' := 3) Tryd.underlying31 rfl ti3 rfl rfl) ?_
            refine Qe rfl (q_load1 Tryd.underlying3 rfl rfl own0 rfl) ?_
            refine Qe rfl (q_loadN (vs := [_, _, _, _, _, _, _, _, _]) Tryd.underlying31 rfl ti31 rfl (ownS (ownS (ownS (own0)))) rfl rfl) ?_
            refine WE_main rfl rfl (OW_call0 (width_s o A1 c1 (by have := ho.text; omega)) (.cons rfl (.nil)) (by decide) (memc (.tail _ (.tail _ (.tail _ (.tail _ (.tail _ (.tail _ (.tail _ (.tail _ (.tail _ (.tail _ (.tail _ (.head _)))))))))))) mem0) fun u13_4 Lo fs hres => ?_)
            obtain ⟨rfl, rfl, rfl⟩ := hres
            refine ⟨⟨(List.Sublist.cons_cons _ (List.Sublist.cons_cons _ (List.Sublist.cons _ (List.Sublist.cons _ (List.Sublist.cons _ (List.Sublist.cons_cons _ (List.Sublist.cons_cons _ (List.Sublist.refl _)))))))), (.head _)⟩, ?_⟩
            refine WE_main rfl rfl (OW_call3 (hmoved_s h m cap A H L hr td.at_ (widthF o)) (.cons rfl (.cons rfl (.cons rfl (.nil)))) (by decide) (.s (.s (.z))) (.s (.s (.z))) (.s (.s (.z))) (memc (.tail _ (.tail _ (.tail _ (.tail _ (.tail _ (.tail _ (.tail _ (.tail _ (.tail _ (.tail _ (.tail _ (.tail _ (.head _))))))))))))) (memc (.tail _ (.tail _ (.tail _ (.tail _ (.tail _ (.tail _ (.tail _ (.tail _ (.tail _ (.tail _ (.tail _ (.tail _ (.tail _ (.head _)))))))))))))) mem0)) fun u13_5 Lo fs hres => ?_)
            obtain ⟨rfl, hmr⟩ := hres
            rw [hmv] at hmr
            obtain ⟨rfl, rfl⟩ := hmr
            refine ⟨⟨(List.Sublist.cons _ (List.Sublist.cons _ (List.Sublist.cons _ (List.Sublist.cons_cons _ (List.Sublist.cons_cons _ (List.Sublist.cons_cons _ (List.Sublist.cons_cons _ (List.Sublist.refl _)))))))), (.head _)⟩, ?_⟩
            refine Qe rfl (q_move rfl) ?_
            refine Qe rfl (q_extract (vs := [_, _]) rfl rfl) ?_
            refine Qe rfl (q_extract (vs := [_, _]) rfl rfl) ?_
            refine Qe rfl (q_assign rfl) ?_
            refine Qe rfl (q_assign rfl) ?_
            refine WE_end (WF_nil ?_)
            refine thenN ?_
            refine WC_fr [(15, _), (14, _), (13, _), (12, _), (10, _), (7, _), (6, _), (5, _), (0, _), (1, _)] (.cons rfl (.cons rfl (.cons rfl (.cons rfl (.cons rfl (.cons rfl (.cons rfl (.cons rfl (.cons rfl (.cons rfl (.nil _))))))))))) ?_
            refine WC_seq (WC_seq (WC_region ?_))
            refine Lq (q_move rfl) ?_
            refine Lq (q_neq rfl rfl) ?_
            refine WL_nil (thenN ?_)
            refine WC_true rfl (by simpa using movedAll_ne hmv) ?_
            refine WC_seq (WC_region ?_)
            refine Lq (q_build (.nil) (bd31Xw18)) ?_
            refine Lq (q_move rfl) ?_
            refine WL_main rfl (OW_storeN (cs' := [_, _, _, _, _, _, _, _, _]) (vs := [_, _, _, _, _, _, _, _, _]) ti31 rfl rfl rfl rfl rfl (Nat.le_of_ble_eq_true rfl) (.s (.s (.s (.s (.s (.z)))))) ?_)
            refine Lq (q_assign rfl) ?_
            refine WL_nil (thenN (WC_ret (thenRet (blockRet (thenRet ?_)))))
            refine ⟨_, [_, _, _], [_, _, _], fun Z w hs => RV_ownN hs Tryd.underlying31 rfl ti31 rfl (ownS (ownS (ownS (ownS (ownS (own0)))))) rfl (.tmp rfl (.nil)), ?_, fun Z w hs => hs.out (List.Sublist.cons_cons _ (List.Sublist.cons_cons _ (List.Sublist.cons_cons _ (List.Sublist.cons _ (List.Sublist.cons _ (List.Sublist.cons _ (List.Sublist.cons _ (List.Sublist.refl _)))))))) (memc (.tail _ (.tail _ (.tail _ (.tail _ (.tail _ (.tail _ (.tail _ (.tail _ (.tail _ (.tail _ (.head _))))))))))) (memc (.tail _ (.tail _ (.tail _ (.tail _ (.tail _ (.tail _ (.tail _ (.tail _ (.tail _ (.tail _ (.tail _ (.tail _ (.head _))))))))))))) (memc (.tail _ (.tail _ (.tail _ (.tail _ (.tail _ (.tail _ (.tail _ (.tail _ (.tail _ (.tail _ (.tail _ (.tail _ (.tail _ (.head _)))))))))))))) (fun _ h => .tail _ (.tail _ (.tail _ (.tail _ (.tail _ (.tail _ (.tail _ (.tail _ (.tail _ (.tail _ (.tail _ h))))))))))))))⟩
            try simp only [Bq0, Bq1, Bq2, Bq3, Bq4, Bq5, Bq6, Bq7, Bq8, Bq9, Bq10, Bq11, Bq12] at *
            have hF := put_3 h24 hX htd (by unfold midF; rw [if_pos h57, hmv])
            exact ⟨L, A, cap, none, 0, by rw [hF]; exact hr, by rw [hF]; rfl, by rw [hF], by rw [hF]; rfl⟩
          | ok ls =>
            have hlsl := movedAll_length hmv
            refine WC_draw _ _ [] (.c 0 0 (.c 1 0 (.c 2 0 (.c 3 0 (.c 4 2 (.c 5 2 (.c 6 0 (.c 7 0 (.c 8 0 (.c 9 0 (.c 10 0 .nil))))))))))) mixed (fun _ _ _ _ h => h) (List.Sublist.cons_cons _ (List.Sublist.cons_cons _ (List.Sublist.cons _ (List.Sublist.cons _ (List.Sublist.cons _ (List.Sublist.cons_cons _ (List.Sublist.cons_cons _ (List.Sublist.refl _)))))))) (fun _ h => h) (by kernel_rfl) (by decide) fun ws Z0 => ?_
            refine Qe rfl (q_move rfl) ?_
            refine Qe rfl (q_field (o' := 3) Tryd.underlying31 rfl ti3 rfl rfl) ?_
            refine Qe rfl (q_load1 Tryd.underlying3 rfl rfl own0 rfl) ?_
            refine Qe rfl (q_loadN (vs := [_, _, _, _, _, _, _, _, _]) Tryd.underlying31 rfl ti31 rfl (ownS (ownS (ownS (own0)))) rfl rfl) ?_
            refine WE_main rfl rfl (OW_call0 (width_s o A1 c1 (by have := ho.text; omega)) (.cons rfl (.nil)) (by decide) (memc (.tail _ (.tail _ (.tail _ (.tail _ (.tail _ (.tail _ (.tail _ (.tail _ (.tail _ (.tail _ (.tail _ (.head _)))))))))))) mem0) fun u13_4 Lo fs hres => ?_)
            obtain ⟨rfl, rfl, rfl⟩ := hres
            refine ⟨⟨(List.Sublist.cons_cons _ (List.Sublist.cons_cons _ (List.Sublist.cons _ (List.Sublist.cons _ (List.Sublist.cons _ (List.Sublist.cons_cons _ (List.Sublist.cons_cons _ (List.Sublist.refl _)))))))), (.head _)⟩, ?_⟩
            refine WE_main rfl rfl (OW_call3 (hmoved_s h m cap A H L hr td.at_ (widthF o)) (.cons rfl (.cons rfl (.cons rfl (.nil)))) (by decide) (.s (.s (.z))) (.s (.s (.z))) (.s (.s (.z))) (memc (.tail _ (.tail _ (.tail _ (.tail _ (.tail _ (.tail _ (.tail _ (.tail _ (.tail _ (.tail _ (.tail _ (.tail _ (.head _))))))))))))) (memc (.tail _ (.tail _ (.tail _ (.tail _ (.tail _ (.tail _ (.tail _ (.tail _ (.tail _ (.tail _ (.tail _ (.tail _ (.tail _ (.head _)))))))))))))) mem0)) fun u13_5 Lo fs hres => ?_)
            obtain ⟨rfl, hmr⟩ := hres
            rw [hmv] at hmr
            obtain ⟨A3, c3, rfl, rfl⟩ := hmr
            refine ⟨⟨(List.Sublist.cons _ (List.Sublist.cons _ (List.Sublist.cons _ (List.Sublist.cons_cons _ (List.Sublist.cons_cons _ (List.Sublist.cons_cons _ (List.Sublist.cons_cons _ (List.Sublist.refl _)))))))), (.tail _ (.head _))⟩, ?_⟩
            refine Qe rfl (q_move rfl) ?_
            refine Qe rfl (q_extract (vs := [_, _]) rfl rfl) ?_
            refine Qe rfl (q_extract (vs := [_, _]) rfl rfl) ?_
            refine Qe rfl (q_assign rfl) ?_
            refine Qe rfl (q_assign rfl) ?_
            refine WE_end (WF_nil ?_)
            refine thenN ?_
            refine WC_fr [(15, _), (14, _), (13, _), (12, _), (10, _), (7, _), (6, _), (5, _), (0, _), (1, _)] (.cons rfl (.cons rfl (.cons rfl (.cons rfl (.cons rfl (.cons rfl (.cons rfl (.cons rfl (.cons rfl (.cons rfl (.nil _))))))))))) ?_
            refine WC_seq (WC_seq (WC_region ?_))
            refine Lq (q_move rfl) ?_
            refine Lq (q_neq rfl rfl) ?_
            refine WL_nil (thenN (WC_false rfl rfl (WC_skip (thenN (WC_seq (WC_seq (WC_region ?_)))))))
            refine Lq (q_move rfl) ?_
            refine Lq (q_len Tryd.underlying102 rfl) ?_
            refine Lq (q_move rfl) ?_
            refine WL_nil (thenN (WC_block ?_))
            refine WC_loopE (α := Nat × List MR) (fun (k, Lk) => ls.length - k)
              (fun (k, Lk) => [(0, .pointer (some ⟨h, 0, none⟩)), (1, .int .i64 i), (5, .pointer (some ⟨b5, 0, none⟩)), (6, .pointer (some ⟨b6, 0, none⟩)), (10, .slice Ad later.length cd), (12, .pointer (some ⟨b48, 0, none⟩)), (13, .pointer (some ⟨b13, 0, none⟩)), (80, .slice A3 ls.length c3), (81, .int .i64 ls.length), (82, .int .i64 k)])
              (fun (k, Lk) => (hdP h A H.ops.length cap m H.total :: mpP m L :: mkP Lk :: [(b13, cellsO (opC { effF o with at_ := td.at_, text := o.text } none 0) 31)] :: [(b48, cellsO [.int .i64 i, .slice none 0 0, .bool false] 101)] :: [(b6, cellsO (opC zeroOp none 0) 31)] :: [(b5, cellsO (opC o A1 c1) 31)] :: Ps))
              (fun (k, Lk) => (AllF Lk nowF :: RdF rsl A3 c3 ls :: RdF opD Ad cd later :: RdF rgD A1 c1 o.rs :: RdF rgD none 0 [] :: barF :: RdF opD A cap H.ops :: AllF L nowF :: RdF rgD Ao co o.rs :: As))
              (fun (k, Lk) => HR ⟨setNow H.ents ls k, H.total⟩ Lk ∧ keys Lk = keys L ∧ k ≤ ls.length)
              (0, L) ?_ (.cons rfl (.cons rfl (.cons rfl (.cons rfl (.cons rfl (.cons rfl (.cons rfl (.cons rfl (.cons rfl (.cons rfl (.nil _))))))))))) (List.Sublist.cons_cons _ (List.Sublist.cons_cons _ (List.Sublist.cons_cons _ (List.Sublist.cons_cons _ (List.Sublist.cons_cons _ (List.Sublist.cons_cons _ (List.Sublist.cons_cons _ (List.Sublist.refl _)))))))) (memc (.tail _ (.tail _ (.tail _ (.tail _ (.tail _ (.tail _ (.tail _ (.tail _ (.tail _ (.tail _ (.tail _ (.tail _ (.tail _ (.tail _ (.head _))))))))))))))) (memc (.head _) (memc (.tail _ (.tail _ (.tail _ (.tail _ (.tail _ (.tail _ (.head _))))))) (fun _ h => .tail _ (.tail _ (.tail _ (.tail _ (.tail _ (.tail _ (.tail _ (.tail _ (.tail _ (.tail _ h))))))))))))) ?_
            · exact ⟨by rw [setNow_zero]; exact hr, rfl, Nat.zero_le _⟩
            · rintro ⟨k, Lk⟩ hI
              have hkls : k ≤ ls.length := hI.2.2
              refine WC_seq (WC_region ?_)
              refine Lq (q_lss rfl rfl) ?_
              refine WL_nil (thenN (WC_seq ?_))
              refine WC_cond rfl (fun h83 => ?_) (fun h83 => ?_)
              · refine WC_skip (thenN (WC_seq (WC_block (WC_seq ?_))))
                try simp only [Bq0, Bq1, Bq2, Bq3, Bq4, Bq5, Bq6, Bq7, Bq8, Bq9, Bq10, Bq11, Bq12] at *
                have hk : k < ls.length := by omega
                have hke : k < H.ents.length := by omega
                refine WC_elem (k := k) (.tail _ (.head _)) (List.getElem?_eq_getElem hk) (rsl_open _) fun b18 q18 y18 e18 => ?_
                cases e18
                refine WC_region ?_
                refine Lq (q_move rfl) ?_
                refine Lq (q_idxRd Tryd.underlying102 ti29 rfl rfl (by omega) (by omega)) ?_
                refine Lq (q_loadF1 (j := 0) Tryd.underlying29 rfl rfl (.head _) rfl rfl) ?_
                refine Lq (q_assign rfl) ?_
                refine Lq (q_assign rfl) ?_
                refine WL_nil (thenN ?_)
                have hko : k < H.ops.length := by omega
                have hop := ops_at hke
                refine WC_elem (k := k) (.tail _ (.tail _ (.tail _ (.tail _ (.tail _ (.tail _ (.tail _ (.tail _ (.head _))))))))) (List.getElem?_eq_getElem hko) (op_open _) fun bo qo yo eo => ?_
                cases eo
                have hks : k < (setNow H.ents ls k).length := by rw [setNow_length]; exact hke
                have hsk : (setNow H.ents ls k)[k] = H.ents[k] := by have h1 := setNow_get H.ents ls k hke; rw [List.getElem?_eq_getElem hks] at h1; exact Option.some.inj h1
                obtain ⟨jm, xm, hjm, hxm, hgm⟩ := hI.1.look hks
                obtain ⟨xk, xb, xA, xc⟩ := xm
                simp only [hsk] at hxm hgm
                obtain rfl : xk = markAt k H.ents[k] := hxm
                rw [← hop, hI.2.1] at hgm
                refine WC_draw _ _ [17] (.c 0 0 (.c 1 0 (.c 2 0 (.c 3 0 (.c 4 0 (.c 5 0 (.c 6 0 (.c 7 0 (.c 8 0 (.c 9 0 (.c 10 0 (.c 11 0 (.c 12 0 (.c 13 0 (.c 14 0 (.c 15 0 (.c 16 0 (.c 17 3 .nil)))))))))))))))))) mixed (fun _ _ _ _ h => h) (List.Sublist.cons_cons _ (List.Sublist.cons_cons _ (List.Sublist.cons _ (List.Sublist.cons_cons _ (List.Sublist.cons_cons _ (List.Sublist.cons_cons _ (List.Sublist.cons_cons _ (List.Sublist.refl _)))))))) (fun _ h => h) (by kernel_rfl) (by decide) fun ws Z0 => ?_
                refine Qe rfl (q_move rfl) ?_
                refine Qe rfl (q_nil rfl) ?_
                refine Qe rfl (q_field (o' := 1) Tryd.underlying97 rfl ti95 rfl rfl) ?_
                refine Qe rfl (q_load1 Tryd.underlying95 rfl rfl own0 rfl) ?_
                refine Qe rfl (q_move rfl) ?_
                refine Qe rfl (q_nil rfl) ?_
                refine Qe rfl (q_field (o' := 0) Tryd.underlying97 rfl ti45 rfl rfl) ?_
                refine Qe rfl (q_load1 Tryd.underlying45 rfl rfl own0 rfl) ?_
                refine Qe rfl (q_move rfl) ?_
                refine Qe rfl (q_idxRd Tryd.underlying45 ti31 rfl rfl (by omega) (by omega)) ?_
                refine Qe rfl (q_field (o' := _ + 0) Tryd.underlying31 rfl ti28 rfl rfl) ?_
                refine Qe rfl (q_field (o' := _ + 0) Tryd.underlying28 rfl ti25 rfl rfl) ?_
                refine Qe rfl (q_loadFN (k := 0) (vs := [_, _]) Tryd.underlying25 rfl ti25 rfl (.head _) rfl rfl rfl) ?_
                refine Qe rfl (q_lookS keyT hgm Tryd.underlying95 ti99 rfl rfl (ownS (own0))) ?_
                refine Qe rfl (q_move rfl) ?_
                refine Qe rfl (q_nil rfl) ?_
                refine Qe rfl (q_field (o' := 1) Tryd.underlying101 rfl ti29 rfl rfl) ?_
                refine WE_end (WF_last rfl rfl (OW_storeP (i := jm) ti29 rfl rfl rfl (mkP_get hjm) (.s (.z)) (.s (.s (.z))) ?_))
                refine WF_nil ?_
                refine blockN (thenN ?_)
                have hmk : (mkP Lk).set jm (xb, cellsO [.int .i64 (markAt k H.ents[k]).num, .slice y18.1 ls[k].length y18.2, .bool (markAt k H.ents[k]).off] 101) = mkP (Lk.set jm ⟨markAt k ⟨H.ents[k].op, ls[k], H.ents[k].off⟩, xb, y18.1, y18.2⟩) := by rw [mkP_set]; rfl
                rw [hmk]
                refine WC_fact (A := AllF (Lk.set jm ⟨markAt k ⟨H.ents[k].op, ls[k], H.ents[k].off⟩, xb, y18.1, y18.2⟩) nowF) (fun Z w hs => now_set (hs.facts _ (.tail _ (.tail _ (.tail _ (.tail _ (.tail _ (.head _))))))) (hs.facts _ (.tail _ (.tail _ (.tail _ (.tail _ (.head _))))))) ?_
                refine WC_region ?_
                refine Lq (q_add rfl rfl (wr64 (by omega))) ?_
                refine Lq (q_move rfl) ?_
                refine WL_nil (thenK ?_)
                refine ⟨(k + 1, Lk.set jm ⟨markAt k ⟨H.ents[k].op, ls[k], H.ents[k].off⟩, xb, y18.1, y18.2⟩), ?_, (.cons rfl (.cons rfl (.cons rfl (.cons rfl (.cons rfl (.cons rfl (.cons rfl (.cons rfl (.cons rfl (.cons rfl (.nil _))))))))))), (List.Sublist.cons_cons _ (List.Sublist.cons_cons _ (List.Sublist.cons_cons _ (List.Sublist.cons_cons _ (List.Sublist.cons_cons _ (List.Sublist.cons_cons _ (List.Sublist.cons_cons _ (List.Sublist.refl _)))))))), (memc (.head _) (fun _ h => .tail _ (.tail _ (.tail _ (.tail _ (.tail _ (.tail _ (.tail _ h))))))))⟩
                refine ⟨by show ls.length - (k + 1) < ls.length - k; omega, ?_, (keys_set (y := ⟨markAt k ⟨H.ents[k].op, ls[k], H.ents[k].off⟩, xb, y18.1, y18.2⟩) hjm rfl rfl rfl).trans hI.2.1, by show k + 1 ≤ ls.length; omega⟩
                rw [setNow_succ _ _ _ hke hk]
                exact hI.1.upd hks hjm (by simp only [hsk]) ⟨H.ents[k].op, ls[k], H.ents[k].off⟩ (by simp only [hsk]) (by have := movedAll_le hmv _ (List.getElem_mem hk); show ls[k].length ≤ _; omega) _ _
              · refine WC_exit (thenExit (thenExit (blockHit (thenN ?_))))
                try simp only [Bq0, Bq1, Bq2, Bq3, Bq4, Bq5, Bq6, Bq7, Bq8, Bq9, Bq10, Bq11, Bq12] at *
                refine WC_pick (.s (.s (.z))) ?_
                refine WC_pick (.s (.s (.z))) ?_
                refine WC_pick (.s (.s (.z))) ?_
                refine WC_pick (.s (.s (.s (.s (.s (.s (.z))))))) ?_
                refine WC_pick (.s (.s (.s (.s (.s (.s (.z))))))) ?_
                refine WC_pick (.s (.s (.s (.s (.s (.s (.z))))))) ?_
                refine WC_pick (.s (.s (.s (.s (.s (.s (.z))))))) ?_
                refine WC_draw _ _ [12] (.c 0 0 (.c 1 0 (.c 2 0 (.c 3 0 (.c 4 0 (.c 5 0 (.c 6 2 (.c 7 0 (.c 8 0 (.c 9 2 (.c 10 0 (.c 11 0 (.c 12 3 .nil))))))))))))) mixed (fun _ _ _ _ h => h) (List.Sublist.cons_cons _ (List.Sublist.cons_cons _ (List.Sublist.cons_cons _ (List.Sublist.cons_cons _ (List.Sublist.cons_cons _ (List.Sublist.cons_cons _ (List.Sublist.cons_cons _ (List.Sublist.refl _)))))))) (fun _ h => h) (by kernel_rfl) (by decide) fun ws Z0 => ?_
                refine Qe rfl (q_move rfl) ?_
                refine Qe rfl (q_field (o' := 3) Tryd.underlying31 rfl ti3 rfl rfl) ?_
                refine Qe rfl (q_load1 Tryd.underlying3 rfl rfl own0 rfl) ?_
                refine Qe rfl (q_field (o' := 3) Tryd.underlying31 rfl ti3 rfl rfl) ?_
                refine Qe rfl (q_load1 Tryd.underlying3 rfl rfl own0 rfl) ?_
                refine Qe rfl (q_loadN (vs := [_, _, _, _, _, _, _, _, _]) Tryd.underlying31 rfl ti31 rfl (ownS (ownS (ownS (own0)))) rfl rfl) ?_
                refine WE_main rfl rfl (OW_call0 (width_s o A1 c1 (by have := ho.text; omega)) (.cons rfl (.nil)) (by decide) (memc (.tail _ (.tail _ (.tail _ (.tail _ (.tail _ (.tail _ (.head _))))))) mem0) fun u21_6 Lo fs hres => ?_)
                obtain ⟨rfl, rfl, rfl⟩ := hres
                refine ⟨⟨(List.Sublist.cons_cons _ (List.Sublist.cons_cons _ (List.Sublist.cons_cons _ (List.Sublist.cons_cons _ (List.Sublist.cons_cons _ (List.Sublist.cons_cons _ (List.Sublist.cons_cons _ (List.Sublist.refl _)))))))), (.head _)⟩, ?_⟩
                refine Qe rfl (q_add rfl rfl (show IntKind.i64.wrap (td.at_ + widthF o) = td.at_ + widthF o from wr64 (by have := htf.lo; have := htf.hi; have := widthF_le o; omega))) ?_
                refine Qe rfl (q_build (.cons rfl (.cons rfl (.nil))) (bd37_0_1Xw18 _ _)) ?_
                refine WE_main rfl rfl (OW_slice1 (cs := [_, _]) Tryd.underlying29 ti37 (by decide) (by decide) rfl rfl rfl rfl (by decide) fun b114 => ?_)
                refine ⟨⟨(List.Sublist.cons _ (List.Sublist.cons_cons _ (List.Sublist.cons_cons _ (List.Sublist.cons_cons _ (List.Sublist.cons_cons _ (List.Sublist.cons_cons _ (List.Sublist.cons_cons _ (List.Sublist.cons_cons _ (List.Sublist.refl _))))))))), (.head _)⟩, ?_⟩
                refine Qe rfl (q_nil rfl) ?_
                refine Qe rfl (q_field (o' := 1) Tryd.underlying101 rfl ti29 rfl rfl) ?_
                refine WE_freeze1 (e := rgD) (u := ⟨td.at_, td.at_ + widthF o⟩) (.z) (fun Z w hs => rfl) ?_
                refine WE_end (WF_last rfl rfl (OW_store1 ti29 rfl rfl rfl (.s (.z)) (.s (.z)) ?_))
                refine WF_nil ?_
                refine blockN (thenK ?_)
                refine ⟨(setNow H.ents ls H.ents.length, Lk, [⟨td.at_, td.at_ + widthF o⟩], some ⟨b114, 0, none⟩, 1, { effF o with at_ := td.at_, text := o.text }, none, 0), ?_, (.cons rfl (.cons rfl (.cons rfl (.cons rfl (.cons rfl (.cons rfl (.cons rfl (.nil _)))))))), (List.Sublist.cons_cons _ (List.Sublist.cons_cons _ (List.Sublist.cons_cons _ (List.Sublist.cons_cons _ (List.Sublist.cons_cons _ (List.Sublist.cons_cons _ (List.Sublist.cons_cons _ (List.Sublist.refl _)))))))), (memc (.tail _ (.tail _ (.tail _ (.tail _ (.tail _ (.tail _ (.head _))))))) (memc (.head _) (memc (.tail _ (.tail _ (.head _))) (fun _ h => .tail _ (.tail _ (.tail _ (.tail _ h)))))))⟩
                have hkk : k = ls.length := by have := hI.2.2; omega
                subst hkk
                refine ⟨by rw [← hlsl]; exact hI.1, hI.2.1, ?_, setNow_ops _ _ _, by show (1 : Nat) ≤ _; omega⟩
                unfold midF
                rw [if_pos h57, hmv]
        · refine WC_seq (WC_region ?_)
          refine Lq (q_eql rfl rfl) ?_
          refine Lq (q_assign rfl) ?_
          refine WL_nil (thenN ?_)
          refine WC_cond rfl (fun h117 => ?_) (fun h117 => ?_)
          · refine WC_seq ?_
            refine WC_elem (k := 0) (.head _) rfl (op_open _) fun b23 q23 y23 e23 => ?_
            cases e23
            refine WC_region ?_
            refine Lq (q_move rfl) ?_
            refine Lq (q_idxRd Tryd.underlying45 ti31 rfl rfl (by decide) (by simp)) ?_
            refine Lq (q_field (o' := _ + 5) Tryd.underlying31 rfl ti29 rfl rfl) ?_
            refine Lq (q_loadF1 (j := 5) Tryd.underlying29 rfl rfl (.head _) rfl rfl) ?_
            refine Lq (q_field (o' := 5) Tryd.underlying31 rfl ti29 rfl rfl) ?_
            refine WL_main rfl (OW_store1 ti29 rfl rfl rfl (.s (.s (.s (.s (.s (.z)))))) (.z) ?_)
            refine WL_nil (thenN ?_)
            refine WC_fr [(13, _), (12, _), (10, _), (7, _), (6, _), (5, _), (0, _), (1, _)] (.cons rfl (.cons rfl (.cons rfl (.cons rfl (.cons rfl (.cons rfl (.cons rfl (.cons rfl (.nil _))))))))) ?_
            refine WC_pick (.s (.s (.s (.s (.z))))) ?_
            refine WC_pick (.s (.s (.s (.s (.z))))) ?_
            refine WC_pick (.s (.s (.s (.s (.z))))) ?_
            refine WC_pick (.s (.s (.s (.s (.s (.s (.z))))))) ?_
            refine WC_pick (.s (.s (.s (.s (.s (.s (.z))))))) ?_
            refine WC_pick (.s (.s (.s (.s (.s (.s (.z))))))) ?_
            refine WC_pick (.s (.s (.s (.s (.s (.s (.z))))))) ?_
            refine WC_region ?_
            refine Lq (q_move rfl) ?_
            refine Lq (q_loadN (vs := [_, _, _, _, _, _, _, _, _]) Tryd.underlying31 rfl ti31 rfl own0 rfl rfl) ?_
            refine WL_main rfl (OW_call0 (clone_s { effF o with rs := td.rs } y23.1 y23.2 htf.rs) (.cons rfl (.nil)) (by decide) (memc (.tail _ (.head _)) mem0) fun u24_2 Lo fs hres => ?_)
            obtain ⟨A5, c5, rfl, rfl, rfl⟩ := hres
            refine Lq (q_part rfl (fd31_3Xw18 _ _ _ _ _ _ _ _ _ _ _)) ?_
            refine Lq (q_nil rfl) ?_
            refine Lq (q_field (o' := 1) Tryd.underlying101 rfl ti29 rfl rfl) ?_
            refine WL_main rfl (OW_store1 ti29 rfl rfl rfl (.s (.z)) (.s (.z)) ?_)
            refine WL_nil (blockN (thenK ?_))
            refine ⟨(H.ents, L, td.rs, A5, c5, { effF o with rs := td.rs }, y23.1, y23.2), ?_, (.cons rfl (.cons rfl (.cons rfl (.cons rfl (.cons rfl (.cons rfl (.cons rfl (.nil _)))))))), (List.Sublist.cons_cons _ (List.Sublist.cons_cons _ (List.Sublist.cons_cons _ (List.Sublist.cons_cons _ (List.Sublist.cons_cons _ (List.Sublist.cons_cons _ (List.Sublist.cons_cons _ (List.Sublist.refl _)))))))), (memc (.tail _ (.tail _ (.head _))) (memc (.head _) (memc (.tail _ (.tail _ (.tail _ (.tail _ (.tail _ (.tail _ (.tail _ (.tail _ (.tail _ (.tail _ (.tail _ (.tail _ (.head _))))))))))))) (memc (.tail _ (.tail _ (.tail _ (.tail _ (.head _))))) (fun _ h => .tail _ (.tail _ (.tail _ (.tail _ (.tail _ (.tail _ (.tail _ (.tail _ h))))))))))))⟩
            try simp only [Bq0, Bq1, Bq2, Bq3, Bq4, Bq5, Bq6, Bq7, Bq8, Bq9, Bq10, Bq11, Bq12] at *
            refine ⟨hr, rfl, ?_, rfl, htf.rs⟩
            unfold midF
            rw [if_neg h57, if_pos h117]
          · refine WC_seq (WC_region ?_)
            refine Lq (q_eql rfl rfl) ?_
            refine Lq (q_assign rfl) ?_
            refine WL_nil (thenN ?_)
            refine WC_fr [(130, _), (13, _), (12, _), (10, _), (7, _), (6, _), (5, _), (0, _), (1, _)] (.cons rfl (.cons rfl (.cons rfl (.cons rfl (.cons rfl (.cons rfl (.cons rfl (.cons rfl (.cons rfl (.nil _)))))))))) ?_
            refine WC_cond rfl (fun h130 => ?_) (fun h130 => ?_)
            · try simp only [Bq0, Bq1, Bq2, Bq3, Bq4, Bq5, Bq6, Bq7, Bq8, Bq9, Bq10, Bq11, Bq12] at *
              obtain ⟨kt, hkt⟩ := htgt h130
              refine WC_region ?_
              refine Lq (q_move rfl) ?_
              refine Lq (q_move rfl) ?_
              refine Lq (q_loadN (vs := [_, _, _, _, _, _, _, _, _]) Tryd.underlying31 rfl ti31 rfl (ownS (ownS (ownS (ownS (ownS (ownS (own0))))))) rfl rfl) ?_
              refine WL_main rfl (OW_call3 (turned_s h m cap A H L hr i hil o A1 c1 kt hkt) (.cons rfl (.cons rfl (.cons rfl (.nil)))) (by decide) (.s (.s (.z))) (.s (.s (.z))) (.s (.s (.z))) (memc (.tail _ (.tail _ (.tail _ (.tail _ (.tail _ (.tail _ (.tail _ (.tail _ (.head _))))))))) (memc (.tail _ (.tail _ (.tail _ (.tail _ (.tail _ (.tail _ (.tail _ (.tail _ (.tail _ (.head _)))))))))) mem0)) fun u26_3 Lo fs hres => ?_)
              obtain ⟨L2, A4, c4, hr2, hk2, rfl, rfl, rfl⟩ := hres
              refine WL_pick (.s (.s (.z))) ?_
              refine WL_pick (.s (.s (.z))) ?_
              refine WL_pick (.s (.s (.z))) ?_
              refine WL_pick (.s (.s (.s (.s (.s (.s (.z))))))) ?_
              refine WL_pick (.s (.s (.s (.s (.s (.s (.z))))))) ?_
              refine WL_pick (.s (.s (.s (.s (.s (.s (.z))))))) ?_
              refine WL_pick (.s (.s (.s (.s (.s (.s (.z))))))) ?_
              refine WL_main rfl (OW_storeN (cs' := [_, _, _, _, _, _, _, _, _]) (vs := [_, _, _, _, _, _, _, _, _]) ti31 rfl rfl rfl rfl rfl (Nat.le_of_ble_eq_true rfl) (.z) ?_)
              refine WL_nil (blockN (thenK ?_))
              refine ⟨((turnedF H i o).1, L2, [], none, 0, (turnedF H i o).2, A4, c4), ?_, (.cons rfl (.cons rfl (.cons rfl (.cons rfl (.cons rfl (.cons rfl (.cons rfl (.nil _)))))))), (List.Sublist.cons_cons _ (List.Sublist.cons_cons _ (List.Sublist.cons_cons _ (List.Sublist.cons_cons _ (List.Sublist.cons_cons _ (List.Sublist.cons_cons _ (List.Sublist.cons_cons _ (List.Sublist.refl _)))))))), (memc (.head _) (memc (.tail _ (.tail _ (.tail _ (.tail _ (.tail _ (.tail _ (.tail _ (.tail _ (.head _))))))))) (memc (.tail _ (.head _)) (memc (.tail _ (.tail _ (.tail _ (.head _)))) (fun _ h => .tail _ (.tail _ (.tail _ (.tail _ (.tail _ (.tail _ (.tail _ h)))))))))))⟩
              refine ⟨hr2, hk2, ?_, turned_ops H i o, by show (0 : Nat) ≤ _; omega⟩
              unfold midF
              rw [if_neg h57, if_neg h117, if_pos h130]
            · try simp only [Bq0, Bq1, Bq2, Bq3, Bq4, Bq5, Bq6, Bq7, Bq8, Bq9, Bq10, Bq11, Bq12] at *
              exfalso
              omega
      · rintro ⟨es, L1, nw, An, cn, eff, Ae, ce⟩ hM
        refine WC_seq ?_
        refine WC_draw _ _ [9] (.c 0 0 (.c 1 0 (.c 2 0 (.c 3 0 (.c 4 0 (.c 5 2 (.c 6 0 (.c 7 0 (.c 8 0 (.c 9 3 .nil)))))))))) mixed (fun _ _ _ _ h => h) (List.Sublist.cons_cons _ (List.Sublist.cons_cons _ (List.Sublist.cons_cons _ (List.Sublist.cons_cons _ (List.Sublist.cons_cons _ (List.Sublist.cons_cons _ (List.Sublist.cons_cons _ (List.Sublist.refl _)))))))) (fun _ h => h) (by kernel_rfl) (by decide) fun ws Z0 => ?_
        refine Qe rfl (q_move rfl) ?_
        refine Qe rfl (q_nil rfl) ?_
        refine Qe rfl (q_field (o' := 2) Tryd.underlying97 rfl ti3 rfl rfl) ?_
        refine Qe rfl (q_load1 Tryd.underlying3 rfl rfl (ownS (ownS (ownS (ownS (own0))))) rfl) ?_
        refine Qe rfl (q_loadN (vs := [_, _, _, _, _, _, _, _, _]) Tryd.underlying31 rfl ti31 rfl (ownS (ownS (ownS (own0)))) rfl rfl) ?_
        refine WE_main rfl rfl (OW_call0 (width_s o A1 c1 (by have := ho.text; omega)) (.cons rfl (.nil)) (by decide) (memc (.tail _ (.tail _ (.tail _ (.tail _ (.tail _ (.tail _ (.tail _ (.head _)))))))) mem0) fun u27_5 Lo fs hres => ?_)
        obtain ⟨rfl, rfl, rfl⟩ := hres
        refine ⟨⟨(List.Sublist.cons_cons _ (List.Sublist.cons_cons _ (List.Sublist.cons_cons _ (List.Sublist.cons_cons _ (List.Sublist.cons_cons _ (List.Sublist.cons_cons _ (List.Sublist.cons_cons _ (List.Sublist.refl _)))))))), (.head _)⟩, ?_⟩
        refine Qe rfl (q_add rfl rfl (wr64 (by have := hr.tot; have := widthF_le o; omega))) ?_
        refine Qe rfl (q_nil rfl) ?_
        refine Qe rfl (q_field (o' := 2) Tryd.underlying97 rfl ti3 rfl rfl) ?_
        refine WE_end (WF_last rfl rfl (OW_store1 ti3 rfl rfl rfl (.s (.s (.z))) (.s (.s (.s (.s (.z))))) ?_))
        refine WF_nil ?_
        refine thenN (WC_seq ?_)
        refine WC_draw _ _ [8] (.c 0 0 (.c 1 0 (.c 2 0 (.c 3 0 (.c 4 0 (.c 5 0 (.c 6 0 (.c 7 0 (.c 8 3 .nil))))))))) mixed (fun _ _ _ _ h => h) (List.Sublist.cons_cons _ (List.Sublist.cons_cons _ (List.Sublist.cons_cons _ (List.Sublist.cons_cons _ (List.Sublist.cons_cons _ (List.Sublist.cons _ (List.Sublist.cons_cons _ (List.Sublist.refl _)))))))) (fun _ h => h) (by kernel_rfl) (by decide) fun ws Z0 => ?_
        refine Qe rfl (q_move rfl) ?_
        refine Qe rfl (q_nil rfl) ?_
        refine Qe rfl (q_field (o' := 1) Tryd.underlying97 rfl ti95 rfl rfl) ?_
        refine Qe rfl (q_load1 Tryd.underlying95 rfl rfl (ownS (ownS (ownS (ownS (own0))))) rfl) ?_
        refine Qe rfl (q_field (o' := 0) Tryd.underlying31 rfl ti28 rfl rfl) ?_
        refine Qe rfl (q_field (o' := 0) Tryd.underlying28 rfl ti25 rfl rfl) ?_
        refine Qe rfl (q_loadN (vs := [_, _]) Tryd.underlying25 rfl ti25 rfl (ownS (ownS (ownS (own0)))) rfl rfl) ?_
        refine Qe rfl (q_move rfl) ?_
        refine WE_end (WF_last rfl rfl (OW_mapNew keyT Tryd.underlying95 rfl rfl rfl (hr.look0 hw0) (.s (.s (.s (.s (.s (.z)))))) ?_))
        refine WF_nil ?_
        refine thenN ?_
        refine WC_fr [(0, _), (1, _), (5, _), (6, _), (10, _), (13, _)] (.cons rfl (.cons rfl (.cons rfl (.cons rfl (.cons rfl (.cons rfl (.nil _))))))) ?_
        refine WC_seq ?_
        obtain ⟨xs, hxs⟩ : ∃ xs, xs = H.ops.take i := ⟨_, rfl⟩
        have hxl : xs.length = i := by rw [hxs, List.length_take]; omega
        obtain ⟨B2, hB2⟩ : ∃ B, B = cutA A 0 i 9 := ⟨_, rfl⟩
        refine WC_fact (A := RdF opD B2 xs.length xs) (fun Z w hs => by rw [hB2, hxl, hxs]; exact RdS.cut (lo := 0) (hi := i) (m := i) (hs.facts _ (.tail _ (.tail _ (.tail _ (.tail _ (.tail _ (.tail _ (.tail _ (.tail _ (.tail _ (.head _))))))))))) (Nat.zero_le _) (by omega) (Nat.le_refl _) (by omega)) ?_
        refine WC_draw _ _ [15] (.c 0 0 (.c 1 0 (.c 2 0 (.c 3 0 (.c 4 0 (.c 5 0 (.c 6 0 (.c 7 0 (.c 8 0 (.c 11 0 (.c 9 2 (.c 10 2 (.c 12 2 (.c 13 0 (.c 14 0 (.c 15 3 .nil)))))))))))))))) mixed (fun _ _ _ _ h => h) (List.Sublist.cons_cons _ (List.Sublist.cons_cons _ (List.Sublist.cons_cons _ (List.Sublist.cons_cons _ (List.Sublist.cons_cons _ (List.Sublist.cons_cons _ (List.Sublist.cons_cons _ (List.Sublist.refl _)))))))) (fun _ h => h) (by kernel_rfl) (by decide) fun ws Z0 => ?_
        refine Qe rfl (q_move rfl) ?_
        refine Qe rfl (q_move rfl) ?_
        refine Qe rfl (q_nil rfl) ?_
        refine Qe rfl (q_field (o' := 0) Tryd.underlying97 rfl ti45 rfl rfl) ?_
        refine Qe rfl (q_load1 Tryd.underlying45 rfl rfl (ownS (ownS (ownS (ownS (own0))))) rfl) ?_
        refine Qe rfl (q_move rfl) ?_
        refine Qe rfl (q_move rfl) ?_
        refine Qe rfl (q_cutHiMax Tryd.underlying45 ti31 rfl rfl rfl (by omega) (by omega) (by omega)) ?_
        refine Qe rfl (q_loadN (vs := [_, _, _, _, _, _, _, _, _]) Tryd.underlying31 rfl ti31 rfl (ownS (ownS (ownS (own0)))) rfl rfl) ?_
        refine Qe rfl (q_move rfl) ?_
        refine WE_main rfl rfl (OW_slice1 (cs := [_, _, _, _, _, _, _, _, _]) Tryd.underlying45 ti31 (by decide) (by decide) rfl rfl rfl rfl (by decide) fun b162 => ?_)
        refine ⟨⟨(List.Sublist.cons _ (List.Sublist.cons_cons _ (List.Sublist.cons_cons _ (List.Sublist.cons_cons _ (List.Sublist.cons_cons _ (List.Sublist.cons_cons _ (List.Sublist.cons_cons _ (List.Sublist.cons_cons _ (List.Sublist.refl _))))))))), (.head _)⟩, ?_⟩
        refine WE_main rfl rfl (OW_appendF (e := opD) (xs := xs) (news := opC o A1 c1) Tryd.underlying45 ti31 rfl (by decide) (by rw [hB2, hxl]; rfl) rfl (.tail _ (.head _)) own0 rfl rfl (by omega) (by unfold maxLen; omega) (by decide) fun v163 p163 css163 hr163 => ?_)
        refine ⟨⟨(List.Sublist.cons _ (List.Sublist.cons _ (List.Sublist.cons_cons _ (List.Sublist.cons_cons _ (List.Sublist.cons_cons _ (List.Sublist.cons_cons _ (List.Sublist.cons_cons _ (List.Sublist.cons_cons _ (List.Sublist.cons_cons _ (List.Sublist.refl _)))))))))), (.tail _ (.head _))⟩, ?_⟩
        refine WE_main rfl rfl (OW_appendS (e := opD) (ys := later) Tryd.underlying45 ti31 rfl (by decide) rfl rfl hr163 (.tail _ (.tail _ (.tail _ (.tail _ (.tail _ (.tail _ (.tail _ (.tail _ (.head _))))))))) (by omega) (by unfold maxLen; omega) (by decide) (DelAt.perm (.z)) fun v165 p165 css165 hr165 => ?_)
        refine ⟨⟨(List.Sublist.cons _ (List.Sublist.cons _ (List.Sublist.cons_cons _ (List.Sublist.cons_cons _ (List.Sublist.cons_cons _ (List.Sublist.cons_cons _ (List.Sublist.cons_cons _ (List.Sublist.cons_cons _ (List.Sublist.cons_cons _ (List.Sublist.refl _)))))))))), (.tail _ (.tail _ (.head _)))⟩, ?_⟩
        refine Qe rfl (q_nil rfl) ?_
        refine Qe rfl (q_field (o' := 0) Tryd.underlying97 rfl ti45 rfl rfl) ?_
        refine WE_fact (A := RepsF opD (xs ++ ([o] ++ later)) (css163 ++ ([opC o A1 c1] ++ css165))) (fun Z w hs => Reps.append (hs.facts _ (.tail _ (.head _))) (Reps.append (.cons ⟨A1, c1, rfl, hs.facts _ (.tail _ (.tail _ (.tail _ (.tail _ (.tail _ (.tail _ (.tail _ (.tail _ (.tail _ (.tail _ (.head _)))))))))))⟩ .nil) (hs.facts _ (.head _)))) ?_
        refine WE_freeze (e := opD) (css := css163 ++ ([opC o A1 c1] ++ css165)) (xs := xs ++ ([o] ++ later)) (by have h1 := hr165; simp only [List.flatten_append, List.flatten_cons, List.flatten_nil, List.append_nil, List.nil_append, List.append_assoc] at h1 ⊢; exact h1) (.z) (by simp only [List.length_append, List.length_cons, List.length_nil]; omega) (.head _) fun A9 c9 e9 => ?_
        subst e9
        refine WE_end (WF_last rfl rfl (OW_store1 ti45 rfl rfl rfl (.z) (.s (.s (.s (.s (.s (.z)))))) ?_))
        refine WF_nil ?_
        refine thenN ?_
        refine WC_fr [(0, _), (1, _), (6, _), (13, _)] (.cons rfl (.cons rfl (.cons rfl (.cons rfl (.nil _))))) ?_
        refine WC_seq (WC_seq ?_)
        refine WC_pick (.s (.s (.s (.s (.s (.s (.s (.z)))))))) ?_
        refine WC_pick (.s (.s (.s (.z)))) ?_
        refine WC_glue ?_
        have hglue : mkP L1 ++ [(b48, cellsO [.int .i64 i, .slice An nw.length cn, .bool false] 101)] = mkP (L1 ++ [⟨markAt i ⟨o, nw, false⟩, b48, An, cn⟩]) := by simp [mkP, mrO, markAt]
        rw [hglue]
        refine WC_fact (A := AllF (L1 ++ [⟨markAt i ⟨o, nw, false⟩, b48, An, cn⟩]) nowF) (fun Z w hs x hx => by rcases List.mem_append.1 hx with hx | hx; exact hs.facts _ (.tail _ (.tail _ (.tail _ (.tail _ (.tail _ (.tail _ (.tail _ (.tail _ (.tail _ (.tail _ (.head _))))))))))) x hx; obtain rfl := List.mem_singleton.1 hx; exact hs.facts _ (.tail _ (.tail _ (.tail _ (.tail _ (.tail _ (.tail _ (.tail _ (.tail _ (.tail _ (.head _))))))))))) ?_
        have hesl : es.length = H.ents.length := hM.len
        have hsl2 : Sames ((es.drop i).map (·.op)) later := by rw [List.map_drop, hM.ops]; exact hsl
        have hwn : whereId es o.c o.n = none := whereId_ops hM.ops hw0
        obtain ⟨FF, hFF⟩ : ∃ F, F = newEnts i o nw es later := ⟨_, rfl⟩
        obtain ⟨G, hG⟩ : ∃ G, G = xs ++ ([o] ++ later) := ⟨_, rfl⟩
        have hGF : FF.map (·.op) = G := by rw [hFF, newEnts_ops hsl2, hM.ops, hG, hxs]
        have hGl : G.length = FF.length := by rw [← hGF, List.length_map]
        have hFl : FF.length = H.ents.length + 1 := by rw [hFF, newEnts_length hsl2 (by omega)]; omega
        have hstart := HN.start hM.hr (by simpa using (by omega : i ≤ es.length)) hsl2 hwn (o := o) (nw := nw) b48 An cn
        rw [← hFF] at hstart
        rw [← hG]
        refine WC_region ?_
        refine Lq (q_move rfl) ?_
        refine Lq (q_assign rfl) ?_
        refine WL_nil (thenN (WC_block ?_))
        refine WC_pick (.s (.s (.s (.z)))) ?_
        refine WC_pick (.s (.s (.s (.z)))) ?_
        refine WC_pick (.s (.s (.s (.s (.s (.s (.z))))))) ?_
        refine WC_pick (.s (.s (.s (.s (.s (.s (.z))))))) ?_
        refine WC_pick (.s (.s (.s (.s (.z))))) ?_
        refine WC_loopE (α := Nat × List MR) (fun (k, Lk) => FF.length - k)
          (fun (k, Lk) => [(0, .pointer (some ⟨h, 0, none⟩)), (6, .pointer (some ⟨b6, 0, none⟩)), (13, .pointer (some ⟨b13, 0, none⟩)), (18, .int .i64 k)])
          (fun (k, Lk) => (mkP Lk :: hdP h A9 G.length c9 m (H.total + widthF o) :: [(m, mapO (keys L ++ [⟨o.c, o.n, b48⟩]))] :: [(b13, cellsO (opC eff Ae ce) 31)] :: [(b6, cellsO (opC zeroOp none 0) 31)] :: Ps))
          (fun (k, Lk) => (AllF Lk nowF :: RdF opD A9 c9 G :: RdF rgD Ae ce eff.rs :: barF :: RdF opD A cap H.ops :: AllF L nowF :: RdF rgD Ao co o.rs :: As))
          (fun (k, Lk) => k ≤ FF.length ∧ HN FF Lk (numF i k) ∧ keys Lk = keys L ++ [⟨o.c, o.n, b48⟩])
          (i, L1 ++ [⟨markAt i ⟨o, nw, false⟩, b48, An, cn⟩]) ?_ (.cons rfl (.cons rfl (.cons rfl (.cons rfl (.nil _))))) (List.Sublist.cons_cons _ (List.Sublist.cons_cons _ (List.Sublist.cons_cons _ (List.Sublist.cons_cons _ (List.Sublist.cons_cons _ (List.Sublist.cons _ (List.Sublist.cons _ (List.Sublist.refl _)))))))) (memc (.head _) (memc (.tail _ (.head _)) (memc (.tail _ (.tail _ (.tail _ (.tail _ (.tail _ (.tail _ (.tail _ (.tail _ (.tail _ (.head _)))))))))) (fun _ h => .tail _ (.tail _ (.tail _ (.tail _ (.tail _ (.tail _ (.tail _ (.tail _ (.tail _ (.tail _ (.tail _ (.tail _ (.tail _ (.tail _ (.tail _ h)))))))))))))))))) ?_
        · exact ⟨by omega, hstart, by unfold keys; rw [List.map_append]; show Go.Proofs.YtggdddkbhigjoaaDoor.keys L1 ++ _ = _; rw [show Go.Proofs.YtggdddkbhigjoaaDoor.keys L1 = keys L from hM.keys]; rfl⟩
        · rintro ⟨k, Lk⟩ hI
          have hkF : k ≤ FF.length := hI.1
          refine WC_seq (WC_seq (WC_region ?_))
          refine Lq (q_move rfl) ?_
          refine Lq (q_move rfl) ?_
          refine Lq (q_nil rfl) ?_
          refine Lq (q_field (o' := 0) Tryd.underlying97 rfl ti45 rfl rfl) ?_
          refine Lq (q_load1 Tryd.underlying45 rfl rfl (ownS (own0)) rfl) ?_
          refine Lq (q_len Tryd.underlying45 rfl) ?_
          refine Lq (q_lss rfl rfl) ?_
          refine WL_nil (thenN ?_)
          refine WC_cond rfl (fun h175 => ?_) (fun h175 => ?_)
          · refine WC_skip (thenN (WC_seq (WC_block ?_)))
            try simp only [Bq0, Bq1, Bq2, Bq3, Bq4, Bq5, Bq6, Bq7, Bq8, Bq9, Bq10, Bq11, Bq12] at *
            have hk : k < FF.length := by omega
            have hko : k < G.length := by omega
            have hop : G[k] = FF[k].op := by simp only [← hGF, List.getElem_map]
            refine WC_elem (k := k) (.tail _ (.head _)) (List.getElem?_eq_getElem hko) (op_open _) fun bo qo yo eo => ?_
            cases eo
            obtain ⟨jm, xm, hjm, hxm, hgm⟩ := hI.2.1.look hk
            obtain ⟨xk, xb, xA, xc⟩ := xm
            obtain rfl : xk = markAt (numF i k k) FF[k] := hxm
            rw [← hop, hI.2.2] at hgm
            refine WC_draw _ _ [17] (.c 0 0 (.c 1 0 (.c 2 0 (.c 3 0 (.c 4 0 (.c 5 0 (.c 6 0 (.c 7 0 (.c 8 0 (.c 9 0 (.c 10 0 (.c 11 0 (.c 12 0 (.c 13 0 (.c 14 0 (.c 15 0 (.c 16 0 (.c 17 3 .nil)))))))))))))))))) mixed (fun _ _ _ _ h => h) (List.Sublist.cons _ (List.Sublist.cons_cons _ (List.Sublist.cons_cons _ (List.Sublist.cons_cons _ (List.Sublist.cons_cons _ (List.Sublist.refl _)))))) (fun _ h => h) (by kernel_rfl) (by decide) fun ws Z0 => ?_
            refine Qe rfl (q_move rfl) ?_
            refine Qe rfl (q_nil rfl) ?_
            refine Qe rfl (q_field (o' := 1) Tryd.underlying97 rfl ti95 rfl rfl) ?_
            refine Qe rfl (q_load1 Tryd.underlying95 rfl rfl own0 rfl) ?_
            refine Qe rfl (q_move rfl) ?_
            refine Qe rfl (q_nil rfl) ?_
            refine Qe rfl (q_field (o' := 0) Tryd.underlying97 rfl ti45 rfl rfl) ?_
            refine Qe rfl (q_load1 Tryd.underlying45 rfl rfl own0 rfl) ?_
            refine Qe rfl (q_move rfl) ?_
            refine Qe rfl (q_idxRd Tryd.underlying45 ti31 rfl rfl (by omega) (by omega)) ?_
            refine Qe rfl (q_field (o' := _ + 0) Tryd.underlying31 rfl ti28 rfl rfl) ?_
            refine Qe rfl (q_field (o' := _ + 0) Tryd.underlying28 rfl ti25 rfl rfl) ?_
            refine Qe rfl (q_loadFN (k := 0) (vs := [_, _]) Tryd.underlying25 rfl ti25 rfl (.head _) rfl rfl rfl) ?_
            refine Qe rfl (q_lookS keyT hgm Tryd.underlying95 ti99 rfl rfl (ownS (own0))) ?_
            refine Qe rfl (q_move rfl) ?_
            refine Qe rfl (q_nil rfl) ?_
            refine Qe rfl (q_field (o' := 0) Tryd.underlying101 rfl ti3 rfl rfl) ?_
            refine WE_end (WF_last rfl rfl (OW_storeP (i := jm) ti3 rfl rfl rfl (mkP_get hjm) (.z) (.z) ?_))
            refine WF_nil ?_
            refine blockN (thenN ?_)
            have hmk : (mkP Lk).set jm (xb, cellsO [.int .i64 (k : Int), .slice xA (markAt (numF i k k) FF[k]).now.length xc, .bool (markAt (numF i k k) FF[k]).off] 101) = mkP (Lk.set jm ⟨markAt k FF[k], xb, xA, xc⟩) := by rw [mkP_set]; rfl
            rw [hmk]
            refine WC_fact (A := AllF (Lk.set jm ⟨markAt k FF[k], xb, xA, xc⟩) nowF) (fun Z w hs => now_set (hs.facts _ (.tail _ (.tail _ (.tail _ (.head _))))) (hs.facts _ (.tail _ (.tail _ (.tail _ (.head _)))) ⟨markAt (numF i k k) FF[k], xb, xA, xc⟩ (List.mem_of_getElem? hjm))) ?_
            refine WC_region ?_
            refine Lq (q_move rfl) ?_
            refine Lq (q_add rfl rfl (wr64 (by omega))) ?_
            refine Lq (q_assign rfl) ?_
            refine WL_nil (thenK ?_)
            refine ⟨(k + 1, Lk.set jm ⟨markAt k FF[k], xb, xA, xc⟩), ?_, (.cons rfl (.cons rfl (.cons rfl (.cons rfl (.nil _))))), (List.Sublist.cons_cons _ (List.Sublist.cons_cons _ (List.Sublist.cons_cons _ (List.Sublist.cons_cons _ (List.Sublist.cons_cons _ (List.Sublist.refl _)))))), (memc (.head _) (fun _ h => .tail _ (.tail _ (.tail _ (.tail _ (.tail _ h))))))⟩
            exact ⟨by show FF.length - (k + 1) < FF.length - k; omega, by show k + 1 ≤ FF.length; omega, (hI.2.1.upd hk hjm rfl).next, (keys_set (y := ⟨markAt k FF[k], xb, xA, xc⟩) hjm rfl rfl rfl).trans hI.2.2⟩
          · refine WC_exit (thenExit (thenExit (blockHit (thenN (WC_seq (WC_region ?_))))))
            refine Lq (q_loadN (vs := [_, _, _, _, _, _, _, _, _]) Tryd.underlying31 rfl ti31 rfl (ownS (ownS (ownS (own0)))) rfl rfl) ?_
            refine WL_main rfl (OW_storeN (cs' := [_, _, _, _, _, _, _, _, _]) (vs := [_, _, _, _, _, _, _, _, _]) ti31 rfl rfl rfl rfl rfl (Nat.le_of_ble_eq_true rfl) (.s (.s (.s (.s (.z))))) ?_)
            refine Lq (q_assign rfl) ?_
            refine WL_nil (thenN (WC_ret ?_))
            refine ⟨_, [_, _, _], [_, _, _], fun Z w hs => RV_ownN hs Tryd.underlying31 rfl ti31 rfl (ownS (ownS (ownS (ownS (own0))))) rfl (.tmp rfl (.nil)), ?_, fun Z w hs => (((hs.pick (.z)).pick (.s (.s (.z)))).pick (.s (.s (.z)))).out (List.Sublist.cons_cons _ (List.Sublist.cons_cons _ (List.Sublist.cons_cons _ (List.Sublist.cons _ (List.Sublist.cons _ (List.Sublist.refl _)))))) (memc (.tail _ (.tail _ (.head _))) (memc (.tail _ (.head _)) (memc (.head _) (fun _ h => .tail _ (.tail _ (.tail _ h))))))⟩
            try simp only [Bq0, Bq1, Bq2, Bq3, Bq4, Bq5, Bq6, Bq7, Bq8, Bq9, Bq10, Bq11, Bq12] at *
            have hkl : ¬ k < FF.length := by omega
            have hF := put_4 h24 hX htd hM.mid
            rw [Int.toNat_natCast, ← hlater, ← hFF] at hF
            have hRR : HR ⟨FF, H.total + widthF o⟩ Lk := by
              have hn := hI.2.1
              rw [hFF] at hn hkl ⊢
              exact HR.put hM hsl2 hfl ho hwid hlt htot hil hn hkl
            have hGG : (⟨FF, H.total + widthF o⟩ : Hist).ops = G := hGF
            have hkeys : [(m, mapO (keys L ++ [⟨o.c, o.n, b48⟩]))] = mpP m Lk := by unfold mpP; rw [hI.2.2]
            refine ⟨Lk, A9, c9, Ae, ce, by rw [hF]; exact hRR, by rw [hF]; rfl, ?_, ?_⟩
            · rw [hF]; simp only [hGG, hkeys]
            · rw [hF]; simp only [hGG]

end Go.Proofs.YtggdddkbhigjoaaDoor
/- Walks: the law's words. -/
namespace Go.Proofs.YtggdddkbhigjoaaDoor
open Go Go.GW
set_option maxRecDepth 10000 in
theorem lown_s (o : GOp) (A : Option Addr) (c : Nat) (hl : o.rs.length ≤ 4398046511104) : Sp Tryd.prog 12 [opV o A c] [] [RdF rgD A c o.rs] (fun v Lo fs => ∃ A' c', v = opV o A' c' ∧ Lo = [] ∧ fs = [RdF rgD A' c' o.rs]) := by
  refine Sp.of (n := 8) ⟨_, Tryd.func12, rfl, rfl, rfl, rfl⟩ (Nat.le_of_ble_eq_true rfl) fun Ps As => ?_
  refine WC_seq (WC_region ?_)
  refine WL_main rfl (OW_box (cs := [_, _, _, _, _, _, _, _, _]) rfl rfl (by decide) fun b1 => ?_)
  refine WL_main rfl (OW_alloc (cs := [_, _, _, _, _, _, _, _, _]) ti31 rfl (by decide) fun b2 => ?_)
  refine WL_nil (thenN (WC_seq (WC_region ?_)))
  refine Lq (q_field (o' := 5) Tryd.underlying31 rfl ti29 rfl rfl) ?_
  refine Lq (q_load1 Tryd.underlying29 rfl rfl (ownS (own0)) rfl) ?_
  refine WL_nilPart ?_
  refine WL_main rfl (OW_appendS (e := rgD) (ys := o.rs) Tryd.underlying29 ti37 rfl (by decide) rfl rfl (Row.nil _ _) (.head _) (by simp only [Nat.zero_add]; omega) (by unfold maxLen; omega) (by decide) (List.Perm.refl _) fun v5 p5 cs5 hr5 => ?_)
  refine WL_freeze (e := rgD) (css := cs5) hr5 (.z) (by simp) (.head _) fun A5 c5 e5 => ?_
  subst e5
  refine Lq (q_field (o' := 5) Tryd.underlying31 rfl ti29 rfl rfl) ?_
  refine WL_main rfl (OW_store1 ti29 rfl rfl rfl (.s (.s (.s (.s (.s (.z)))))) (.s (.z)) ?_)
  refine WL_nil (thenN (WC_seq (WC_region ?_)))
  refine Lq (q_loadN (vs := [_, _, _, _, _, _, _, _, _]) Tryd.underlying31 rfl ti31 rfl (ownS (own0)) rfl rfl) ?_
  refine WL_main rfl (OW_storeN (cs' := [_, _, _, _, _, _, _, _, _]) (vs := [_, _, _, _, _, _, _, _, _]) ti31 rfl rfl rfl rfl rfl (Nat.le_of_ble_eq_true rfl) (.z) ?_)
  refine WL_nil (thenN (WC_ret ?_))
  refine ⟨_, [], [RdF rgD A5 c5 o.rs], fun Z w hs => RV_ownN hs Tryd.underlying31 rfl ti31 rfl own0 rfl (.nil), ?_, fun Z w hs => hs.out (List.Sublist.cons _ (List.Sublist.cons _ (List.Sublist.refl _))) (memc (.head _) (fun _ h => .tail _ (.tail _ h)))⟩
  exact ⟨A5, c5, rfl, rfl, rfl⟩

end Go.Proofs.YtggdddkbhigjoaaDoor
/- Walks: EqRanges, EqOp, newView. -/
namespace Go.Proofs.YtggdddkbhigjoaaDoor
open Go Go.GW
set_option maxRecDepth 10000 in
theorem eqRanges_s (A B : Option Addr) (c d : Nat) (xs ys : List Rg) (hl : xs.length ≤ 4398046511104) : Sp Tryd.prog 22 [.slice A xs.length c, .slice B ys.length d] [] [RdF rgD A c xs, RdF rgD B d ys] (Is (.bool (decide (xs = ys)))) := by
  refine Sp.of (n := 26) ⟨_, Tryd.func22, rfl, rfl, rfl, rfl⟩ (Nat.le_of_ble_eq_true rfl) fun Ps As => ?_
  refine WC_seq (WC_region ?_)
  refine Lq (q_assign rfl) ?_
  refine WL_nil (thenN (WC_seq (WC_seq (WC_region ?_))))
  refine Lq (q_move rfl) ?_
  refine Lq (q_len Tryd.underlying29 rfl) ?_
  refine Lq (q_move rfl) ?_
  refine Lq (q_len Tryd.underlying29 rfl) ?_
  refine Lq (q_neq rfl rfl) ?_
  refine WL_nil (thenN ?_)
  refine WC_cond rfl (fun h10 => ?_) (fun h10 => ?_)
  · refine WC_seq (WC_region ?_)
    refine Lq (q_assign rfl) ?_
    refine WL_nil (thenN (WC_ret (thenRet ?_)))
    refine ⟨_, [], [], fun Z w hs => .tmp rfl (.nil), ?_, fun Z w hs => hs.out (List.Sublist.refl _) (fun _ h => h)⟩
    refine ⟨congrArg Value.bool (decide_eq_false fun e => ?_).symm, rfl, rfl⟩
    rw [e] at h10; simp at h10
  · refine WC_skip (thenN (WC_seq (WC_seq (WC_region ?_))))
    refine Lq (q_assign rfl) ?_
    refine WL_nil (thenN (WC_block ?_))
    refine WC_loopE (α := Nat) (fun k => xs.length - k)
      (fun k => [(0, .slice A xs.length c), (1, .slice B ys.length d), (5, .int .i64 k)])
      (fun k => Ps)
      (fun k => (RdF rgD A c xs :: RdF rgD B d ys :: As))
      (fun k => k ≤ xs.length ∧ xs.length = ys.length ∧ xs.take k = ys.take k)
      0 ?_ (.cons rfl (.cons rfl (.cons rfl (.nil _)))) (List.Sublist.refl _) (fun _ h => h) ?_
    · try simp only [Bq0, Bq1, Bq2, Bq3, Bq4, Bq5, Bq6, Bq7, Bq8, Bq9, Bq10, Bq11, Bq12] at *
      exact ⟨Nat.zero_le _, by omega, rfl⟩
    · rintro k hI
      have hle := hI.1
      have hxy := hI.2.1
      have htk := hI.2.2
      refine WC_seq (WC_seq (WC_region ?_))
      refine Lq (q_move rfl) ?_
      refine Lq (q_move rfl) ?_
      refine Lq (q_len Tryd.underlying29 rfl) ?_
      refine Lq (q_lss rfl rfl) ?_
      refine WL_nil (thenN ?_)
      refine WC_cond rfl (fun h14 => ?_) (fun h14 => ?_)
      · refine WC_skip (thenN (WC_seq (WC_block (WC_seq ?_))))
        try simp only [Bq0, Bq1, Bq2, Bq3, Bq4, Bq5, Bq6, Bq7, Bq8, Bq9, Bq10, Bq11, Bq12] at *
        have hk1 : k < xs.length := by omega
        have hk2 : k < ys.length := by omega
        refine WC_elem (k := k) (.head _) (List.getElem?_eq_getElem hk1) (rg_open _) fun b1 q1 y1 e1 => ?_
        cases e1
        refine WC_elem (k := k) (.tail _ (.tail _ (.head _))) (List.getElem?_eq_getElem hk2) (rg_open _) fun b2 q2 y2 e2 => ?_
        cases e2
        refine WC_draw _ _ [] (.c 0 0 (.c 1 0 (.c 2 0 (.c 3 0 (.c 4 0 (.c 5 0 (.c 6 0 (.c 7 0 (.c 8 0 .nil))))))))) mixed (fun _ _ _ _ h => h) (List.Sublist.refl _) (fun _ h => h) (by kernel_rfl) (by decide) fun ws Z0 => ?_
        refine Qe rfl (q_move rfl) ?_
        refine Qe rfl (q_move rfl) ?_
        refine Qe rfl (q_idxRd Tryd.underlying29 ti37 rfl rfl (by omega) (by omega)) ?_
        refine Qe rfl (q_loadFN (k := 0) (vs := [_, _]) Tryd.underlying37 rfl ti37 rfl (.tail _ (.head _)) rfl rfl rfl) ?_
        refine Qe rfl (q_move rfl) ?_
        refine Qe rfl (q_move rfl) ?_
        refine Qe rfl (q_idxRd Tryd.underlying29 ti37 rfl rfl (by omega) (by omega)) ?_
        refine Qe rfl (q_loadFN (k := 0) (vs := [_, _]) Tryd.underlying37 rfl ti37 rfl (.head _) rfl rfl rfl) ?_
        refine Qe rfl (q_aggneq rfl rfl (eq37 _ _ _ _)) ?_
        refine WE_end (WF_nil ?_)
        refine thenN ?_
        refine WC_cond rfl (fun h25 => ?_) (fun h25 => ?_)
        · refine WC_seq (WC_region ?_)
          refine Lq (q_assign rfl) ?_
          refine WL_nil (thenN (WC_ret (blockRet (thenRet (thenRet (blockRet (thenRet ?_)))))))
          refine ⟨_, [], [], fun Z w hs => .tmp rfl (.nil), ?_, fun Z w hs => hs.out (List.Sublist.refl _) (fun _ h => .tail _ (.tail _ (.tail _ h)))⟩
          refine ⟨congrArg Value.bool (decide_eq_false fun e => ?_).symm, rfl, rfl⟩
          subst e; simp at h25
        · refine WC_skip (blockN (thenN (WC_region ?_)))
          refine Lq (q_move rfl) ?_
          refine Lq (q_add rfl rfl (wr64 (by omega)) (c := ((k + 1 : Nat) : Int))) ?_
          refine Lq (q_assign rfl) ?_
          refine WL_nil (thenK ?_)
          refine ⟨k + 1, ?_, (.cons rfl (.cons rfl (.cons rfl (.nil _)))), (List.Sublist.refl _), (fun _ h => .tail _ (.tail _ (.tail _ h)))⟩
          refine ⟨by omega, by omega, hxy, ?_⟩
          rw [List.take_succ_eq_append_getElem hk1, List.take_succ_eq_append_getElem hk2, htk]
          congr 2
          simp at h25
          exact Rg.ext h25.1 h25.2
      · refine WC_exit (thenExit (thenExit (blockHit (thenN (WC_seq (WC_region ?_))))))
        refine Lq (q_assign rfl) ?_
        refine WL_nil (thenN (WC_ret ?_))
        refine ⟨_, [], [], fun Z w hs => .tmp rfl (.nil), ?_, fun Z w hs => hs.out (List.Sublist.refl _) (fun _ h => h)⟩
        refine ⟨congrArg Value.bool (decide_eq_true ?_).symm, rfl, rfl⟩
        simp only [decide_eq_false_iff_not] at h14
        have h1 : xs.take k = xs := List.take_of_length_le (by omega)
        have h2 : ys.take k = ys := List.take_of_length_le (by omega)
        rw [← h1, ← h2]; exact htk

theorem beq_bytes_self (s : ByteArray) : (s == s) = true := by rw [beq_toListBytes]; simp

set_option maxRecDepth 10000 in
theorem eqOp_t (o : GOp) (A B : Option Addr) (c d : Nat) (hl : o.rs.length ≤ 4398046511104) : Sp Tryd.prog 24 [opV o A c, opV o B d] [] [RdF rgD A c o.rs, RdF rgD B d o.rs] (Is (.bool true)) := by
  refine Sp.of (n := 56) ⟨_, Tryd.func24, rfl, rfl, rfl, rfl⟩ (Nat.le_of_ble_eq_true rfl) fun Ps As => ?_
  refine WC_seq (WC_region ?_)
  refine WL_main rfl (OW_box (cs := [_, _, _, _, _, _, _, _, _]) rfl rfl (by decide) fun b2 => ?_)
  refine WL_main rfl (OW_box (cs := [_, _, _, _, _, _, _, _, _]) rfl rfl (by decide) fun b3 => ?_)
  refine Lq (q_assign rfl) ?_
  refine WL_nil (thenN (WC_seq (WC_region ?_)))
  refine Lq (q_field (o' := 0) Tryd.underlying31 rfl ti28 rfl rfl) ?_
  refine Lq (q_field (o' := 0) Tryd.underlying28 rfl ti25 rfl rfl) ?_
  refine Lq (q_loadN (vs := [_, _]) Tryd.underlying25 rfl ti25 rfl (ownS (own0)) rfl rfl) ?_
  refine Lq (q_field (o' := 0) Tryd.underlying31 rfl ti28 rfl rfl) ?_
  refine Lq (q_field (o' := 0) Tryd.underlying28 rfl ti25 rfl rfl) ?_
  refine Lq (q_loadN (vs := [_, _]) Tryd.underlying25 rfl ti25 rfl own0 rfl rfl) ?_
  refine Lq (q_aggeql rfl rfl (eq25 _ _ _ _)) ?_
  refine Lq (q_move rfl) ?_
  refine Lg rfl rfl rfl (by simp) (q_field (o' := 0) Tryd.underlying31 rfl ti28 rfl rfl) ?_
  refine Lg rfl rfl rfl (by simp) (q_field (o' := 2) Tryd.underlying28 rfl ti26 rfl rfl) ?_
  refine Lg rfl rfl rfl (by simp) (q_load1 Tryd.underlying26 rfl rfl (ownS (own0)) rfl) ?_
  refine Lg rfl rfl rfl (by simp) (q_field (o' := 0) Tryd.underlying31 rfl ti28 rfl rfl) ?_
  refine Lg rfl rfl rfl (by simp) (q_field (o' := 2) Tryd.underlying28 rfl ti26 rfl rfl) ?_
  refine Lg rfl rfl rfl (by simp) (q_load1 Tryd.underlying26 rfl rfl own0 rfl) ?_
  refine Lg rfl rfl rfl (by simp) (q_eql rfl rfl) ?_
  refine Lq (q_pickT rfl (by simp) rfl) ?_
  refine Lq (q_move rfl) ?_
  refine Lg rfl rfl rfl (by simp) (q_field (o' := 3) Tryd.underlying31 rfl ti3 rfl rfl) ?_
  refine Lg rfl rfl rfl (by simp) (q_load1 Tryd.underlying3 rfl rfl (ownS (own0)) rfl) ?_
  refine Lg rfl rfl rfl (by simp) (q_field (o' := 3) Tryd.underlying31 rfl ti3 rfl rfl) ?_
  refine Lg rfl rfl rfl (by simp) (q_load1 Tryd.underlying3 rfl rfl own0 rfl) ?_
  refine Lg rfl rfl rfl (by simp) (q_eql rfl rfl) ?_
  refine Lq (q_pickT rfl (by simp) rfl) ?_
  refine Lq (q_move rfl) ?_
  refine Lg rfl rfl rfl (by simp) (q_field (o' := 4) Tryd.underlying31 rfl ti9 rfl rfl) ?_
  refine Lg rfl rfl rfl (by simp) (q_load1 Tryd.underlying9 rfl rfl (ownS (own0)) rfl) ?_
  refine Lg rfl rfl rfl (by simp) (q_field (o' := 4) Tryd.underlying31 rfl ti9 rfl rfl) ?_
  refine Lg rfl rfl rfl (by simp) (q_load1 Tryd.underlying9 rfl rfl own0 rfl) ?_
  refine Lg rfl rfl rfl (by simp) (q_seql rfl rfl) ?_
  refine Lq (q_pickT rfl (by simp) rfl) ?_
  refine Lq (q_move rfl) ?_
  refine Lg rfl rfl rfl (beq_bytes_self _) (q_field (o' := 5) Tryd.underlying31 rfl ti29 rfl rfl) ?_
  refine Lg rfl rfl rfl (beq_bytes_self _) (q_load1 Tryd.underlying29 rfl rfl (ownS (own0)) rfl) ?_
  refine Lg rfl rfl rfl (beq_bytes_self _) (q_field (o' := 5) Tryd.underlying31 rfl ti29 rfl rfl) ?_
  refine Lg rfl rfl rfl (beq_bytes_self _) (q_load1 Tryd.underlying29 rfl rfl own0 rfl) ?_
  refine WL_gmain rfl rfl rfl (beq_bytes_self _) (OW_call0 (eqRanges_s A B c d o.rs o.rs hl) (.cons rfl (.cons rfl (.nil))) (by decide) (memc (.head _) (memc (.tail _ (.head _)) mem0)) fun u1_35 Lo fs hres => ?_)
  obtain ⟨rfl, rfl, rfl⟩ := hres
  refine Lq (q_pickT rfl (beq_bytes_self _) rfl) ?_
  refine Lq (q_move rfl) ?_
  refine Lg rfl rfl rfl (by simp) (q_field (o' := 6) Tryd.underlying31 rfl ti25 rfl rfl) ?_
  refine Lg rfl rfl rfl (by simp) (q_loadN (vs := [_, _]) Tryd.underlying25 rfl ti25 rfl (ownS (own0)) rfl rfl) ?_
  refine Lg rfl rfl rfl (by simp) (q_field (o' := 6) Tryd.underlying31 rfl ti25 rfl rfl) ?_
  refine Lg rfl rfl rfl (by simp) (q_loadN (vs := [_, _]) Tryd.underlying25 rfl ti25 rfl own0 rfl rfl) ?_
  refine Lg rfl rfl rfl (by simp) (q_aggeql rfl rfl (eq25 _ _ _ _)) ?_
  refine Lq (q_pickT rfl (by simp) rfl) ?_
  refine Lq (q_move rfl) ?_
  refine Lg rfl rfl rfl (by simp) (q_field (o' := 8) Tryd.underlying31 rfl ti4 rfl rfl) ?_
  refine Lg rfl rfl rfl (by simp) (q_load1 Tryd.underlying4 rfl rfl (ownS (own0)) rfl) ?_
  refine Lg rfl rfl rfl (by simp) (q_field (o' := 8) Tryd.underlying31 rfl ti4 rfl rfl) ?_
  refine Lg rfl rfl rfl (by simp) (q_load1 Tryd.underlying4 rfl rfl own0 rfl) ?_
  refine Lg rfl rfl rfl (by simp) (q_beql' Tryd.underlying4 rfl rfl) ?_
  refine Lq (q_pickT rfl (by simp) rfl) ?_
  refine Lq (q_assign rfl) ?_
  refine WL_nil (thenN (WC_ret ?_))
  refine ⟨_, [], [], fun Z w hs => .tmp rfl (.nil), ?_, fun Z w hs => hs.out (List.Sublist.cons _ (List.Sublist.cons _ (List.Sublist.refl _))) (fun _ h => h)⟩
  exact ⟨by simp [tup], rfl, rfl⟩

theorem bd61_0_1Xw39 (x0_ : Option Addr) (x1_ : Option Addr) (w : World) : (Instr.build 61 #[(0, .pointer x0_), (1, .pointer x1_)]).run Tryd.prog w = .ok (.agg #[.pointer x0_, .pointer x1_, .slice none 0 0, .slice none 0 0, .slice none 0 0, .int .i64 0, .int .i64 0, .int .i64 0, .int .i64 0, .int .i64 0, .int .i64 0, .int .i64 0, .int .i64 0, .int .i64 0]) w := by kernel_rfl

set_option maxRecDepth 10000 in
theorem newView_s : Sp Tryd.prog 36 [] [] [] (fun u Lo fs => ∃ v h m b : Nat, u = .tuple #[.pointer (some ⟨v, 0, none⟩), .bool true] ∧ ViewAt v h m b ⟨[], 0⟩ [] (List.replicate 9 0) Lo fs) := by
  refine Sp.of (n := 20) ⟨_, Tryd.func36, rfl, rfl, rfl, rfl⟩ (Nat.le_of_ble_eq_true rfl) fun Ps As => ?_
  refine WC_seq (WC_region ?_)
  refine Lq (q_assign rfl) ?_
  refine Lq (q_assign rfl) ?_
  refine WL_nil (thenN (WC_seq (WC_region ?_)))
  refine WL_main rfl (OW_call0 (new_s) (.nil) (by decide) mem0 fun u1_0 Lo fs hres => ?_)
  obtain ⟨h, m, rfl, rfl, rfl⟩ := hres
  refine WL_main rfl (OW_call0 (rnew_s) (.nil) (by decide) mem0 fun u1_1 Lo fs hres => ?_)
  obtain ⟨b, rfl, rfl, rfl⟩ := hres
  refine Lq (q_build (.cons rfl (.cons rfl (.nil))) (bd61_0_1Xw39 _ _)) ?_
  refine WL_main rfl (OW_box (cs := (.pointer (some ⟨h, 0, none⟩) :: .pointer (some ⟨b, 0, none⟩) :: .slice none 0 0 :: .slice none 0 0 :: .slice none 0 0 :: ints .i64 (List.replicate 9 0))) rfl rfl (by decide) fun b6 => ?_)
  refine Lq (q_assign rfl) ?_
  refine WL_nil (thenN (WC_seq ?_))
  refine WC_fact (A := TrF none .nil) (fun _ _ _ => rfl) ?_
  refine WC_fact (A := RdF idD none 0 []) (fun Z w hs => RdS.nil _ _ _) ?_
  refine WC_fact (A := RdF (De.int .i64) none 0 []) (fun Z w hs => RdS.nil _ _ _) ?_
  refine WC_fact (A := RdF De.str none 0 []) (fun Z w hs => RdS.nil _ _ _) ?_
  refine WC_draw _ _ [] (.c 0 0 (.c 1 0 (.c 2 0 (.c 3 0 (.c 4 0 (.c 5 0 (.c 6 0 (.c 7 0 (.c 8 0 (.c 9 0 (.c 10 0 (.c 11 0 (.c 12 0 (.c 13 0 (.c 14 0 .nil))))))))))))))) mixed (fun _ _ _ _ h => h) (List.Sublist.cons_cons _ (List.Sublist.cons_cons _ (List.Sublist.cons_cons _ (List.Sublist.cons_cons _ (List.Sublist.cons_cons _ (List.Sublist.refl _)))))) (fun _ h => h) (by kernel_rfl) (by decide) fun ws Z0 => ?_
  refine Qe rfl (q_move rfl) ?_
  refine Qe rfl (q_move rfl) ?_
  refine Qe rfl (q_nil rfl) ?_
  refine Qe rfl (q_field (o' := 0) Tryd.underlying61 rfl ti22 rfl rfl) ?_
  refine Qe rfl (q_load1 Tryd.underlying22 rfl rfl own0 rfl) ?_
  refine Qe rfl (q_pneq Tryd.underlying22 rfl rfl (by simp)) ?_
  refine Qe rfl (q_move rfl) ?_
  refine WE_gq rfl rfl rfl rfl rfl (q_move rfl) (by decide) ?_
  refine WE_gq rfl rfl rfl rfl rfl (q_nil rfl) (by decide) ?_
  refine WE_gq rfl rfl rfl rfl rfl (q_field (o' := 1) Tryd.underlying61 rfl ti55 rfl rfl) (by decide) ?_
  refine WE_gq rfl rfl rfl rfl rfl (q_load1 Tryd.underlying55 rfl rfl own0 rfl) (by decide) ?_
  refine WE_gq rfl rfl rfl rfl rfl (q_pneq Tryd.underlying55 rfl rfl (by simp)) (by decide) ?_
  refine Qe rfl (q_pickT rfl rfl rfl) ?_
  refine Qe rfl (q_assign rfl) ?_
  refine Qe rfl (q_assign rfl) ?_
  refine WE_end (WF_nil ?_)
  refine thenN ?_
  refine WC_fr [(1, _), (0, _)] (.cons rfl (.cons rfl (.nil _))) ?_
  refine WC_ret ?_
  refine ⟨_, [_, _, _, _, _], [_, _, _, _, _, _], fun Z w hs => .tmp rfl (.tmp rfl (.nil)), ?_, fun Z w hs => (((((hs.pick (.s (.z))).pick (.s (.s (.s (.s (.z)))))).pick (.s (.s (.s (.s (.z)))))).pick (.s (.s (.s (.s (.z)))))).pick (.s (.s (.s (.s (.z)))))).out (List.Sublist.cons_cons _ (List.Sublist.cons_cons _ (List.Sublist.cons_cons _ (List.Sublist.cons_cons _ (List.Sublist.cons_cons _ (List.Sublist.refl _)))))) (memc (.tail _ (.tail _ (.tail _ (.tail _ (.tail _ (.head _)))))) (memc (.tail _ (.tail _ (.tail _ (.tail _ (.tail _ (.tail _ (.head _))))))) (memc (.tail _ (.tail _ (.tail _ (.tail _ (.head _))))) (memc (.tail _ (.tail _ (.tail _ (.head _)))) (memc (.tail _ (.tail _ (.head _))) (memc (.tail _ (.head _)) (fun _ h => .tail _ (.tail _ (.tail _ (.tail _ (.tail _ (.tail _ (.tail _ h)))))))))))))⟩
  refine ⟨b6, h, m, b, rfl, [], none, 0, none, .nil, none, 0, none, 0, none, 0, rfl, rfl, ⟨List.Perm.refl _, List.nodup_nil, fun e he => (by cases he), fun e he => (by cases he), fun e he => (by cases he), by decide, by decide⟩, wnilT, rfl⟩

end Go.Proofs.YtggdddkbhigjoaaDoor
/- Walks: takes. -/
namespace Go.Proofs.YtggdddkbhigjoaaDoor
open Go Go.GW
theorem bd31Xw40  (w : World) : (Instr.build 31 #[]).run Tryd.prog w = .ok (.agg #[.int .i64 0, .int .i64 0, .int .i64 0, .int .i64 0, .string ⟨#[]⟩, .slice none 0 0, .int .i64 0, .int .i64 0, .bool false]) w := by kernel_rfl

set_option maxRecDepth 10000 in
theorem takes_1 (N : Int) (n : Nat) (X : List Ce) (v h m b : Nat) (H : Hist) (L : List MR) (A : Option Addr) (cap : Nat) (B : Option Addr) (t : Tr) (A1 : Option Addr) (c1 : Nat) (A2 : Option Addr) (c2 : Nat) (A3 : Option Addr) (c3 : Nat) (nx : List Int) (i : Nat) (o : GOp) (Ao : Option Addr) (co : Nat) (hV : VI N n H X nx) (hr : HR H L) (wt : Wf t) (hX : t.row = X) (g : Good H i o) (ht : o.text.size ≤ 1073741824) : Sp Tryd.prog 37 [.pointer (some ⟨v, 0, none⟩), .int .i64 i, opV o Ao co] [vwP v h b A1 H.ents.length c1 A2 c2 A3 c3 nx, hdP h A H.ops.length cap m H.total, mpP m L, mkP L, rpP b B] [barF, RdF opD A cap H.ops, AllF L nowF, TrF B t, RdF idD A1 c1 (idsOf H.ents), RdF (De.int .i64) A2 c2 (kindsOf H.ents), RdF De.str A3 c3 (textsOf H.ents), RdF rgD Ao co o.rs] (TakeP v h m b (putF H i o).1 (applyRow (putF H i o).2.1 X) (nxF nx o.c o.n)) := by
  obtain ⟨H2, eff, T⟩ := take_facts hV g
  have hfit := good_fit hV g ht
  have hn2 := hV.le
  have hnl := hV.len
  have hcb0 := right_bd g.idr
  have hcb : 1 ≤ o.c ∧ o.c ≤ 8 := ⟨hcb0.1, hcb0.2.1⟩
  have htt := hV.total
  have hrl := hV.rule.len
  rw [← hX] at hrl
  have ho2 : H2.ops.length = H2.ents.length := by simp [Hist.ops]
  have hT := T.tot
  rw [← hnl, show H.ents.length + 1 = H2.ents.length from by rw [T.len, hnl]] at hT
  refine Sp.of (n := 86) ⟨_, Tryd.func37, rfl, rfl, rfl, rfl⟩ (Nat.le_of_ble_eq_true rfl) fun Ps As => ?_
  refine WC_seq (WC_region ?_)
  refine WL_main rfl (OW_box (cs := [_, _, _, _, _, _, _, _, _]) rfl rfl (by decide) fun b5 => ?_)
  refine Lq (q_assign rfl) ?_
  refine WL_nil (thenN (WC_seq (WC_seq (WC_region ?_))))
  refine Lq (q_field (o' := 0) Tryd.underlying31 rfl ti28 rfl rfl) ?_
  refine Lq (q_field (o' := 0) Tryd.underlying28 rfl ti25 rfl rfl) ?_
  refine Lq (q_idxA (o' := 0) Tryd.underlying25 ti3 rfl rfl (by decide) (by decide) rfl) ?_
  refine Lq (q_load1 Tryd.underlying3 rfl rfl own0 rfl) ?_
  refine Lq (q_lss rfl rfl) ?_
  refine Lq (q_move rfl) ?_
  refine Lg rfl rfl rfl (by simp; omega) (q_field (o' := 0) Tryd.underlying31 rfl ti28 rfl rfl) ?_
  refine Lg rfl rfl rfl (by simp; omega) (q_field (o' := 0) Tryd.underlying28 rfl ti25 rfl rfl) ?_
  refine Lg rfl rfl rfl (by simp; omega) (q_idxA (o' := 0) Tryd.underlying25 ti3 rfl rfl (by decide) (by decide) rfl) ?_
  refine Lg rfl rfl rfl (by simp; omega) (q_load1 Tryd.underlying3 rfl rfl own0 rfl) ?_
  refine Lg rfl rfl rfl (by simp; omega) (q_gtr rfl rfl) ?_
  refine Lq (q_pickF rfl (by simp; omega) rfl) ?_
  refine WL_nil (thenN ?_)
  refine WC_false rfl (by simp; omega) ?_
  refine WC_skip (thenN (WC_seq ?_))
  refine WC_draw _ _ [12] (.c 0 0 (.c 1 0 (.c 2 0 (.c 3 0 (.c 4 0 (.c 5 0 (.b (.c 6 2 (.b (.c 7 2 (.c 8 0 (.c 9 0 (.c 10 1 (.c 11 2 (.c 12 3 (.c 13 1 .nil))))))) (.c 11 2 (.c 7 2 (.c 8 0 (.c 9 0 (.c 10 1 (.c 12 3 (.c 13 1 .nil))))))))) (.c 11 2 (.c 6 2 (.c 7 2 (.c 8 0 (.c 9 0 (.c 10 1 (.c 12 3 (.c 13 1 .nil))))))))))))))) mixed (fun _ _ _ _ h => h) (List.Sublist.cons_cons _ (List.Sublist.cons_cons _ (List.Sublist.cons _ (List.Sublist.cons _ (List.Sublist.cons _ (List.Sublist.cons_cons _ (List.Sublist.refl _))))))) (fun _ h => h) (by kernel_rfl) (by decide) fun ws Z0 => ?_
  refine Qe rfl (q_move rfl) ?_
  refine Qe rfl (q_nil rfl) ?_
  refine Qe rfl (q_field (o' := 0) Tryd.underlying61 rfl ti22 rfl rfl) ?_
  refine Qe rfl (q_load1 Tryd.underlying22 rfl rfl (ownS (own0)) rfl) ?_
  refine Qe rfl (q_move rfl) ?_
  refine Qe rfl (q_loadN (vs := [_, _, _, _, _, _, _, _, _]) Tryd.underlying31 rfl ti31 rfl own0 rfl rfl) ?_
  refine WE_both ?_ ?_
  · refine WE_main rfl rfl (OW_call0 (lown_s o Ao co hfit.rs) (.cons rfl (.nil)) (by decide) (memc (.tail _ (.tail _ (.tail _ (.tail _ (.tail _ (.tail _ (.tail _ (.tail _ (.head _))))))))) mem0) fun u3_6 Lo fs hres => ?_)
    obtain ⟨A9, c9, rfl, rfl, rfl⟩ := hres
    refine ⟨⟨(List.Sublist.cons_cons _ (List.Sublist.cons_cons _ (List.Sublist.cons _ (List.Sublist.cons _ (List.Sublist.cons _ (List.Sublist.cons_cons _ (List.Sublist.refl _))))))), (.tail _ (.head _))⟩, ?_⟩
    refine WE_both ?_ ?_
    · refine WE_main rfl rfl (OW_call3 (put_s h m cap A H L hr i o A9 c9 hfit (by omega)) (.cons rfl (.cons rfl (.cons rfl (.nil)))) (by decide) (.s (.s (.z))) (.s (.s (.z))) (.s (.s (.z))) (memc (.tail _ (.tail _ (.head _))) (memc (.tail _ (.tail _ (.tail _ (.head _)))) (memc (.tail _ (.tail _ (.tail _ (.tail _ (.head _))))) (memc (.head _) mem0)))) fun u3_7 Lo fs hres => ?_)
      obtain ⟨L2, A8, cap2, Ae, ce, hr2, rfl, rfl, rfl⟩ := hres
      rw [T.put] at hr2 ⊢
      dsimp only at hr2 ⊢
      refine ⟨⟨(List.Sublist.cons _ (List.Sublist.cons _ (List.Sublist.cons _ (List.Sublist.cons_cons _ (List.Sublist.cons_cons _ (List.Sublist.cons_cons _ (List.Sublist.refl _))))))), (.tail _ (.tail _ (.tail _ (.tail _ (.head _)))))⟩, ?_⟩
      refine Qe rfl (q_move rfl) ?_
      refine Qe rfl (q_extract (vs := [_, _]) rfl rfl) ?_
      refine WE_p rfl (q_extract (vs := [_, _]) rfl rfl) (by decide) ?_
      refine WE_main rfl rfl (OW_alloc (cs := [_, _, _, _, _, _, _, _, _]) ti31 rfl (by decide) fun b7 => ?_)
      refine ⟨⟨(List.Sublist.cons _ (List.Sublist.cons _ (List.Sublist.cons _ (List.Sublist.cons _ (List.Sublist.cons_cons _ (List.Sublist.cons_cons _ (List.Sublist.cons_cons _ (List.Sublist.refl _)))))))), (.tail _ (.tail _ (.tail _ (.tail _ (.head _)))))⟩, ?_⟩
      refine WE_end (WF_last rfl rfl (OW_storeN (cs' := [_, _, _, _, _, _, _, _, _]) (vs := [_, _, _, _, _, _, _, _, _]) ti31 rfl rfl rfl rfl rfl (Nat.le_of_ble_eq_true rfl) (.z) ?_))
      refine WF_p rfl (q_assign rfl) (by decide) ?_
      refine WF_nil ?_
      refine thenN (WC_seq (WC_seq (WC_region ?_)))
      refine Lq (q_move rfl) ?_
      refine Lq (q_neq rfl rfl) ?_
      refine WL_nil (thenN (WC_false rfl rfl (WC_skip (thenN (WC_seq (WC_region ?_))))))
      refine Lq (q_move rfl) ?_
      refine Lq (q_move rfl) ?_
      refine Lq (q_loadN (vs := [_, _, _, _, _, _, _, _, _]) Tryd.underlying31 rfl ti31 rfl (ownS (ownS (ownS (ownS (own0))))) rfl rfl) ?_
      refine WL_main rfl (OW_call1 (notes_s v h b H.ents.length A1 c1 A2 c2 A3 c3 nx (idsOf H.ents) (kindsOf H.ents) (textsOf H.ents) i o Ao co (by simp [idsOf]) (by simp [kindsOf, idsOf]) (by simp [textsOf, idsOf]) (by simp only [idsOf, List.length_map]; exact g.le) (by omega) hV.nxl hcb) (.cons rfl (.cons rfl (.cons rfl (.nil)))) (by decide) (.s (.s (.s (.s (.s (.z)))))) (memc (.tail _ (.tail _ (.tail _ (.tail _ (.tail _ (.tail _ (.tail _ (.tail _ (.tail _ (.head _)))))))))) (memc (.tail _ (.tail _ (.tail _ (.tail _ (.tail _ (.tail _ (.tail _ (.tail _ (.tail _ (.tail _ (.head _))))))))))) (memc (.tail _ (.tail _ (.tail _ (.tail _ (.tail _ (.tail _ (.tail _ (.tail _ (.tail _ (.tail _ (.tail _ (.head _)))))))))))) mem0))) fun u6_3 Lo fs hres => ?_)
      obtain ⟨B1, d1, B2, d2, B3, d3, rfl, rfl, rfl⟩ := hres
      rw [T.ids, T.ks, T.ts]
      rw [show H.ents.length + 1 = H2.ents.length from by rw [T.len, hV.len]]
      refine WL_nil (thenN (WC_seq (WC_seq ?_)))
      refine WC_draw _ _ [] (.c 0 0 (.c 1 0 (.c 2 0 (.c 3 0 (.c 5 0 (.c 6 0 (.c 7 0 (.c 8 0 (.c 9 0 (.c 4 2 (.c 10 0 (.c 11 0 (.c 12 0 (.c 13 0 (.c 14 0 (.c 15 0 (.c 17 0 (.c 18 0 (.c 19 0 (.c 20 0 (.c 21 0 (.c 22 0 (.c 16 2 (.c 23 2 (.c 24 0 (.c 25 0 .nil)))))))))))))))))))))))))) mixed (fun _ _ _ _ h => h) (List.Sublist.cons_cons _ (List.Sublist.cons_cons _ (List.Sublist.cons _ (List.Sublist.cons_cons _ (List.Sublist.cons_cons _ (List.Sublist.cons_cons _ (List.Sublist.cons_cons _ (List.Sublist.refl _)))))))) (fun _ h => h) (by kernel_rfl) (by decide) fun ws Z0 => ?_
      refine Qe rfl (q_move rfl) ?_
      refine Qe rfl (q_nil rfl) ?_
      refine Qe rfl (q_field (o' := 0) Tryd.underlying61 rfl ti22 rfl rfl) ?_
      refine Qe rfl (q_load1 Tryd.underlying22 rfl rfl own0 rfl) ?_
      refine Qe rfl (q_move rfl) ?_
      refine Qe rfl (q_nil rfl) ?_
      refine Qe rfl (q_field (o' := 2) Tryd.underlying61 rfl ti56 rfl rfl) ?_
      refine Qe rfl (q_load1 Tryd.underlying56 rfl rfl own0 rfl) ?_
      refine Qe rfl (q_len Tryd.underlying56 rfl) ?_
      refine WE_main rfl rfl (OW_call1 (hlen_s h m H2.ops.length cap2 A8 H2.total) (.cons rfl (.nil)) (by decide) (.s (.s (.z))) mem0 fun u7_4 Lo fs hres => ?_)
      obtain ⟨rfl, rfl, rfl⟩ := hres
      refine ⟨⟨(List.Sublist.cons _ (List.Sublist.cons_cons _ (List.Sublist.cons_cons _ (List.Sublist.cons_cons _ (List.Sublist.cons_cons _ (List.Sublist.cons_cons _ (List.Sublist.cons_cons _ (List.Sublist.refl _)))))))), (.head _)⟩, ?_⟩
      refine Qe rfl (q_neq rfl rfl) ?_
      refine Qe rfl (q_move rfl) ?_
      refine WE_gq rfl rfl rfl rfl (by rw [ho2]; simp) (q_move rfl) (by decide) ?_
      refine WE_gq rfl rfl rfl rfl (by rw [ho2]; simp) (q_nil rfl) (by decide) ?_
      refine WE_gq rfl rfl rfl rfl (by rw [ho2]; simp) (q_field (o' := 0) Tryd.underlying61 rfl ti22 rfl rfl) (by decide) ?_
      refine WE_gq rfl rfl rfl rfl (by rw [ho2]; simp) (q_load1 Tryd.underlying22 rfl rfl own0 rfl) (by decide) ?_
      refine WE_gq rfl rfl rfl rfl (by rw [ho2]; simp) (q_move rfl) (by decide) ?_
      refine WE_gq rfl rfl rfl rfl (by rw [ho2]; simp) (q_move rfl) (by decide) ?_
      refine WE_gq rfl rfl rfl rfl (by rw [ho2]; simp) (q_nil rfl) (by decide) ?_
      refine WE_gq rfl rfl rfl rfl (by rw [ho2]; simp) (q_field (o' := 2) Tryd.underlying61 rfl ti56 rfl rfl) (by decide) ?_
      refine WE_gq rfl rfl rfl rfl (by rw [ho2]; simp) (q_load1 Tryd.underlying56 rfl rfl own0 rfl) (by decide) ?_
      refine WE_gq rfl rfl rfl rfl (by rw [ho2]; simp) (q_len Tryd.underlying56 rfl) (by decide) ?_
      refine WE_gmain rfl rfl rfl rfl rfl (by rw [ho2]; simp) (OW_call1 (htotal_s h m H2.ops.length cap2 A8 H2.total) (.cons rfl (.nil)) (by decide) (.z) mem0 fun u7_16 Lo fs hres => ?_)
      obtain ⟨rfl, rfl, rfl⟩ := hres
      refine ⟨⟨(List.Sublist.cons _ (List.Sublist.cons_cons _ (List.Sublist.cons_cons _ (List.Sublist.cons_cons _ (List.Sublist.cons_cons _ (List.Sublist.cons_cons _ (List.Sublist.cons_cons _ (List.Sublist.refl _)))))))), (.head _)⟩, ?_⟩
      refine WE_gmain rfl rfl rfl rfl rfl (by rw [ho2]; simp) (OW_call1 (vtotal_s v h b H2.ents.length B1 d1 B2 d2 B3 d3 (nxF nx o.c o.n) (textsOf H2.ents) H2.ents.length (by simp [textsOf]) (Nat.le_refl _) (by rw [T.len]; omega) (fun j _ => by have := T.cb j; omega)) (.cons rfl (.cons rfl (.nil))) (by decide) (.s (.z)) (memc (.tail _ (.tail _ (.tail _ (.head _)))) mem0) fun u7_23 Lo fs hres => ?_)
      obtain ⟨rfl, rfl, rfl⟩ := hres
      refine ⟨⟨(List.Sublist.cons_cons _ (List.Sublist.cons _ (List.Sublist.cons_cons _ (List.Sublist.cons_cons _ (List.Sublist.cons_cons _ (List.Sublist.cons_cons _ (List.Sublist.cons_cons _ (List.Sublist.refl _)))))))), (.head _)⟩, ?_⟩
      refine WE_gq rfl rfl rfl rfl (by rw [ho2]; simp) (q_neq rfl rfl) (by decide) ?_
      refine Qe rfl (q_pickF rfl (by rw [ho2]; simp) rfl) ?_
      refine WE_end (WF_nil ?_)
      refine thenN ?_
      refine WC_fr [(64, _), (7, _), (6, _), (5, _), (0, _)] (.cons rfl (.cons rfl (.cons rfl (.cons rfl (.cons rfl (.nil _)))))) ?_
      refine WC_false rfl (by simp; omega) ?_
      refine WC_skip (thenN (WC_seq (WC_seq (WC_region ?_))))
      refine Lq (q_field (o' := 0) Tryd.underlying31 rfl ti28 rfl rfl) ?_
      refine Lq (q_field (o' := 2) Tryd.underlying28 rfl ti26 rfl rfl) ?_
      refine Lq (q_load1 Tryd.underlying26 rfl rfl (ownS (ownS (own0))) rfl) ?_
      refine Lq (q_eql rfl rfl) ?_
      refine WL_nil (thenN ?_)
      refine WC_cond rfl (fun h68 => ?_) (fun h68 => ?_)
      · refine WC_seq ?_
        obtain ⟨hze, hk4⟩ := T.noEff (by simpa using h68)
        subst hze
        refine WC_fact (A := RdF rgD none 0 []) (fun Z w hs => RdS.nil _ _ _) ?_
        refine WC_region ?_
        refine Lq (q_field (o' := 0) Tryd.underlying31 rfl ti28 rfl rfl) ?_
        refine Lq (q_field (o' := 2) Tryd.underlying28 rfl ti26 rfl rfl) ?_
        refine Lq (q_load1 Tryd.underlying26 rfl rfl (ownS (ownS (ownS (ownS (ownS (own0)))))) rfl) ?_
        refine Lq (q_eql rfl rfl) ?_
        refine Lq (q_move rfl) ?_
        refine Lg rfl rfl rfl (by simpa using hk4) (q_loadN (vs := [_, _, _, _, _, _, _, _, _]) Tryd.underlying31 rfl ti31 rfl (ownS (ownS (own0))) rfl rfl) ?_
        refine Lg rfl rfl rfl (by simpa using hk4) (q_build (.nil) (bd31Xw40)) ?_
        refine WL_gmain rfl rfl rfl (by simpa using hk4) (OW_call0 (eqOp_t zeroOp Ae none ce 0 (by decide)) (.cons rfl (.cons rfl (.nil))) (by decide) (memc (.tail _ (.tail _ (.tail _ (.tail _ (.tail _ (.head _)))))) (memc (.head _) mem0)) fun u10_7 Lo fs hres => ?_)
        obtain ⟨rfl, rfl, rfl⟩ := hres
        refine Lq (q_pickT rfl (by simpa using hk4) rfl) ?_
        refine Lq (q_assign rfl) ?_
        refine WL_nil (thenN (WC_ret (thenRet ?_)))
        refine ⟨_, [_, _, _, _, _], [_, _, _, _, _, _], fun Z w hs => .tmp rfl (.nil), ?_, fun Z w hs => hs.out (List.Sublist.cons_cons _ (List.Sublist.cons_cons _ (List.Sublist.cons _ (List.Sublist.cons_cons _ (List.Sublist.cons_cons _ (List.Sublist.cons _ (List.Sublist.cons_cons _ (List.Sublist.refl _)))))))) (memc (.tail _ (.tail _ (.tail _ (.tail _ (.tail _ (.tail _ (.head _))))))) (memc (.tail _ (.tail _ (.tail _ (.tail _ (.tail _ (.tail _ (.tail _ (.head _)))))))) (memc (.tail _ (.tail _ (.tail _ (.tail _ (.tail _ (.tail _ (.tail _ (.tail _ (.tail _ (.tail _ (.tail _ (.tail _ (.tail _ (.head _)))))))))))))) (memc (.tail _ (.tail _ (.head _))) (memc (.tail _ (.tail _ (.tail _ (.head _)))) (memc (.tail _ (.tail _ (.tail _ (.tail _ (.head _))))) (fun _ h => .tail _ (.tail _ (.tail _ (.tail _ (.tail _ (.tail _ (.tail _ (.tail _ (.tail _ (.tail _ h))))))))))))))))⟩
        exact ⟨rfl, L2, A8, cap2, B, t, B1, d1, B2, d2, B3, d3, rfl, rfl, hr2, wt, hX⟩
      · refine WC_skip (thenN (WC_seq ?_))
        have happ := T.app (by simpa using h68)
        refine WC_pick (.s (.s (.s (.s (.s (.s (.z))))))) ?_
        refine WC_draw _ _ [] (.c 0 0 (.c 1 0 (.c 2 0 (.c 3 0 (.c 4 0 (.c 5 2 (.c 6 0 .nil))))))) mixed (fun _ _ _ _ h => h) (List.Sublist.cons _ (List.Sublist.cons_cons _ (List.Sublist.cons_cons _ (List.Sublist.cons_cons _ (List.Sublist.cons_cons _ (List.Sublist.cons_cons _ (List.Sublist.cons_cons _ (List.Sublist.refl _)))))))) (fun _ h => h) (by kernel_rfl) (by decide) fun ws Z0 => ?_
        refine Qe rfl (q_move rfl) ?_
        refine Qe rfl (q_nil rfl) ?_
        refine Qe rfl (q_field (o' := 1) Tryd.underlying61 rfl ti55 rfl rfl) ?_
        refine Qe rfl (q_load1 Tryd.underlying55 rfl rfl own0 rfl) ?_
        refine Qe rfl (q_loadN (vs := [_, _, _, _, _, _, _, _, _]) Tryd.underlying31 rfl ti31 rfl (ownS (ownS (own0))) rfl rfl) ?_
        refine WE_main rfl rfl (OW_call1 (apply_s b B Ae ce t eff wt (by omega) (by rw [hX]; exact happ) (by have := T.text; omega) (by have := T.rs; omega)) (.cons rfl (.cons rfl (.nil))) (by decide) (.z) (memc (.tail _ (.tail _ (.tail _ (.tail _ (.tail _ (.tail _ (.tail _ (.tail _ (.tail _ (.tail _ (.head _))))))))))) (memc (.tail _ (.tail _ (.tail _ (.tail _ (.tail _ (.tail _ (.tail _ (.tail _ (.tail _ (.tail _ (.tail _ (.tail _ (.tail _ (.head _)))))))))))))) (memc (.tail _ (.tail _ (.tail _ (.tail _ (.tail _ (.head _)))))) mem0))) fun u11_5 Lo fs hres => ?_)
        obtain ⟨Bn, tn, rfl, rfl, rfl, wtn, rtn⟩ := hres
        refine ⟨⟨(List.Sublist.cons _ (List.Sublist.cons_cons _ (List.Sublist.cons_cons _ (List.Sublist.cons_cons _ (List.Sublist.cons_cons _ (List.Sublist.cons_cons _ (List.Sublist.cons_cons _ (List.Sublist.refl _)))))))), (.tail _ (.head _))⟩, ?_⟩
        refine Qe rfl (q_assign rfl) ?_
        refine WE_end (WF_nil ?_)
        refine thenN (WC_seq (WC_region ?_))
        refine Lq (q_move rfl) ?_
        refine Lq (q_eql rfl rfl) ?_
        refine Lq (q_assign rfl) ?_
        refine WL_nil (thenN (WC_ret ?_))
        refine ⟨_, [_, _, _, _, _], [_, _, _, _, _, _], fun Z w hs => .tmp rfl (.nil), ?_, fun Z w hs => (((((hs.pick (.z)).pick (.s (.s (.s (.s (.s (.z))))))).pick (.s (.s (.s (.s (.s (.z))))))).pick (.s (.s (.s (.s (.z)))))).pick (.s (.s (.s (.s (.z)))))).out (List.Sublist.cons_cons _ (List.Sublist.cons_cons _ (List.Sublist.cons_cons _ (List.Sublist.cons_cons _ (List.Sublist.cons_cons _ (List.Sublist.cons _ (List.Sublist.cons _ (List.Sublist.refl _)))))))) (memc (.tail _ (.tail _ (.tail _ (.tail _ (.tail _ (.tail _ (.tail _ (.head _)))))))) (memc (.tail _ (.tail _ (.tail _ (.tail _ (.tail _ (.tail _ (.tail _ (.tail _ (.head _))))))))) (memc (.head _) (memc (.tail _ (.tail _ (.tail _ (.head _)))) (memc (.tail _ (.tail _ (.tail _ (.tail _ (.head _))))) (memc (.tail _ (.tail _ (.tail _ (.tail _ (.tail _ (.head _)))))) (fun _ h => .tail _ (.tail _ (.tail _ (.tail _ (.tail _ (.tail _ (.tail _ (.tail _ (.tail _ (.tail _ (.tail _ h)))))))))))))))))⟩
        exact ⟨rfl, L2, A8, cap2, Bn, tn, B1, d1, B2, d2, B3, d3, rfl, rfl, hr2, wtn, by rw [rtn, hX]⟩
    · refine WE_main rfl rfl (OW_alloc (cs := [_, _, _, _, _, _, _, _, _]) ti31 rfl (by decide) fun b7 => ?_)
      refine ⟨⟨(List.Sublist.cons _ (List.Sublist.cons_cons _ (List.Sublist.cons_cons _ (List.Sublist.cons _ (List.Sublist.cons _ (List.Sublist.cons _ (List.Sublist.cons_cons _ (List.Sublist.refl _)))))))), (.tail _ (.head _))⟩, ?_⟩
      refine WE_main rfl rfl (OW_call3 (put_s h m cap A H L hr i o A9 c9 hfit (by omega)) (.cons rfl (.cons rfl (.cons rfl (.nil)))) (by decide) (.s (.s (.s (.z)))) (.s (.s (.s (.z)))) (.s (.s (.s (.z)))) (memc (.tail _ (.tail _ (.head _))) (memc (.tail _ (.tail _ (.tail _ (.head _)))) (memc (.tail _ (.tail _ (.tail _ (.tail _ (.head _))))) (memc (.head _) mem0)))) fun u3_7 Lo fs hres => ?_)
      obtain ⟨L2, A8, cap2, Ae, ce, hr2, rfl, rfl, rfl⟩ := hres
      rw [T.put] at hr2 ⊢
      dsimp only at hr2 ⊢
      refine ⟨⟨(List.Sublist.cons _ (List.Sublist.cons _ (List.Sublist.cons _ (List.Sublist.cons _ (List.Sublist.cons_cons _ (List.Sublist.cons_cons _ (List.Sublist.cons_cons _ (List.Sublist.refl _)))))))), (.tail _ (.tail _ (.tail _ (.tail _ (.head _)))))⟩, ?_⟩
      refine Qe rfl (q_move rfl) ?_
      refine Qe rfl (q_extract (vs := [_, _]) rfl rfl) ?_
      refine WE_p rfl (q_extract (vs := [_, _]) rfl rfl) (by decide) ?_
      refine WE_end (WF_last rfl rfl (OW_storeN (cs' := [_, _, _, _, _, _, _, _, _]) (vs := [_, _, _, _, _, _, _, _, _]) ti31 rfl rfl rfl rfl rfl (Nat.le_of_ble_eq_true rfl) (.s (.s (.s (.z)))) ?_))
      refine WF_p rfl (q_assign rfl) (by decide) ?_
      refine WF_nil ?_
      refine thenN (WC_seq (WC_seq (WC_region ?_)))
      refine Lq (q_move rfl) ?_
      refine Lq (q_neq rfl rfl) ?_
      refine WL_nil (thenN (WC_false rfl rfl (WC_skip (thenN (WC_seq (WC_region ?_))))))
      refine Lq (q_move rfl) ?_
      refine Lq (q_move rfl) ?_
      refine Lq (q_loadN (vs := [_, _, _, _, _, _, _, _, _]) Tryd.underlying31 rfl ti31 rfl (ownS (ownS (ownS (ownS (own0))))) rfl rfl) ?_
      refine WL_main rfl (OW_call1 (notes_s v h b H.ents.length A1 c1 A2 c2 A3 c3 nx (idsOf H.ents) (kindsOf H.ents) (textsOf H.ents) i o Ao co (by simp [idsOf]) (by simp [kindsOf, idsOf]) (by simp [textsOf, idsOf]) (by simp only [idsOf, List.length_map]; exact g.le) (by omega) hV.nxl hcb) (.cons rfl (.cons rfl (.cons rfl (.nil)))) (by decide) (.s (.s (.s (.s (.s (.z)))))) (memc (.tail _ (.tail _ (.tail _ (.tail _ (.tail _ (.tail _ (.tail _ (.tail _ (.tail _ (.head _)))))))))) (memc (.tail _ (.tail _ (.tail _ (.tail _ (.tail _ (.tail _ (.tail _ (.tail _ (.tail _ (.tail _ (.head _))))))))))) (memc (.tail _ (.tail _ (.tail _ (.tail _ (.tail _ (.tail _ (.tail _ (.tail _ (.tail _ (.tail _ (.tail _ (.head _)))))))))))) mem0))) fun u6_3 Lo fs hres => ?_)
      obtain ⟨B1, d1, B2, d2, B3, d3, rfl, rfl, rfl⟩ := hres
      rw [T.ids, T.ks, T.ts]
      rw [show H.ents.length + 1 = H2.ents.length from by rw [T.len, hV.len]]
      refine WL_nil (thenN (WC_seq (WC_seq ?_)))
      refine WC_draw _ _ [] (.c 0 0 (.c 1 0 (.c 2 0 (.c 3 0 (.c 5 0 (.c 6 0 (.c 7 0 (.c 8 0 (.c 9 0 (.c 4 2 (.c 10 0 (.c 11 0 (.c 12 0 (.c 13 0 (.c 14 0 (.c 15 0 (.c 17 0 (.c 18 0 (.c 19 0 (.c 20 0 (.c 21 0 (.c 22 0 (.c 16 2 (.c 23 2 (.c 24 0 (.c 25 0 .nil)))))))))))))))))))))))))) mixed (fun _ _ _ _ h => h) (List.Sublist.cons_cons _ (List.Sublist.cons _ (List.Sublist.cons_cons _ (List.Sublist.cons_cons _ (List.Sublist.cons_cons _ (List.Sublist.cons_cons _ (List.Sublist.cons_cons _ (List.Sublist.refl _)))))))) (fun _ h => h) (by kernel_rfl) (by decide) fun ws Z0 => ?_
      refine Qe rfl (q_move rfl) ?_
      refine Qe rfl (q_nil rfl) ?_
      refine Qe rfl (q_field (o' := 0) Tryd.underlying61 rfl ti22 rfl rfl) ?_
      refine Qe rfl (q_load1 Tryd.underlying22 rfl rfl own0 rfl) ?_
      refine Qe rfl (q_move rfl) ?_
      refine Qe rfl (q_nil rfl) ?_
      refine Qe rfl (q_field (o' := 2) Tryd.underlying61 rfl ti56 rfl rfl) ?_
      refine Qe rfl (q_load1 Tryd.underlying56 rfl rfl own0 rfl) ?_
      refine Qe rfl (q_len Tryd.underlying56 rfl) ?_
      refine WE_main rfl rfl (OW_call1 (hlen_s h m H2.ops.length cap2 A8 H2.total) (.cons rfl (.nil)) (by decide) (.s (.z)) mem0 fun u7_4 Lo fs hres => ?_)
      obtain ⟨rfl, rfl, rfl⟩ := hres
      refine ⟨⟨(List.Sublist.cons _ (List.Sublist.cons_cons _ (List.Sublist.cons_cons _ (List.Sublist.cons_cons _ (List.Sublist.cons_cons _ (List.Sublist.cons_cons _ (List.Sublist.cons_cons _ (List.Sublist.refl _)))))))), (.head _)⟩, ?_⟩
      refine Qe rfl (q_neq rfl rfl) ?_
      refine Qe rfl (q_move rfl) ?_
      refine WE_gq rfl rfl rfl rfl (by rw [ho2]; simp) (q_move rfl) (by decide) ?_
      refine WE_gq rfl rfl rfl rfl (by rw [ho2]; simp) (q_nil rfl) (by decide) ?_
      refine WE_gq rfl rfl rfl rfl (by rw [ho2]; simp) (q_field (o' := 0) Tryd.underlying61 rfl ti22 rfl rfl) (by decide) ?_
      refine WE_gq rfl rfl rfl rfl (by rw [ho2]; simp) (q_load1 Tryd.underlying22 rfl rfl own0 rfl) (by decide) ?_
      refine WE_gq rfl rfl rfl rfl (by rw [ho2]; simp) (q_move rfl) (by decide) ?_
      refine WE_gq rfl rfl rfl rfl (by rw [ho2]; simp) (q_move rfl) (by decide) ?_
      refine WE_gq rfl rfl rfl rfl (by rw [ho2]; simp) (q_nil rfl) (by decide) ?_
      refine WE_gq rfl rfl rfl rfl (by rw [ho2]; simp) (q_field (o' := 2) Tryd.underlying61 rfl ti56 rfl rfl) (by decide) ?_
      refine WE_gq rfl rfl rfl rfl (by rw [ho2]; simp) (q_load1 Tryd.underlying56 rfl rfl own0 rfl) (by decide) ?_
      refine WE_gq rfl rfl rfl rfl (by rw [ho2]; simp) (q_len Tryd.underlying56 rfl) (by decide) ?_
      refine WE_gmain rfl rfl rfl rfl rfl (by rw [ho2]; simp) (OW_call1 (htotal_s h m H2.ops.length cap2 A8 H2.total) (.cons rfl (.nil)) (by decide) (.z) mem0 fun u7_16 Lo fs hres => ?_)
      obtain ⟨rfl, rfl, rfl⟩ := hres
      refine ⟨⟨(List.Sublist.cons _ (List.Sublist.cons_cons _ (List.Sublist.cons_cons _ (List.Sublist.cons_cons _ (List.Sublist.cons_cons _ (List.Sublist.cons_cons _ (List.Sublist.cons_cons _ (List.Sublist.refl _)))))))), (.head _)⟩, ?_⟩
      refine WE_gmain rfl rfl rfl rfl rfl (by rw [ho2]; simp) (OW_call1 (vtotal_s v h b H2.ents.length B1 d1 B2 d2 B3 d3 (nxF nx o.c o.n) (textsOf H2.ents) H2.ents.length (by simp [textsOf]) (Nat.le_refl _) (by rw [T.len]; omega) (fun j _ => by have := T.cb j; omega)) (.cons rfl (.cons rfl (.nil))) (by decide) (.s (.z)) (memc (.tail _ (.tail _ (.tail _ (.head _)))) mem0) fun u7_23 Lo fs hres => ?_)
      obtain ⟨rfl, rfl, rfl⟩ := hres
      refine ⟨⟨(List.Sublist.cons_cons _ (List.Sublist.cons _ (List.Sublist.cons_cons _ (List.Sublist.cons_cons _ (List.Sublist.cons_cons _ (List.Sublist.cons_cons _ (List.Sublist.cons_cons _ (List.Sublist.refl _)))))))), (.head _)⟩, ?_⟩
      refine WE_gq rfl rfl rfl rfl (by rw [ho2]; simp) (q_neq rfl rfl) (by decide) ?_
      refine Qe rfl (q_pickF rfl (by rw [ho2]; simp) rfl) ?_
      refine WE_end (WF_nil ?_)
      refine thenN ?_
      refine WC_fr [(64, _), (7, _), (6, _), (5, _), (0, _)] (.cons rfl (.cons rfl (.cons rfl (.cons rfl (.cons rfl (.nil _)))))) ?_
      refine WC_false rfl (by simp; omega) ?_
      refine WC_skip (thenN (WC_seq (WC_seq (WC_region ?_))))
      refine Lq (q_field (o' := 0) Tryd.underlying31 rfl ti28 rfl rfl) ?_
      refine Lq (q_field (o' := 2) Tryd.underlying28 rfl ti26 rfl rfl) ?_
      refine Lq (q_load1 Tryd.underlying26 rfl rfl (ownS (ownS (ownS (ownS (own0))))) rfl) ?_
      refine Lq (q_eql rfl rfl) ?_
      refine WL_nil (thenN ?_)
      refine WC_cond rfl (fun h68 => ?_) (fun h68 => ?_)
      · refine WC_seq ?_
        obtain ⟨hze, hk4⟩ := T.noEff (by simpa using h68)
        subst hze
        refine WC_fact (A := RdF rgD none 0 []) (fun Z w hs => RdS.nil _ _ _) ?_
        refine WC_region ?_
        refine Lq (q_field (o' := 0) Tryd.underlying31 rfl ti28 rfl rfl) ?_
        refine Lq (q_field (o' := 2) Tryd.underlying28 rfl ti26 rfl rfl) ?_
        refine Lq (q_load1 Tryd.underlying26 rfl rfl (ownS (ownS (ownS (ownS (ownS (own0)))))) rfl) ?_
        refine Lq (q_eql rfl rfl) ?_
        refine Lq (q_move rfl) ?_
        refine Lg rfl rfl rfl (by simpa using hk4) (q_loadN (vs := [_, _, _, _, _, _, _, _, _]) Tryd.underlying31 rfl ti31 rfl (ownS (ownS (ownS (ownS (own0))))) rfl rfl) ?_
        refine Lg rfl rfl rfl (by simpa using hk4) (q_build (.nil) (bd31Xw40)) ?_
        refine WL_gmain rfl rfl rfl (by simpa using hk4) (OW_call0 (eqOp_t zeroOp Ae none ce 0 (by decide)) (.cons rfl (.cons rfl (.nil))) (by decide) (memc (.tail _ (.tail _ (.tail _ (.tail _ (.tail _ (.head _)))))) (memc (.head _) mem0)) fun u10_7 Lo fs hres => ?_)
        obtain ⟨rfl, rfl, rfl⟩ := hres
        refine Lq (q_pickT rfl (by simpa using hk4) rfl) ?_
        refine Lq (q_assign rfl) ?_
        refine WL_nil (thenN (WC_ret (thenRet ?_)))
        refine ⟨_, [_, _, _, _, _], [_, _, _, _, _, _], fun Z w hs => .tmp rfl (.nil), ?_, fun Z w hs => hs.out (List.Sublist.cons_cons _ (List.Sublist.cons_cons _ (List.Sublist.cons_cons _ (List.Sublist.cons_cons _ (List.Sublist.cons _ (List.Sublist.cons _ (List.Sublist.cons_cons _ (List.Sublist.refl _)))))))) (memc (.tail _ (.tail _ (.tail _ (.tail _ (.tail _ (.tail _ (.head _))))))) (memc (.tail _ (.tail _ (.tail _ (.tail _ (.tail _ (.tail _ (.tail _ (.head _)))))))) (memc (.tail _ (.tail _ (.tail _ (.tail _ (.tail _ (.tail _ (.tail _ (.tail _ (.tail _ (.tail _ (.tail _ (.tail _ (.tail _ (.head _)))))))))))))) (memc (.tail _ (.tail _ (.head _))) (memc (.tail _ (.tail _ (.tail _ (.head _)))) (memc (.tail _ (.tail _ (.tail _ (.tail _ (.head _))))) (fun _ h => .tail _ (.tail _ (.tail _ (.tail _ (.tail _ (.tail _ (.tail _ (.tail _ (.tail _ (.tail _ h))))))))))))))))⟩
        exact ⟨rfl, L2, A8, cap2, B, t, B1, d1, B2, d2, B3, d3, rfl, rfl, hr2, wt, hX⟩
      · refine WC_skip (thenN (WC_seq ?_))
        have happ := T.app (by simpa using h68)
        refine WC_pick (.s (.s (.s (.s (.s (.s (.z))))))) ?_
        refine WC_draw _ _ [] (.c 0 0 (.c 1 0 (.c 2 0 (.c 3 0 (.c 4 0 (.c 5 2 (.c 6 0 .nil))))))) mixed (fun _ _ _ _ h => h) (List.Sublist.cons _ (List.Sublist.cons_cons _ (List.Sublist.cons_cons _ (List.Sublist.cons_cons _ (List.Sublist.cons_cons _ (List.Sublist.cons_cons _ (List.Sublist.cons_cons _ (List.Sublist.refl _)))))))) (fun _ h => h) (by kernel_rfl) (by decide) fun ws Z0 => ?_
        refine Qe rfl (q_move rfl) ?_
        refine Qe rfl (q_nil rfl) ?_
        refine Qe rfl (q_field (o' := 1) Tryd.underlying61 rfl ti55 rfl rfl) ?_
        refine Qe rfl (q_load1 Tryd.underlying55 rfl rfl own0 rfl) ?_
        refine Qe rfl (q_loadN (vs := [_, _, _, _, _, _, _, _, _]) Tryd.underlying31 rfl ti31 rfl (ownS (ownS (ownS (ownS (own0))))) rfl rfl) ?_
        refine WE_main rfl rfl (OW_call1 (apply_s b B Ae ce t eff wt (by omega) (by rw [hX]; exact happ) (by have := T.text; omega) (by have := T.rs; omega)) (.cons rfl (.cons rfl (.nil))) (by decide) (.z) (memc (.tail _ (.tail _ (.tail _ (.tail _ (.tail _ (.tail _ (.tail _ (.tail _ (.tail _ (.tail _ (.head _))))))))))) (memc (.tail _ (.tail _ (.tail _ (.tail _ (.tail _ (.tail _ (.tail _ (.tail _ (.tail _ (.tail _ (.tail _ (.tail _ (.tail _ (.head _)))))))))))))) (memc (.tail _ (.tail _ (.tail _ (.tail _ (.tail _ (.head _)))))) mem0))) fun u11_5 Lo fs hres => ?_)
        obtain ⟨Bn, tn, rfl, rfl, rfl, wtn, rtn⟩ := hres
        refine ⟨⟨(List.Sublist.cons _ (List.Sublist.cons_cons _ (List.Sublist.cons_cons _ (List.Sublist.cons_cons _ (List.Sublist.cons_cons _ (List.Sublist.cons_cons _ (List.Sublist.cons_cons _ (List.Sublist.refl _)))))))), (.tail _ (.head _))⟩, ?_⟩
        refine Qe rfl (q_assign rfl) ?_
        refine WE_end (WF_nil ?_)
        refine thenN (WC_seq (WC_region ?_))
        refine Lq (q_move rfl) ?_
        refine Lq (q_eql rfl rfl) ?_
        refine Lq (q_assign rfl) ?_
        refine WL_nil (thenN (WC_ret ?_))
        refine ⟨_, [_, _, _, _, _], [_, _, _, _, _, _], fun Z w hs => .tmp rfl (.nil), ?_, fun Z w hs => (((((hs.pick (.z)).pick (.s (.s (.s (.s (.z)))))).pick (.s (.s (.s (.s (.z)))))).pick (.s (.s (.s (.s (.z)))))).pick (.s (.s (.s (.s (.z)))))).out (List.Sublist.cons_cons _ (List.Sublist.cons_cons _ (List.Sublist.cons_cons _ (List.Sublist.cons_cons _ (List.Sublist.cons_cons _ (List.Sublist.cons _ (List.Sublist.cons _ (List.Sublist.refl _)))))))) (memc (.tail _ (.tail _ (.tail _ (.tail _ (.tail _ (.tail _ (.tail _ (.head _)))))))) (memc (.tail _ (.tail _ (.tail _ (.tail _ (.tail _ (.tail _ (.tail _ (.tail _ (.head _))))))))) (memc (.head _) (memc (.tail _ (.tail _ (.tail _ (.head _)))) (memc (.tail _ (.tail _ (.tail _ (.tail _ (.head _))))) (memc (.tail _ (.tail _ (.tail _ (.tail _ (.tail _ (.head _)))))) (fun _ h => .tail _ (.tail _ (.tail _ (.tail _ (.tail _ (.tail _ (.tail _ (.tail _ (.tail _ (.tail _ (.tail _ h)))))))))))))))))⟩
        exact ⟨rfl, L2, A8, cap2, Bn, tn, B1, d1, B2, d2, B3, d3, rfl, rfl, hr2, wtn, by rw [rtn, hX]⟩
  · refine WE_main rfl rfl (OW_alloc (cs := [_, _, _, _, _, _, _, _, _]) ti31 rfl (by decide) fun b7 => ?_)
    refine ⟨⟨(List.Sublist.cons _ (List.Sublist.cons_cons _ (List.Sublist.cons_cons _ (List.Sublist.cons _ (List.Sublist.cons _ (List.Sublist.cons _ (List.Sublist.cons_cons _ (List.Sublist.refl _)))))))), (.head _)⟩, ?_⟩
    refine WE_main rfl rfl (OW_call0 (lown_s o Ao co hfit.rs) (.cons rfl (.nil)) (by decide) (memc (.tail _ (.tail _ (.tail _ (.tail _ (.tail _ (.tail _ (.tail _ (.tail _ (.head _))))))))) mem0) fun u3_6 Lo fs hres => ?_)
    obtain ⟨A9, c9, rfl, rfl, rfl⟩ := hres
    refine ⟨⟨(List.Sublist.cons _ (List.Sublist.cons_cons _ (List.Sublist.cons_cons _ (List.Sublist.cons _ (List.Sublist.cons _ (List.Sublist.cons _ (List.Sublist.cons_cons _ (List.Sublist.refl _)))))))), (.tail _ (.head _))⟩, ?_⟩
    refine WE_main rfl rfl (OW_call3 (put_s h m cap A H L hr i o A9 c9 hfit (by omega)) (.cons rfl (.cons rfl (.cons rfl (.nil)))) (by decide) (.s (.s (.s (.z)))) (.s (.s (.s (.z)))) (.s (.s (.s (.z)))) (memc (.tail _ (.tail _ (.head _))) (memc (.tail _ (.tail _ (.tail _ (.head _)))) (memc (.tail _ (.tail _ (.tail _ (.tail _ (.head _))))) (memc (.head _) mem0)))) fun u3_7 Lo fs hres => ?_)
    obtain ⟨L2, A8, cap2, Ae, ce, hr2, rfl, rfl, rfl⟩ := hres
    rw [T.put] at hr2 ⊢
    dsimp only at hr2 ⊢
    refine ⟨⟨(List.Sublist.cons _ (List.Sublist.cons _ (List.Sublist.cons _ (List.Sublist.cons _ (List.Sublist.cons_cons _ (List.Sublist.cons_cons _ (List.Sublist.cons_cons _ (List.Sublist.refl _)))))))), (.tail _ (.tail _ (.tail _ (.tail _ (.head _)))))⟩, ?_⟩
    refine Qe rfl (q_move rfl) ?_
    refine Qe rfl (q_extract (vs := [_, _]) rfl rfl) ?_
    refine WE_p rfl (q_extract (vs := [_, _]) rfl rfl) (by decide) ?_
    refine WE_end (WF_last rfl rfl (OW_storeN (cs' := [_, _, _, _, _, _, _, _, _]) (vs := [_, _, _, _, _, _, _, _, _]) ti31 rfl rfl rfl rfl rfl (Nat.le_of_ble_eq_true rfl) (.s (.s (.s (.z)))) ?_))
    refine WF_p rfl (q_assign rfl) (by decide) ?_
    refine WF_nil ?_
    refine thenN (WC_seq (WC_seq (WC_region ?_)))
    refine Lq (q_move rfl) ?_
    refine Lq (q_neq rfl rfl) ?_
    refine WL_nil (thenN (WC_false rfl rfl (WC_skip (thenN (WC_seq (WC_region ?_))))))
    refine Lq (q_move rfl) ?_
    refine Lq (q_move rfl) ?_
    refine Lq (q_loadN (vs := [_, _, _, _, _, _, _, _, _]) Tryd.underlying31 rfl ti31 rfl (ownS (ownS (ownS (ownS (own0))))) rfl rfl) ?_
    refine WL_main rfl (OW_call1 (notes_s v h b H.ents.length A1 c1 A2 c2 A3 c3 nx (idsOf H.ents) (kindsOf H.ents) (textsOf H.ents) i o Ao co (by simp [idsOf]) (by simp [kindsOf, idsOf]) (by simp [textsOf, idsOf]) (by simp only [idsOf, List.length_map]; exact g.le) (by omega) hV.nxl hcb) (.cons rfl (.cons rfl (.cons rfl (.nil)))) (by decide) (.s (.s (.s (.s (.s (.z)))))) (memc (.tail _ (.tail _ (.tail _ (.tail _ (.tail _ (.tail _ (.tail _ (.tail _ (.tail _ (.head _)))))))))) (memc (.tail _ (.tail _ (.tail _ (.tail _ (.tail _ (.tail _ (.tail _ (.tail _ (.tail _ (.tail _ (.head _))))))))))) (memc (.tail _ (.tail _ (.tail _ (.tail _ (.tail _ (.tail _ (.tail _ (.tail _ (.tail _ (.tail _ (.tail _ (.head _)))))))))))) mem0))) fun u6_3 Lo fs hres => ?_)
    obtain ⟨B1, d1, B2, d2, B3, d3, rfl, rfl, rfl⟩ := hres
    rw [T.ids, T.ks, T.ts]
    rw [show H.ents.length + 1 = H2.ents.length from by rw [T.len, hV.len]]
    refine WL_nil (thenN (WC_seq (WC_seq ?_)))
    refine WC_draw _ _ [] (.c 0 0 (.c 1 0 (.c 2 0 (.c 3 0 (.c 5 0 (.c 6 0 (.c 7 0 (.c 8 0 (.c 9 0 (.c 4 2 (.c 10 0 (.c 11 0 (.c 12 0 (.c 13 0 (.c 14 0 (.c 15 0 (.c 17 0 (.c 18 0 (.c 19 0 (.c 20 0 (.c 21 0 (.c 22 0 (.c 16 2 (.c 23 2 (.c 24 0 (.c 25 0 .nil)))))))))))))))))))))))))) mixed (fun _ _ _ _ h => h) (List.Sublist.cons_cons _ (List.Sublist.cons _ (List.Sublist.cons_cons _ (List.Sublist.cons_cons _ (List.Sublist.cons_cons _ (List.Sublist.cons_cons _ (List.Sublist.cons_cons _ (List.Sublist.refl _)))))))) (fun _ h => h) (by kernel_rfl) (by decide) fun ws Z0 => ?_
    refine Qe rfl (q_move rfl) ?_
    refine Qe rfl (q_nil rfl) ?_
    refine Qe rfl (q_field (o' := 0) Tryd.underlying61 rfl ti22 rfl rfl) ?_
    refine Qe rfl (q_load1 Tryd.underlying22 rfl rfl own0 rfl) ?_
    refine Qe rfl (q_move rfl) ?_
    refine Qe rfl (q_nil rfl) ?_
    refine Qe rfl (q_field (o' := 2) Tryd.underlying61 rfl ti56 rfl rfl) ?_
    refine Qe rfl (q_load1 Tryd.underlying56 rfl rfl own0 rfl) ?_
    refine Qe rfl (q_len Tryd.underlying56 rfl) ?_
    refine WE_main rfl rfl (OW_call1 (hlen_s h m H2.ops.length cap2 A8 H2.total) (.cons rfl (.nil)) (by decide) (.s (.z)) mem0 fun u7_4 Lo fs hres => ?_)
    obtain ⟨rfl, rfl, rfl⟩ := hres
    refine ⟨⟨(List.Sublist.cons _ (List.Sublist.cons_cons _ (List.Sublist.cons_cons _ (List.Sublist.cons_cons _ (List.Sublist.cons_cons _ (List.Sublist.cons_cons _ (List.Sublist.cons_cons _ (List.Sublist.refl _)))))))), (.head _)⟩, ?_⟩
    refine Qe rfl (q_neq rfl rfl) ?_
    refine Qe rfl (q_move rfl) ?_
    refine WE_gq rfl rfl rfl rfl (by rw [ho2]; simp) (q_move rfl) (by decide) ?_
    refine WE_gq rfl rfl rfl rfl (by rw [ho2]; simp) (q_nil rfl) (by decide) ?_
    refine WE_gq rfl rfl rfl rfl (by rw [ho2]; simp) (q_field (o' := 0) Tryd.underlying61 rfl ti22 rfl rfl) (by decide) ?_
    refine WE_gq rfl rfl rfl rfl (by rw [ho2]; simp) (q_load1 Tryd.underlying22 rfl rfl own0 rfl) (by decide) ?_
    refine WE_gq rfl rfl rfl rfl (by rw [ho2]; simp) (q_move rfl) (by decide) ?_
    refine WE_gq rfl rfl rfl rfl (by rw [ho2]; simp) (q_move rfl) (by decide) ?_
    refine WE_gq rfl rfl rfl rfl (by rw [ho2]; simp) (q_nil rfl) (by decide) ?_
    refine WE_gq rfl rfl rfl rfl (by rw [ho2]; simp) (q_field (o' := 2) Tryd.underlying61 rfl ti56 rfl rfl) (by decide) ?_
    refine WE_gq rfl rfl rfl rfl (by rw [ho2]; simp) (q_load1 Tryd.underlying56 rfl rfl own0 rfl) (by decide) ?_
    refine WE_gq rfl rfl rfl rfl (by rw [ho2]; simp) (q_len Tryd.underlying56 rfl) (by decide) ?_
    refine WE_gmain rfl rfl rfl rfl rfl (by rw [ho2]; simp) (OW_call1 (htotal_s h m H2.ops.length cap2 A8 H2.total) (.cons rfl (.nil)) (by decide) (.z) mem0 fun u7_16 Lo fs hres => ?_)
    obtain ⟨rfl, rfl, rfl⟩ := hres
    refine ⟨⟨(List.Sublist.cons _ (List.Sublist.cons_cons _ (List.Sublist.cons_cons _ (List.Sublist.cons_cons _ (List.Sublist.cons_cons _ (List.Sublist.cons_cons _ (List.Sublist.cons_cons _ (List.Sublist.refl _)))))))), (.head _)⟩, ?_⟩
    refine WE_gmain rfl rfl rfl rfl rfl (by rw [ho2]; simp) (OW_call1 (vtotal_s v h b H2.ents.length B1 d1 B2 d2 B3 d3 (nxF nx o.c o.n) (textsOf H2.ents) H2.ents.length (by simp [textsOf]) (Nat.le_refl _) (by rw [T.len]; omega) (fun j _ => by have := T.cb j; omega)) (.cons rfl (.cons rfl (.nil))) (by decide) (.s (.z)) (memc (.tail _ (.tail _ (.tail _ (.head _)))) mem0) fun u7_23 Lo fs hres => ?_)
    obtain ⟨rfl, rfl, rfl⟩ := hres
    refine ⟨⟨(List.Sublist.cons_cons _ (List.Sublist.cons _ (List.Sublist.cons_cons _ (List.Sublist.cons_cons _ (List.Sublist.cons_cons _ (List.Sublist.cons_cons _ (List.Sublist.cons_cons _ (List.Sublist.refl _)))))))), (.head _)⟩, ?_⟩
    refine WE_gq rfl rfl rfl rfl (by rw [ho2]; simp) (q_neq rfl rfl) (by decide) ?_
    refine Qe rfl (q_pickF rfl (by rw [ho2]; simp) rfl) ?_
    refine WE_end (WF_nil ?_)
    refine thenN ?_
    refine WC_fr [(64, _), (7, _), (6, _), (5, _), (0, _)] (.cons rfl (.cons rfl (.cons rfl (.cons rfl (.cons rfl (.nil _)))))) ?_
    refine WC_false rfl (by simp; omega) ?_
    refine WC_skip (thenN (WC_seq (WC_seq (WC_region ?_))))
    refine Lq (q_field (o' := 0) Tryd.underlying31 rfl ti28 rfl rfl) ?_
    refine Lq (q_field (o' := 2) Tryd.underlying28 rfl ti26 rfl rfl) ?_
    refine Lq (q_load1 Tryd.underlying26 rfl rfl (ownS (ownS (ownS (ownS (own0))))) rfl) ?_
    refine Lq (q_eql rfl rfl) ?_
    refine WL_nil (thenN ?_)
    refine WC_cond rfl (fun h68 => ?_) (fun h68 => ?_)
    · refine WC_seq ?_
      obtain ⟨hze, hk4⟩ := T.noEff (by simpa using h68)
      subst hze
      refine WC_fact (A := RdF rgD none 0 []) (fun Z w hs => RdS.nil _ _ _) ?_
      refine WC_region ?_
      refine Lq (q_field (o' := 0) Tryd.underlying31 rfl ti28 rfl rfl) ?_
      refine Lq (q_field (o' := 2) Tryd.underlying28 rfl ti26 rfl rfl) ?_
      refine Lq (q_load1 Tryd.underlying26 rfl rfl (ownS (ownS (ownS (ownS (ownS (own0)))))) rfl) ?_
      refine Lq (q_eql rfl rfl) ?_
      refine Lq (q_move rfl) ?_
      refine Lg rfl rfl rfl (by simpa using hk4) (q_loadN (vs := [_, _, _, _, _, _, _, _, _]) Tryd.underlying31 rfl ti31 rfl (ownS (ownS (ownS (ownS (own0))))) rfl rfl) ?_
      refine Lg rfl rfl rfl (by simpa using hk4) (q_build (.nil) (bd31Xw40)) ?_
      refine WL_gmain rfl rfl rfl (by simpa using hk4) (OW_call0 (eqOp_t zeroOp Ae none ce 0 (by decide)) (.cons rfl (.cons rfl (.nil))) (by decide) (memc (.tail _ (.tail _ (.tail _ (.tail _ (.tail _ (.head _)))))) (memc (.head _) mem0)) fun u10_7 Lo fs hres => ?_)
      obtain ⟨rfl, rfl, rfl⟩ := hres
      refine Lq (q_pickT rfl (by simpa using hk4) rfl) ?_
      refine Lq (q_assign rfl) ?_
      refine WL_nil (thenN (WC_ret (thenRet ?_)))
      refine ⟨_, [_, _, _, _, _], [_, _, _, _, _, _], fun Z w hs => .tmp rfl (.nil), ?_, fun Z w hs => hs.out (List.Sublist.cons_cons _ (List.Sublist.cons_cons _ (List.Sublist.cons_cons _ (List.Sublist.cons_cons _ (List.Sublist.cons _ (List.Sublist.cons _ (List.Sublist.cons_cons _ (List.Sublist.refl _)))))))) (memc (.tail _ (.tail _ (.tail _ (.tail _ (.tail _ (.tail _ (.head _))))))) (memc (.tail _ (.tail _ (.tail _ (.tail _ (.tail _ (.tail _ (.tail _ (.head _)))))))) (memc (.tail _ (.tail _ (.tail _ (.tail _ (.tail _ (.tail _ (.tail _ (.tail _ (.tail _ (.tail _ (.tail _ (.tail _ (.tail _ (.head _)))))))))))))) (memc (.tail _ (.tail _ (.head _))) (memc (.tail _ (.tail _ (.tail _ (.head _)))) (memc (.tail _ (.tail _ (.tail _ (.tail _ (.head _))))) (fun _ h => .tail _ (.tail _ (.tail _ (.tail _ (.tail _ (.tail _ (.tail _ (.tail _ (.tail _ (.tail _ h))))))))))))))))⟩
      exact ⟨rfl, L2, A8, cap2, B, t, B1, d1, B2, d2, B3, d3, rfl, rfl, hr2, wt, hX⟩
    · refine WC_skip (thenN (WC_seq ?_))
      have happ := T.app (by simpa using h68)
      refine WC_pick (.s (.s (.s (.s (.s (.s (.z))))))) ?_
      refine WC_draw _ _ [] (.c 0 0 (.c 1 0 (.c 2 0 (.c 3 0 (.c 4 0 (.c 5 2 (.c 6 0 .nil))))))) mixed (fun _ _ _ _ h => h) (List.Sublist.cons _ (List.Sublist.cons_cons _ (List.Sublist.cons_cons _ (List.Sublist.cons_cons _ (List.Sublist.cons_cons _ (List.Sublist.cons_cons _ (List.Sublist.cons_cons _ (List.Sublist.refl _)))))))) (fun _ h => h) (by kernel_rfl) (by decide) fun ws Z0 => ?_
      refine Qe rfl (q_move rfl) ?_
      refine Qe rfl (q_nil rfl) ?_
      refine Qe rfl (q_field (o' := 1) Tryd.underlying61 rfl ti55 rfl rfl) ?_
      refine Qe rfl (q_load1 Tryd.underlying55 rfl rfl own0 rfl) ?_
      refine Qe rfl (q_loadN (vs := [_, _, _, _, _, _, _, _, _]) Tryd.underlying31 rfl ti31 rfl (ownS (ownS (ownS (ownS (own0))))) rfl rfl) ?_
      refine WE_main rfl rfl (OW_call1 (apply_s b B Ae ce t eff wt (by omega) (by rw [hX]; exact happ) (by have := T.text; omega) (by have := T.rs; omega)) (.cons rfl (.cons rfl (.nil))) (by decide) (.z) (memc (.tail _ (.tail _ (.tail _ (.tail _ (.tail _ (.tail _ (.tail _ (.tail _ (.tail _ (.tail _ (.head _))))))))))) (memc (.tail _ (.tail _ (.tail _ (.tail _ (.tail _ (.tail _ (.tail _ (.tail _ (.tail _ (.tail _ (.tail _ (.tail _ (.tail _ (.head _)))))))))))))) (memc (.tail _ (.tail _ (.tail _ (.tail _ (.tail _ (.head _)))))) mem0))) fun u11_5 Lo fs hres => ?_)
      obtain ⟨Bn, tn, rfl, rfl, rfl, wtn, rtn⟩ := hres
      refine ⟨⟨(List.Sublist.cons _ (List.Sublist.cons_cons _ (List.Sublist.cons_cons _ (List.Sublist.cons_cons _ (List.Sublist.cons_cons _ (List.Sublist.cons_cons _ (List.Sublist.cons_cons _ (List.Sublist.refl _)))))))), (.tail _ (.head _))⟩, ?_⟩
      refine Qe rfl (q_assign rfl) ?_
      refine WE_end (WF_nil ?_)
      refine thenN (WC_seq (WC_region ?_))
      refine Lq (q_move rfl) ?_
      refine Lq (q_eql rfl rfl) ?_
      refine Lq (q_assign rfl) ?_
      refine WL_nil (thenN (WC_ret ?_))
      refine ⟨_, [_, _, _, _, _], [_, _, _, _, _, _], fun Z w hs => .tmp rfl (.nil), ?_, fun Z w hs => (((((hs.pick (.z)).pick (.s (.s (.s (.s (.z)))))).pick (.s (.s (.s (.s (.z)))))).pick (.s (.s (.s (.s (.z)))))).pick (.s (.s (.s (.s (.z)))))).out (List.Sublist.cons_cons _ (List.Sublist.cons_cons _ (List.Sublist.cons_cons _ (List.Sublist.cons_cons _ (List.Sublist.cons_cons _ (List.Sublist.cons _ (List.Sublist.cons _ (List.Sublist.refl _)))))))) (memc (.tail _ (.tail _ (.tail _ (.tail _ (.tail _ (.tail _ (.tail _ (.head _)))))))) (memc (.tail _ (.tail _ (.tail _ (.tail _ (.tail _ (.tail _ (.tail _ (.tail _ (.head _))))))))) (memc (.head _) (memc (.tail _ (.tail _ (.tail _ (.head _)))) (memc (.tail _ (.tail _ (.tail _ (.tail _ (.head _))))) (memc (.tail _ (.tail _ (.tail _ (.tail _ (.tail _ (.head _)))))) (fun _ h => .tail _ (.tail _ (.tail _ (.tail _ (.tail _ (.tail _ (.tail _ (.tail _ (.tail _ (.tail _ (.tail _ h)))))))))))))))))⟩
      exact ⟨rfl, L2, A8, cap2, Bn, tn, B1, d1, B2, d2, B3, d3, rfl, rfl, hr2, wtn, by rw [rtn, hX]⟩

end Go.Proofs.YtggdddkbhigjoaaDoor
/- Walks: fed. -/
namespace Go.Proofs.YtggdddkbhigjoaaDoor
open Go Go.GW
def mvD : De Mv where
  sz := 6
  rep _ _ x cs := cs = mvC x
  len h := by subst h; rfl
  one h := by subst h; rfl
  stable _ _ _ _ _ h := h
theorem mv_open (u : Mv) : ∀ Z w cs, mvD.rep Z w u cs → ∃ y : Unit, cs = mvC u ∧ ∀ B ∈ ([] : List Fact), B.holds Z w := fun _ _ _ h => ⟨(), h, fun _ h => by cases h⟩
def FedP : Value → List Part → List Fact → Prop := fun u Lo fs => ∃ (v h m b n : Nat) (H : Hist) (X : List Ce) (nx : List Int), u = .tuple #[.pointer (some ⟨v, 0, none⟩), .bool true] ∧ ViewAt v h m b H X nx Lo fs ∧ VI n n H X nx ∧ n ≤ 20
structure FeI (k : Nat) (H : Hist) (X : List Ce) (nx : List Int) (L : List MR) (t : Tr) : Prop where
  le : k ≤ 20
  vi : VI k k H X nx
  hr : HR H L
  wt : Wf t
  hX : t.row = X

set_option maxRecDepth 10000 in
theorem fed_s (Am : Option Addr) (cm : Nat) (ms : List Mv) : Sp Tryd.prog 18 [.slice Am ms.length cm] [] [barF, RdF mvD Am cm ms] FedP := by
  refine Sp.of (n := 51) ⟨_, Tryd.func18, rfl, rfl, rfl, rfl⟩ (Nat.le_of_ble_eq_true rfl) fun Ps As => ?_
  refine WC_seq (WC_region ?_)
  refine Lq (q_assign rfl) ?_
  refine Lq (q_assign rfl) ?_
  refine WL_nil (thenN (WC_seq (WC_region ?_)))
  refine WL_main rfl (OW_call0 (newView_s) (.nil) (by decide) mem0 fun u1_0 Lo fs hres => ?_)
  obtain ⟨v, h, m, b, rfl, L0, A0, cap0, B0, t0, A10, c10, A20, c20, A30, c30, rfl, rfl, hr0, wt0, hX0⟩ := hres
  refine Lq (q_move rfl) ?_
  refine Lq (q_extract (vs := [_, _]) rfl rfl) ?_
  refine Lq (q_extract (vs := [_, _]) rfl rfl) ?_
  refine Lq (q_assign rfl) ?_
  refine Lq (q_assign rfl) ?_
  refine WL_nil (thenN (WC_seq (WC_seq (WC_region ?_))))
  refine Lq (q_move rfl) ?_
  refine Lq (q_not rfl) ?_
  refine WL_nil (thenN (WC_false rfl rfl (WC_skip (thenN (WC_seq (WC_seq (WC_region ?_)))))))
  refine Lq (q_assign rfl) ?_
  refine WL_nil (thenN (WC_block ?_))
  refine WC_loopE (α := Nat × Hist × List Ce × List Int × List MR × Option Addr × Nat × Option Addr × Tr × Option Addr × Nat × Option Addr × Nat × Option Addr × Nat) (fun (k, H, X, nx, L, A, cap, B, t, A1, c1, A2, c2, A3, c3) => 20 - k)
    (fun (k, H, X, nx, L, A, cap, B, t, A1, c1, A2, c2, A3, c3) => [(0, .slice Am ms.length cm), (4, .pointer (some ⟨v, 0, none⟩)), (6, .int .i64 k)])
    (fun (k, H, X, nx, L, A, cap, B, t, A1, c1, A2, c2, A3, c3) => (vwP v h b A1 H.ents.length c1 A2 c2 A3 c3 nx :: hdP h A H.ops.length cap m H.total :: mpP m L :: mkP L :: rpP b B :: Ps))
    (fun (k, H, X, nx, L, A, cap, B, t, A1, c1, A2, c2, A3, c3) => (RdF opD A cap H.ops :: AllF L nowF :: TrF B t :: RdF idD A1 c1 (idsOf H.ents) :: RdF (De.int .i64) A2 c2 (kindsOf H.ents) :: RdF De.str A3 c3 (textsOf H.ents) :: barF :: RdF mvD Am cm ms :: As))
    (fun (k, H, X, nx, L, A, cap, B, t, A1, c1, A2, c2, A3, c3) => FeI k H X nx L t)
    (0, ⟨[], 0⟩, [], List.replicate 9 0, L0, A0, cap0, B0, t0, A10, c10, A20, c20, A30, c30) ?_ (.cons rfl (.cons rfl (.cons rfl (.nil _)))) (List.Sublist.cons_cons _ (List.Sublist.cons_cons _ (List.Sublist.cons_cons _ (List.Sublist.cons_cons _ (List.Sublist.cons_cons _ (List.Sublist.refl _)))))) (fun _ h => h) ?_
  · exact ⟨Nat.zero_le _, VI.zero, hr0, wt0, hX0⟩
  · rintro ⟨k, H, X, nx, L, A, cap, B, t, A1, c1, A2, c2, A3, c3⟩ hI
    refine WC_seq (WC_seq (WC_region ?_))
    refine Lq (q_move rfl) ?_
    refine Lq (q_move rfl) ?_
    refine Lq (q_len Tryd.underlying49 rfl) ?_
    refine Lq (q_lss rfl rfl) ?_
    refine Lq (q_move rfl) ?_
    refine WL_guard (t := 19) rfl (fun g19 => ?_) (fun g19 => ?_)
    · refine Lg rfl rfl rfl g19 (q_move rfl) ?_
      refine Lg rfl rfl rfl g19 (q_lss rfl rfl) ?_
      refine Lq (q_pickT rfl g19 rfl) ?_
      refine WL_nil (thenN ?_)
      refine WC_cond rfl (fun h22 => ?_) (fun h22 => ?_)
      · refine WC_skip (thenN (WC_seq (WC_block (WC_seq ?_))))
        have hkm : k < ms.length := by simp only [decide_eq_true_eq] at g19; omega
        have hk20 : k < 20 := by simp only [decide_eq_true_eq] at h22; omega
        have hV := hI.vi
        have hnl := hV.len
        refine WC_elem (k := k) (.tail _ (.tail _ (.tail _ (.tail _ (.tail _ (.tail _ (.tail _ (.head _)))))))) (List.getElem?_eq_getElem hkm) (mv_open _) fun b7 q7 y7 e7 => ?_
        cases e7
        refine WC_pick (.s (.s (.s (.s (.z))))) ?_
        refine WC_pick (.s (.s (.s (.s (.z))))) ?_
        refine WC_pick (.s (.s (.s (.s (.z))))) ?_
        refine WC_pick (.s (.s (.s (.s (.z))))) ?_
        refine WC_pick (.s (.s (.s (.s (.z))))) ?_
        refine WC_draw _ _ [] (.c 0 0 (.c 1 0 (.c 2 0 (.c 3 0 (.c 4 0 (.c 5 0 (.c 6 0 (.c 7 0 (.c 8 0 (.c 9 0 (.c 10 0 (.c 11 2 (.c 12 0 .nil))))))))))))) mixed (fun _ _ _ _ h => h) (List.Sublist.cons_cons _ (List.Sublist.cons_cons _ (List.Sublist.cons_cons _ (List.Sublist.cons_cons _ (List.Sublist.cons_cons _ (List.Sublist.refl _)))))) (fun _ h => h) (by kernel_rfl) (by decide) fun ws Z0 => ?_
        refine Qe rfl (q_move rfl) ?_
        refine Qe rfl (q_move rfl) ?_
        refine Qe rfl (q_idxRd Tryd.underlying49 ti51 rfl rfl (by omega) (by omega)) ?_
        refine Qe rfl (q_field (o' := _ + 1) Tryd.underlying51 rfl ti3 rfl rfl) ?_
        refine Qe rfl (q_loadF1 (j := 1) Tryd.underlying3 rfl rfl (.head _) rfl rfl) ?_
        refine Qe rfl (q_move rfl) ?_
        refine Qe rfl (q_nil rfl) ?_
        refine Qe rfl (q_field (o' := 2) Tryd.underlying61 rfl ti56 rfl rfl) ?_
        refine Qe rfl (q_load1 Tryd.underlying56 rfl rfl own0 rfl) ?_
        refine Qe rfl (q_len Tryd.underlying56 rfl) ?_
        refine Qe rfl (q_add rfl rfl (by rw [hnl]; exact wr64 (by omega)) (c := ((k + 1 : Nat) : Int))) ?_
        refine WE_main rfl rfl (OW_call0 (rest_r ms[k].i (k + 1) (by omega)) (.cons rfl (.cons rfl (.nil))) (by decide) mem0 fun u7_11 Lo fs hres => ?_)
        obtain ⟨r36, hr36, hm36, rfl, rfl, rfl⟩ := hres
        refine ⟨⟨(List.Sublist.cons_cons _ (List.Sublist.cons_cons _ (List.Sublist.cons_cons _ (List.Sublist.cons_cons _ (List.Sublist.cons_cons _ (List.Sublist.refl _)))))), (.head _)⟩, ?_⟩
        refine Qe rfl (q_assign rfl) ?_
        refine WE_end (WF_nil ?_)
        refine thenN (WC_seq ?_)
        have hi : r36 ≤ k := by omega
        refine WC_region ?_
        refine Lq (q_move rfl) ?_
        refine Lq (q_move rfl) ?_
        refine Lq (q_move rfl) ?_
        refine Lq (q_move rfl) ?_
        refine Lq (q_move rfl) ?_
        refine Lq (q_idxRd Tryd.underlying49 ti51 rfl rfl (by omega) (by omega)) ?_
        refine Lq (q_loadFN (k := 0) (vs := [_, _, _, _, _, _]) Tryd.underlying51 rfl ti51 rfl (.tail _ (.head _)) rfl rfl rfl) ?_
        refine Lq (q_move rfl) ?_
        refine WL_main rfl (OW_call1 (makes_s k k X H v h b A1 c1 A2 c2 A3 c3 nx ms[k] r36 hV (by omega) hi) (.cons rfl (.cons rfl (.cons rfl (.nil)))) (by decide) (.z) (memc (.tail _ (.tail _ (.tail _ (.tail _ (.tail _ (.head _)))))) (memc (.tail _ (.tail _ (.tail _ (.tail _ (.tail _ (.tail _ (.head _))))))) (memc (.tail _ (.tail _ (.tail _ (.tail _ (.tail _ (.tail _ (.tail _ (.head _)))))))) mem0))) fun u8_8 Lo fs hres => ?_)
        obtain ⟨o, Ao, co, x, rfl, rfl, rfl, hoc, hox, hon, hbo⟩ := hres
        have hx0 := hV.nx0 x (List.mem_of_getElem? hox)
        have hocb : 1 ≤ o.c ∧ o.c ≤ 8 := by omega
        have hgood : Good H r36 o := hbo.good o.c o.n (by rw [hon]; exact hV.fresh hox hocb (by omega)) (by unfold rightF; simp; omega)
        have hV2 := hV.step hgood (by omega) (N' := ((k + 1 : Nat) : Int)) (by omega) (by omega)
        refine WL_main rfl (OW_callP (takes_1 k k X v h m b H L A cap B t A1 c1 A2 c2 A3 c3 nx r36 o Ao co hV hI.hr hI.wt hI.hX hgood (by have := hbo.text; omega)) (.cons rfl (.cons rfl (.cons rfl (.nil)))) (by decide) (List.Perm.refl _) (memc (.tail _ (.tail _ (.tail _ (.tail _ (.tail _ (.tail _ (.tail _ (.tail _ (.tail _ (.head _)))))))))) (memc (.tail _ (.tail _ (.tail _ (.head _)))) (memc (.tail _ (.tail _ (.tail _ (.tail _ (.head _))))) (memc (.tail _ (.tail _ (.tail _ (.tail _ (.tail _ (.head _)))))) (memc (.tail _ (.tail _ (.tail _ (.tail _ (.tail _ (.tail _ (.head _))))))) (memc (.tail _ (.tail _ (.tail _ (.tail _ (.tail _ (.tail _ (.tail _ (.head _)))))))) (memc (.tail _ (.tail _ (.tail _ (.tail _ (.tail _ (.tail _ (.tail _ (.tail _ (.head _))))))))) (memc (.head _) mem0)))))))) fun u8_9 Lo fs hres => ?_)
        obtain ⟨rfl, L9, A9, cap9, B9, t9, A19, c19, A29, c29, A39, c39, rfl, rfl, hr9, wt9, hX9⟩ := hres
        obtain ⟨H9, hH9⟩ : ∃ z, z = (putF H r36 o).1 := ⟨_, rfl⟩
        obtain ⟨X9, hX99⟩ : ∃ z, z = applyRow (putF H r36 o).2.1 X := ⟨_, rfl⟩
        obtain ⟨nx9, hn9⟩ : ∃ z, z = nxF nx o.c o.n := ⟨_, rfl⟩
        rw [← hH9] at hr9 hV2 ⊢
        rw [← hX99] at hX9 hV2
        rw [← hn9] at hV2 ⊢
        refine Lq (q_assign rfl) ?_
        refine WL_nil (thenN (WC_seq (WC_region ?_)))
        refine Lq (q_move rfl) ?_
        refine Lq (q_not rfl) ?_
        refine WL_nil (thenN (WC_false rfl rfl (WC_skip (blockN (thenN (WC_region ?_))))))
        refine Lq (q_move rfl) ?_
        refine Lq (q_add rfl rfl (wr64 (by omega)) (c := ((k + 1 : Nat) : Int))) ?_
        refine Lq (q_assign rfl) ?_
        refine WL_nil (thenK ?_)
        refine ⟨(k + 1, H9, X9, nx9, L9, A9, cap9, B9, t9, A19, c19, A29, c29, A39, c39), ?_, (.cons rfl (.cons rfl (.cons rfl (.nil _)))), (List.Sublist.cons_cons _ (List.Sublist.cons_cons _ (List.Sublist.cons_cons _ (List.Sublist.cons_cons _ (List.Sublist.cons_cons _ (List.Sublist.refl _)))))), (memc (.head _) (memc (.tail _ (.head _)) (memc (.tail _ (.tail _ (.head _))) (memc (.tail _ (.tail _ (.tail _ (.head _)))) (memc (.tail _ (.tail _ (.tail _ (.tail _ (.head _))))) (memc (.tail _ (.tail _ (.tail _ (.tail _ (.tail _ (.head _)))))) (fun _ h => .tail _ (.tail _ (.tail _ (.tail _ (.tail _ (.tail _ (.tail _ (.tail _ (.tail _ (.tail _ (.tail _ (.tail _ (.tail _ (.tail _ (.tail _ h)))))))))))))))))))))⟩
        exact ⟨by show 20 - (k + 1) < 20 - k; omega, by omega, hV2, hr9, wt9, hX9⟩
      · refine WC_exit (thenExit (thenExit (blockHit (thenN (WC_seq (WC_region ?_))))))
        refine Lq (q_move rfl) ?_
        refine Lq (q_assign rfl) ?_
        refine Lq (q_assign rfl) ?_
        refine WL_nil (thenN (WC_ret ?_))
        refine ⟨_, [_, _, _, _, _], [_, _, _, _, _, _], fun Z w hs => .tmp rfl (.tmp rfl (.nil)), ?_, fun Z w hs => hs.out (List.Sublist.cons_cons _ (List.Sublist.cons_cons _ (List.Sublist.cons_cons _ (List.Sublist.cons_cons _ (List.Sublist.cons_cons _ (List.Sublist.refl _)))))) (fun _ h => h)⟩
        exact ⟨v, h, m, b, k, H, X, nx, rfl, ⟨L, A, cap, B, t, A1, c1, A2, c2, A3, c3, rfl, rfl, hI.hr, hI.wt, hI.hX⟩, hI.vi, hI.le⟩
    · refine Ln rfl rfl rfl g19 ?_
      refine Ln rfl rfl rfl g19 ?_
      refine Lq (q_pickF rfl g19 rfl) ?_
      refine WL_nil (thenN (WC_false rfl rfl (WC_exit (thenExit (thenExit (blockHit (thenN ?_)))))))
      refine WC_seq (WC_region ?_)
      refine Lq (q_move rfl) ?_
      refine Lq (q_assign rfl) ?_
      refine Lq (q_assign rfl) ?_
      refine WL_nil (thenN (WC_ret ?_))
      refine ⟨_, [_, _, _, _, _], [_, _, _, _, _, _], fun Z w hs => .tmp rfl (.tmp rfl (.nil)), ?_, fun Z w hs => hs.out (List.Sublist.cons_cons _ (List.Sublist.cons_cons _ (List.Sublist.cons_cons _ (List.Sublist.cons_cons _ (List.Sublist.cons_cons _ (List.Sublist.refl _)))))) (fun _ h => h)⟩
      exact ⟨v, h, m, b, k, H, X, nx, rfl, ⟨L, A, cap, B, t, A1, c1, A2, c2, A3, c3, rfl, rfl, hI.hr, hI.wt, hI.hX⟩, hI.vi, hI.le⟩

end Go.Proofs.YtggdddkbhigjoaaDoor
/- Moves, as_ arguments. -/
namespace Go.Proofs.YtggdddkbhigjoaaDoor
open Go Go.GW
theorem cells51 : Tryd.prog.cellsOf 51 = 6 := by kernel_rfl
theorem cells3 : Tryd.prog.cellsOf 3 = 1 := by kernel_rfl
section
variable {H : Type} {enc : TypeId × Value → H} {w : World} {base : Nat} {sp : Nat → Bool} {held : Bool}
set_option maxRecDepth 100000 in
theorem mv_elem (m : Nat) (cs : List Value) (x : DataW H × List MemPlace) (h : DataW.trod enc Tryd.prog w base sp held m 51 cs = some x) : ∃ u : Mv, cs = mvC u := by
  obtain ⟨xs, k, rfl, rfl, hl, hlen, hf⟩ := DataW.trod_struct Tryd.underlying51 h
  rw [cells51] at hl
  have hxl : xs.length = 6 := hlen
  match cs, hl with
  | [a, b, c, d, e, f], _ =>
    have key : ∀ (i : Nat) (v : Value), i < 6 → [a, b, c, d, e, f][i]? = some v → ∃ n : Int, v = .int .i64 n := by
      intro i v hi hv
      match i, hi with
      | 0, _ => have h1 := hf 0 _ rfl; rw [List.getElem?_eq_getElem (show 0 < xs.length by omega)] at h1; simp [cells3] at h1; obtain ⟨n, h2, _⟩ := DataW.trod_int Tryd.underlying3 h1; exact ⟨n, by simp at hv h2; rw [← hv]; exact h2⟩
      | 1, _ => have h1 := hf 1 _ rfl; rw [List.getElem?_eq_getElem (show 1 < xs.length by omega)] at h1; simp [cells3] at h1; obtain ⟨n, h2, _⟩ := DataW.trod_int Tryd.underlying3 h1; exact ⟨n, by simp at hv h2; rw [← hv]; exact h2⟩
      | 2, _ => have h1 := hf 2 _ rfl; rw [List.getElem?_eq_getElem (show 2 < xs.length by omega)] at h1; simp [cells3] at h1; obtain ⟨n, h2, _⟩ := DataW.trod_int Tryd.underlying3 h1; exact ⟨n, by simp at hv h2; rw [← hv]; exact h2⟩
      | 3, _ => have h1 := hf 3 _ rfl; rw [List.getElem?_eq_getElem (show 3 < xs.length by omega)] at h1; simp [cells3] at h1; obtain ⟨n, h2, _⟩ := DataW.trod_int Tryd.underlying3 h1; exact ⟨n, by simp at hv h2; rw [← hv]; exact h2⟩
      | 4, _ => have h1 := hf 4 _ rfl; rw [List.getElem?_eq_getElem (show 4 < xs.length by omega)] at h1; simp [cells3] at h1; obtain ⟨n, h2, _⟩ := DataW.trod_int Tryd.underlying3 h1; exact ⟨n, by simp at hv h2; rw [← hv]; exact h2⟩
      | 5, _ => have h1 := hf 5 _ rfl; rw [List.getElem?_eq_getElem (show 5 < xs.length by omega)] at h1; simp [cells3] at h1; obtain ⟨n, h2, _⟩ := DataW.trod_int Tryd.underlying3 h1; exact ⟨n, by simp at hv h2; rw [← hv]; exact h2⟩
    obtain ⟨n0, rfl⟩ := key 0 a (by decide) rfl
    obtain ⟨n1, rfl⟩ := key 1 b (by decide) rfl
    obtain ⟨n2, rfl⟩ := key 2 c (by decide) rfl
    obtain ⟨n3, rfl⟩ := key 3 d (by decide) rfl
    obtain ⟨n4, rfl⟩ := key 4 e (by decide) rfl
    obtain ⟨n5, rfl⟩ := key 5 f (by decide) rfl
    exact ⟨⟨n0, n1, n2, n3, n4, n5⟩, rfl⟩
set_option maxRecDepth 100000 in
theorem mvs_arg {r : Reach} {b0 : Nat} {W0 : World} {v : Value} {d : DataW H} {p : List MemPlace} (hval : Value.okWide Tryd.prog W0 r b0 49 v) (h : DataW.Trod enc Tryd.prog w 0 sp held 49 v d p) :
    ∃ (A : Option Addr) (ms : List Mv) (c : Nat), v = .slice A ms.length c ∧ (RdF mvD A c ms).holds (fun b => b < w.heap.size) w :=
  rd_slice Tryd.underlying49 cells51 (by decide) (fun m cs x hx => by obtain ⟨u, rfl⟩ := mv_elem m cs x hx; exact ⟨u, fun _ _ => rfl⟩) hval h
end
theorem same_of {W W' : World} {Z' : Nat → Prop} (h : (NearF W (fun b => b < W.heap.size)).holds Z' W') {x : MemPlace} (hx : x.block < W.heap.size) : W.sameAt W' x := by
  have hb := (h.1 x.block hx).2
  cases x with
  | cell b off =>
    have hb' : W'.heap[b]? = W.heap[b]? := hb
    show W'.cell? ⟨b, off, none⟩ = W.cell? ⟨b, off, none⟩
    unfold World.cell?
    simp only [hb']
  | map b => exact hb
theorem laidOk : laidOutB Tryd.prog = true := by kernel_rfl
end Go.Proofs.YtggdddkbhigjoaaDoor
/- Closures, calls of values, literal slices of many elements, bits, a builder's string. -/
namespace Go.GW
open Go
section
variable {P : Program} {n : Nat} {R : Post} {l : Fr} {Ps : List Part} {As : List Fact} {d : Option Tmp} {ty : TypeId} {pos : String} {aft : Array Edge} {g : Option (Nat × Bool)} {K : Nx}
theorem q_func {k : FuncId} {xs : List Operand} {vs : List Value} (hxs : Evs l xs vs) : QR P l Ps As ⟨d, .makeFunc (.func k) #[] xs.toArray, ty, pos, aft, g⟩ (.func (.func k) #[] vs.toArray) := fun Z w ρ hs hρ => by
  have h1 := hxs.map hρ
  simp only [execOp, List.map_toArray, h1, Instr.makeFunc]
  simp
/-- A call of a value that is a function of the program, with what it has captured. -/
theorem OW_callV {k : FuncId} {d : Nat} {x : Operand} {caps : List Value} {xs : List Operand} {ts : Array TypeId} {args : List Value} {Lin Ps' : List Part} {pre : List Fact} {res : Value → List Part → List Fact → Prop}
    (hx : evs l x = some (.func (.func k) #[] caps.toArray)) (hsp : Sp P k (args ++ caps) Lin pre res) (hxs : Evs l xs args) (hd : d < n) (hp : (Lin ++ Ps').flatten.Perm Ps.flatten) (hpre : ∀ A ∈ pre, A ∈ As)
    (h : ∀ v Lo fs, res v Lo fs → K ((d, v) :: l) (Lo ++ Ps') (fs ++ As)) :
    OW P n R l Ps As ⟨some d, .call ⟨.value x, xs.toArray, ts⟩, ty, pos, aft, g⟩ K := by
  intro Z w a hs ha
  have hP : St Z w (Lin ++ Ps') (pre ++ As) := (hs.permParts hp).subFacts fun A hA => by
    rcases List.mem_append.1 hA with hA | hA
    · exact hpre A hA
    · exact hA
  have hrun : (execOp a.eval ⟨some d, .call ⟨.value x, xs.toArray, ts⟩, ty, pos, aft, g⟩).run P w = .ok (.enter k (args ++ caps).toArray) w := by
    have h1 := hxs.map fun x v hx => ha.eval hx
    have h2 := run_callFunc hsp.enters (args ++ caps).toArray w
    have h3 := ha.eval hx
    simp only [execOp, resolve, Deferred.ofValue, invoke, h3, List.map_toArray, h1, Sem.run_bind, Sem.run_pure, Result.andThen_ok]
    simpa using h2
  unfold Oper.wp
  rw [hrun, Oper.upon_enter]
  refine (hsp.calls Z w Ps' As hP).mono ?_
  rintro e w' ⟨v, rfl, Z', Lo, fs, h1, h2⟩
  refine ⟨(d, v) :: l, Z', Lo ++ Ps', fs ++ As, ha.put hd v, h2.subFacts ?_, h v Lo fs h1⟩
  intro A hA
  rcases List.mem_append.1 hA with h | h
  · exact List.mem_append.2 (.inl h)
  · exact List.mem_append.2 (.inr (List.mem_append.2 (.inr h)))
/-- Parts in one. -/
theorem Sp.flat {k : FuncId} {args : List Value} {Lin : List Part} {pre : List Fact} {res : Value → List Part → List Fact → Prop} (h : Sp P k args Lin pre res) : Sp P k args [Lin.flatten] pre (fun v Lo fs => ∃ Lo', res v Lo' fs ∧ Lo = [Lo'.flatten]) := by
  refine ⟨h.enters, fun Z w Ps As hs => ?_⟩
  have hs' : St Z w (Lin ++ Ps) (pre ++ As) := by
    refine hs.permParts ?_
    simp
  refine (h.calls Z w Ps As hs').mono ?_
  rintro e w' ⟨v, he, Z', Lo, fs, h1, h2⟩
  exact ⟨v, he, Z', [Lo.flatten], fs, ⟨Lo, h1, rfl⟩, h2.permParts (by simp)⟩
/-- Parts taken one by one out of one. -/
theorem WC_unflat {c : Code} {Qs : List Part} (h : WC P n c R l (Qs ++ Ps) As) : WC P n c R l (Qs.flatten :: Ps) As := fun Z w a hs ha => h Z w a (hs.permParts (by simp)) ha
theorem WC_flat {c : Code} {Qs : List Part} (h : WC P n c R l (Qs.flatten :: Ps) As) : WC P n c R l (Qs ++ Ps) As := fun Z w a hs ha => h Z w a (hs.permParts (by simp)) ha
theorem q_shr {k yk : IntKind} {a b c : Int} {t t2 : TypeId} {x y : Operand} (hx : evs l x = some (.int k a)) (hy : evs l y = some (.int yk b)) (hb : 0 ≤ b) (hw : a.fdiv (2 ^ (min b.toNat k.bits)) = c) : QR P l Ps As ⟨d, .binOp .shr t x y t2, ty, pos, aft, g⟩ (.int k c) := fun Z w ρ hs hρ => by
  subst hw
  have h1 : ¬ b < 0 := by omega
  simp [execOp, hρ _ _ hx, hρ _ _ hy, binOp, eqGuard, Op.shift, h1]
theorem q_or {t t2 : TypeId} {x y : Operand} {k : IntKind} {a b c : Int} (hx : evs l x = some (.int k a)) (hy : evs l y = some (.int k b)) (hw : bits .or k a b = c) : QR P l Ps As ⟨d, .binOp .or t x y t2, ty, pos, aft, g⟩ (.int k c) := fun Z w ρ hs hρ => by
  subst hw; simp [execOp, hρ _ _ hx, hρ _ _ hy, go_sem]
theorem OW_quiet {d : Nat} {op : Op} {v : Value} (hq : QR P l Ps As ⟨some d, op, ty, pos, aft, g⟩ v) (hd : d < n) (h : K ((d, v) :: l) Ps As) : OW P n R l Ps As ⟨some d, op, ty, pos, aft, g⟩ K :=
  OW_value rfl hd fun Z w ρ hs hρ => ⟨v, w, Z, Ps, As, hq Z w ρ hs hρ, hs, h⟩
/-- A literal slice of many elements, by what it comes to. -/
theorem OW_sliceM {T E : TypeId} {d : Nat} {m : Nat} {xs : List (Nat × Operand)} {vs : List (Nat × Value)} {cs : List Value} (hx : EvP l xs vs) (hb : ∀ w : World, (Instr.buildSlice T m vs.toArray).run P w = .ok (.slice (some ⟨w.heap.size, 0, none⟩) m m) (w.alloc (cellsO cs E))) (hd : d < n)
    (h : ∀ b, K ((d, .slice (some ⟨b, 0, none⟩) m m) :: l) ([(b, cellsO cs E)] :: Ps) As) : OW P n R l Ps As ⟨some d, .buildSlice T m xs.toArray, ty, pos, aft, g⟩ K :=
  OW_value rfl hd fun Z w ρ hs hρ => by
    refine ⟨_, w.alloc (cellsO cs E), Z, _, As, ?_, hs.alloc _, h w.heap.size⟩
    have h1 := hx.map hρ
    simp only [execOp, List.map_toArray, h1, Sem.run_bind, hb]; rfl
theorem OW_appendM {T E : TypeId} {d : Nat} {x y : Operand} {zv : Value} {sz by_ k b c m : Nat} {v : Value} {cs news : List Value} {T' : TypeId} {p : Part} {Qs : List Part} (hu : P.underlying T = some (.slice E)) (ht : ti P E = some (some zv, sz, by_)) (hz : zv.cells.size = sz) (hsz : 0 < sz) (hx : evs l x = some v) (hy : evs l y = some (.slice (some ⟨b, 0, none⟩) m c))
    (hr : Row E sz v k cs p) (hb : OwnAt Qs b (cellsO news T')) (hl : news.length = m * sz) (h1 : news.all Value.oneCell' = true) (h63 : (k + m) * by_ ≤ 140737488355328) (hmx : k + m ≤ maxLen) (hd : d < n) (hQ : (p :: Qs).flatten.Perm Ps.flatten)
    (h : ∀ v' p', Row E sz v' (k + m) (cs ++ news) p' → K ((d, v') :: l) (p' :: Qs) As) : OW P n R l Ps As ⟨some d, .call ⟨.builtin .append, #[x, y], #[T, T]⟩, ty, pos, aft, g⟩ K :=
  OW_value rfl hd fun Z w ρ hs hρ => by
    have hs' := hs.permParts hQ
    have hc : CellsAt w b 0 news := ⟨_, _, _, hs'.block (ownS hb), fun j v hv => by simpa using hv⟩
    obtain ⟨v', w', p', g1, g2, g3⟩ := run_append (ty := ty) (c := c) hu ht hz hsz hs' hr (ad := ⟨b, 0, none⟩) (m := m) (news := news) hl (fun j u hu => by rw [add_none]; exact hc.cell hu) (fun u hu => List.all_eq_true.1 h1 u hu) h63 hmx
    exact ⟨v', w', Z, _, As, by rw [execOp_append (hρ _ _ hx) (hρ _ _ hy), Sem.run_bind, g1]; rfl, g3, h v' p' g2⟩
/-! ### A builder's string -/
theorem shape_own {Z : Nat → Prop} {w : World} (hs : St Z w Ps As) {b : Nat} {cs : List Value} {T : TypeId} (hb : OwnAt Ps b (cellsO cs T)) : w.shape? b = some (T, cs.length) := by
  have := hs.block hb
  unfold World.shape? cellsO at *
  rw [this]; simp
theorem q_toUnsafe {src dst t : TypeId} {x : Operand} {j : TypeInfo} {b T : Nat} {cs : List Value} (hs : P.underlying src = some (.pointer t)) (hd : P.underlying dst = some .unsafePointer) (ht : P.info? t = some j) (hj : j.size ≠ 0) (hx : evs l x = some (.pointer (some ⟨b, 0, none⟩))) (hb : OwnAt Ps b (cellsO cs T)) (hc : 0 < cs.length) :
    QR P l Ps As ⟨d, .convert src dst x, ty, pos, aft, g⟩ (.pointer (some ⟨b, 0, none⟩)) := fun Z w ρ hst hρ => by
  have h := Lib.run_to_unsafe (P := P) (w := w) ⟨b, 0, none⟩ hs hd ht hj (shape_own hst hb) hc
  simp only [execOp, hρ _ _ hx, Sem.run_bind, h, Result.andThen_ok, Sem.run_pure]
theorem q_fromUnsafe {src dst u : TypeId} {x : Operand} {j : TypeInfo} {b T : Nat} {cs : List Value} (hs : P.underlying src = some .unsafePointer) (hd : P.underlying dst = some (.pointer u)) (hu : P.info? u = some j) (hx : evs l x = some (.pointer (some ⟨b, 0, none⟩))) (hb : OwnAt Ps b (cellsO cs T)) (hl : liesAt P P.depth T (cs.length / P.cellsOf T) 0 u 1 = true) :
    QR P l Ps As ⟨d, .convert src dst x, ty, pos, aft, g⟩ (.pointer (some ⟨b, 0, none⟩)) := fun Z w ρ hst hρ => by
  have h := Lib.run_from_unsafe (P := P) (w := w) ⟨b, 0, none⟩ hs hd hu (shape_own hst hb) hl
  simp only [execOp, hρ _ _ hx, Sem.run_bind, h, Result.andThen_ok, Sem.run_pure]
theorem q_extern {f : FuncId} {x : Operand} {v : Value} {ts : Array TypeId} (hb : ∀ w, (callFunc f #[v]).run P w = .ok (.value v) w) (hx : evs l x = some v) : QR P l Ps As ⟨d, .call ⟨.value (.func f), #[x], ts⟩, ty, pos, aft, g⟩ v := fun Z w ρ hs hρ => by
  have h0 : ρ (.func f) = .func (.func f) #[] #[] := hρ _ _ rfl
  simp only [execOp, resolve, Deferred.ofValue, invoke, h0, List.map_toArray, List.map_cons, List.map_nil, hρ _ _ hx, Sem.run_bind, Sem.run_pure, Result.andThen_ok]
  simpa using hb w
theorem q_sliceData {T : TypeId} {x : Operand} {A : Addr} {m c : Nat} (hc : c ≠ 0) (hx : evs l x = some (.slice (some A) m c)) : QR P l Ps As ⟨d, .call ⟨.builtin .unsafeSliceData, #[x], #[T]⟩, ty, pos, aft, g⟩ (.pointer (some A)) := fun Z w ρ hs hρ => by
  simp only [execOp, resolve, invoke, List.map_toArray, List.map_cons, List.map_nil, hρ _ _ hx, Sem.run_bind, Sem.run_pure, Result.andThen_ok]
  show ((do pure (Next.value (← Builtin.unsafeSliceData_ #[T] ty #[.slice (some A) m c])) : Sem Next)).run P w = _
  rw [Sem.run_bind, Lib.run_unsafeSliceData_row _ _ _ _ _ _ hc]; rfl
theorem q_pneqSame {t e t2 : TypeId} {x y : Operand} {a : Addr} {j : TypeInfo} (hu : P.underlying t = some (.pointer e)) (hj : P.info? e = some j) (hx : evs l x = some (.pointer (some a))) (hy : evs l y = some (.pointer (some a))) : QR P l Ps As ⟨d, .binOp .neq t x y t2, ty, pos, aft, g⟩ (.bool false) := fun Z w ρ hs hρ => by
  have h := Lib.run_neq_ptr_same (P := P) w a hu hj
  simp only [execOp, hρ _ _ hx, hρ _ _ hy, eqGuard_at_pointer, Sem.run_bind, h, Result.andThen_ok, Sem.run_pure]
def By (bs : List Int) : Prop := ∀ x ∈ bs, 0 ≤ x ∧ x < 256
def bytesU (bs : List Int) : List UInt8 := bs.map fun x => UInt8.ofNat x.toNat
def strOf (bs : List Int) : ByteArray := ⟨(bytesU bs).toArray⟩
theorem OW_unsafeString {d : Nat} {pt it e : TypeId} {x y : Operand} {b T : Nat} {bs : List Int} {jk : List Value} {Ps' : List Part} (hp : P.underlying pt = some (.pointer T)) (hc : P.cellsOf T = 1) (hby : By bs) (hne : bs ≠ []) (h63 : bs.length ≤ 9223372036854775807)
    (hx : evs l x = some (.pointer (some ⟨b, 0, none⟩))) (hy : evs l y = some (.int .i64 (bs.length : Nat))) (hd : d < n) (hD : DelAt Ps [(b, cellsO (bs.map (Value.int .u8) ++ jk) T)] Ps') (h : K ((d, .string (strOf bs)) :: l) Ps' As) :
    OW P n R l Ps As ⟨some d, .call ⟨.builtin .unsafeString, #[x, y], #[pt, it]⟩, ty, pos, aft, g⟩ K :=
  OW_value rfl hd fun Z w ρ hs hρ => by
    have hs' := hs.permParts hD.perm
    have hcell := hs'.cells (b := b) own0
    have hrun := Lib.run_unsafeString_row (P := P) (w := w) pt it ty T hp hc b _ (shape_own hs' own0) (bytesU bs) (by unfold bytesU; simpa using hne) (by unfold bytesU; simp) (by unfold bytesU; simpa using h63) (fun j u hu => by
      unfold bytesU at hu
      rw [List.getElem?_map] at hu
      cases hj : bs[j]? with
      | none => rw [hj] at hu; cases hu
      | some z =>
        rw [hj] at hu
        have hz := hby z (List.mem_of_getElem? hj)
        have hlt : j < bs.length := by
          rcases Nat.lt_or_ge j bs.length with h | h
          · exact h
          · rw [List.getElem?_eq_none h] at hj; cases hj
        obtain rfl := Option.some.inj hu
        have h2 : (bs.map (Value.int .u8) ++ jk)[j]? = some (.int .u8 z) := by rw [List.getElem?_append_left (by simpa using hlt), List.getElem?_map, hj]; rfl
        have h3 := hcell.cell h2
        have h4 : ((UInt8.ofNat z.toNat).toNat : Int) = z := by rw [UInt8.toNat_ofNat']; omega
        rw [add_none, h4]
        simpa using h3)
    have hlen : (bytesU bs).length = bs.length := by unfold bytesU; simp
    rw [hlen] at hrun
    refine ⟨_, w.freeze ⟨b, 0, none⟩ bs.length, Z, Ps', As, ?_, ?_, h⟩
    · simp only [execOp, resolve, invoke, List.map_toArray, List.map_cons, List.map_nil, hρ _ _ hx, hρ _ _ hy, Sem.run_bind, Sem.run_pure, Result.andThen_ok]
      show ((do pure (Next.value (← Builtin.unsafeString_ #[pt, it] ty #[.pointer (some ⟨b, 0, none⟩), .int .i64 (bs.length : Nat)])) : Sem Next)).run P w = _
      rw [Sem.run_bind, hrun]; rfl
    · have hb := hs'.own (b, cellsO (bs.map (Value.int .u8) ++ jk) T) (by simp)
      have hnb : ∀ q ∈ Ps'.flatten, q.1 ≠ b := fun q hq e => by
        have := hs'.nodup
        rw [List.flatten_cons, List.map_append, List.nodup_append] at this
        exact this.2.2 b (by simp) q.1 (List.mem_map.2 ⟨q, hq, rfl⟩) e.symm
      have hne0 : bs.length ≠ 0 := by simpa using hne
      have hh : ∀ c, c ≠ b → (w.freeze ⟨b, 0, none⟩ bs.length).heap[c]? = w.heap[c]? := fun c hcb => by
        unfold World.freeze
        rw [if_neg hne0]
        simp only [Array.getElem?_modify]
        rw [if_neg (fun e => hcb e.symm)]
      have hos : (w.freeze ⟨b, 0, none⟩ bs.length).os = w.os ∧ (w.freeze ⟨b, 0, none⟩ bs.length).tape = w.tape ∧ (w.freeze ⟨b, 0, none⟩ bs.length).output = w.output ∧ (w.freeze ⟨b, 0, none⟩ bs.length).heap.size = w.heap.size := by
        unfold World.freeze; rw [if_neg hne0]; exact ⟨rfl, rfl, rfl, by simp⟩
      refine ⟨fun c hc => by rw [hos.2.2.2]; exact hs.zlt c hc, fun q hq => ?_, ?_, fun A hA => A.stable (fun _ h => h) (fun c hc => hh c fun e => hb.2 (e ▸ hc)) hos.1 hos.2.1 hos.2.2.1 (hs.facts A hA)⟩
      · have := hs'.own q (by rw [List.flatten_cons]; exact List.mem_append_right _ hq)
        exact ⟨by rw [hh _ (hnb q hq)]; exact this.1, this.2⟩
      · have := hs'.nodup
        rw [List.flatten_cons, List.map_append, List.nodup_append] at this
        exact this.2.1
end
end Go.GW
