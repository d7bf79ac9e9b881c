/- Walks: history.Entry, Ops. -/
import Derived.Test.YtggdddkbhigjoaaDoorWo
set_option linter.unusedVariables false
set_option linter.unusedSimpArgs false
namespace Go.Proofs.YtggdddkbhigjoaaDoor
open Go Go.GW
structure GEn where
  c : Int
  n : Int
  kind : Int
  on : Bool
  rs : List Rg
  tc : Int
  tn : Int
def enC (e : GEn) (A : Option Addr) (c : Nat) : List Value := [.int .i64 e.c, .int .i64 e.n, .int .i64 e.kind, .bool e.on, .slice A e.rs.length c, .int .i64 e.tc, .int .i64 e.tn]
def enV (e : GEn) (A : Option Addr) (c : Nat) : Value := .agg (enC e A c).toArray
def entE (e : Ent) : GEn := if e.op.kind = 4 then ⟨e.op.c, e.op.n, e.op.kind, e.op.on, [], e.op.tc, e.op.tn⟩ else ⟨e.op.c, e.op.n, e.op.kind, !e.off, e.now, 0, 0⟩
def entryF (H : Hist) (i : Int) : GEn × Int := match H.ents[i.toNat]? with
  | none => (⟨0, 0, 0, false, [], 0, 0⟩, 12)
  | some e => if i < 0 then (⟨0, 0, 0, false, [], 0, 0⟩, 12) else (entE e, 0)
theorem entryF_bad {H : Hist} {i : Int} (h : i < 0 ∨ i ≥ H.ents.length) : entryF H i = (⟨0, 0, 0, false, [], 0, 0⟩, 12) := by
  unfold entryF
  cases hq : H.ents[i.toNat]? with
  | none => rfl
  | some e =>
    rcases h with h | h
    · simp [h]
    · rw [List.getElem?_eq_none (by omega)] at hq; cases hq
theorem entryF_at {H : Hist} {k : Nat} (h : k < H.ents.length) : entryF H k = (entE H.ents[k], 0) := by
  unfold entryF
  rw [Int.toNat_natCast, List.getElem?_eq_getElem h]
  simp only [if_neg (by omega : ¬ (k : Int) < 0)]
def EnP (r : GEn × Int) (ps : List Part) : Value → List Part → List Fact → Prop := fun v Lo fs => ∃ (A' : Option Addr) (c' : Nat), v = .tuple #[enV r.1 A' c', .int .i64 r.2] ∧ Lo = ps ∧ fs = [RdF rgD A' c' r.1.rs]
theorem bd42Xw16  (w : World) : (Instr.build 42 #[]).run Tryd.prog w = .ok (.agg #[.int .i64 0, .int .i64 0, .int .i64 0, .bool false, .slice none 0 0, .int .i64 0, .int .i64 0]) w := by kernel_rfl
theorem bd42_0_1_2_4Xw16 (x0_a0 : Int) (x0_a1 : Int) (x1_ : Int) (x2_ : Bool) (x4_a0 : Int) (x4_a1 : Int) (w : World) : (Instr.build 42 #[(0, .agg #[.int .i64 x0_a0, .int .i64 x0_a1]), (1, .int .i64 x1_), (2, .bool x2_), (4, .agg #[.int .i64 x4_a0, .int .i64 x4_a1])]).run Tryd.prog w = .ok (.agg #[.int .i64 x0_a0, .int .i64 x0_a1, .int .i64 x1_, .bool x2_, .slice none 0 0, .int .i64 x4_a0, .int .i64 x4_a1]) w := by kernel_rfl
theorem bd31_3Xw16 (x3_A : Option Addr) (x3_n x3_c : Nat) (w : World) : (Instr.build 31 #[(3, .slice x3_A x3_n x3_c)]).run Tryd.prog w = .ok (.agg #[.int .i64 0, .int .i64 0, .int .i64 0, .int .i64 0, .string ⟨#[]⟩, .slice x3_A x3_n x3_c, .int .i64 0, .int .i64 0, .bool false]) w := by kernel_rfl
theorem fd31_3Xw16 (x00a0 : Int) (x00a1 : Int) (x01 : Int) (x1 : Int) (x2 : ByteArray) (x3A : Option Addr) (x3n x3c : Nat) (x4a0 : Int) (x4a1 : Int) (x5 : Bool) (w : World) : (Instr.field 31 (.agg #[.int .i64 x00a0, .int .i64 x00a1, .int .i64 x01, .int .i64 x1, .string x2, .slice x3A x3n x3c, .int .i64 x4a0, .int .i64 x4a1, .bool x5]) 3).run Tryd.prog w = .ok (.slice x3A x3n x3c) w := by kernel_rfl
theorem bd42_0_1_2_3Xw16 (x0_a0 : Int) (x0_a1 : Int) (x1_ : Int) (x2_ : Bool) (x3_A : Option Addr) (x3_n x3_c : Nat) (w : World) : (Instr.build 42 #[(0, .agg #[.int .i64 x0_a0, .int .i64 x0_a1]), (1, .int .i64 x1_), (2, .bool x2_), (3, .slice x3_A x3_n x3_c)]).run Tryd.prog w = .ok (.agg #[.int .i64 x0_a0, .int .i64 x0_a1, .int .i64 x1_, .bool x2_, .slice x3_A x3_n x3_c, .int .i64 0, .int .i64 0]) w := by kernel_rfl

set_option maxRecDepth 10000 in
theorem entry_s (h m cap : Nat) (A : Option Addr) (H : Hist) (L : List MR) (hr : HR H L) (i : Int) : Sp Tryd.prog 16 [.pointer (some ⟨h, 0, none⟩), .int .i64 i] [hdP h A H.ops.length cap m H.total, mpP m L, mkP L] [RdF opD A cap H.ops, AllF L nowF] (EnP (entryF H i) [hdP h A H.ops.length cap m H.total, mpP m L, mkP L]) := by
  have hol := ops_len H
  have hlen := hr.len
  refine Sp.of (n := 69) ⟨_, Tryd.func16, rfl, rfl, rfl, rfl⟩ (Nat.le_of_ble_eq_true rfl) fun Ps As => ?_
  refine WC_seq ?_
  refine WC_region ?_
  refine WL_main rfl (OW_alloc (cs := [_, _, _, _, _, _, _]) ti42 rfl (by decide) fun b4 => ?_)
  refine WL_q (q_assign rfl) (by decide) ?_
  refine WL_nil ?_
  refine thenN ?_
  refine WC_seq ?_
  refine WC_seq ?_
  refine WC_fact (A := RdF rgD none 0 []) (fun Z w hs => RdS.nil _ _ _) ?_
  refine WC_region ?_
  refine WL_q (q_move rfl) (by decide) ?_
  refine WL_q (q_lss rfl rfl) (by decide) ?_
  refine WL_q (q_move rfl) (by decide) ?_
  refine WL_guard (t := 10) rfl (fun g10 => ?_) (fun g10 => ?_)
  · refine WL_gno rfl rfl rfl g10 (by decide) ?_
    refine WL_gno rfl rfl rfl g10 (by decide) ?_
    refine WL_gno rfl rfl rfl g10 (by decide) ?_
    refine WL_gno rfl rfl rfl g10 (by decide) ?_
    refine WL_gno rfl rfl rfl g10 (by decide) ?_
    refine WL_gno rfl rfl rfl g10 (by decide) ?_
    refine WL_gno rfl rfl rfl g10 (by decide) ?_
    refine WL_q (q_pickT rfl g10 rfl) (by decide) ?_
    refine WL_nil ?_
    refine thenN ?_
    refine WC_fr [(18, _), (5, _), (4, _), (0, _), (1, _)] (.cons rfl (.cons rfl (.cons rfl (.cons rfl (.cons rfl (.nil _)))))) ?_
    refine WC_true rfl rfl ?_
    refine WC_seq ?_
    refine WC_region ?_
    refine WL_q (q_build (.nil) (bd42Xw16)) (by decide) ?_
    refine WL_main rfl (OW_storeN (cs' := [_, _, _, _, _, _, _]) (vs := [_, _, _, _, _, _, _]) ti42 rfl rfl rfl rfl rfl (Nat.le_of_ble_eq_true rfl) (.z) ?_)
    refine WL_q (q_assign rfl) (by decide) ?_
    refine WL_nil ?_
    refine thenN ?_
    refine WC_ret ?_
    refine thenRet ?_
    refine ⟨_, [_, _, _], [_], fun Z w hs => RV_ownN hs Tryd.underlying42 rfl ti42 rfl own0 rfl (.tmp rfl (.nil)), ?_, fun Z w hs => hs.out (List.Sublist.cons _ (List.Sublist.cons_cons _ (List.Sublist.cons_cons _ (List.Sublist.cons_cons _ (List.Sublist.refl _))))) (fun _ h => h)⟩
    try simp only [decide_eq_true_eq, decide_eq_false_iff_not, beq_iff_eq, bne_iff_ne, beq_eq_false_iff_ne, ne_eq, Bool.and_eq_true, Bool.not_eq_true', Bool.not_eq_false', Bool.not_eq_true, Bool.not_eq_false, bne_eq_false_iff_eq, Bool.and_eq_false_iff] at *
    have hF := entryF_bad (H := H) (i := i) (by omega)
    exact ⟨none, 0, by rw [hF]; rfl, rfl, by rw [hF]⟩
  · refine WL_gq rfl rfl rfl g10 (q_move rfl) (by decide) ?_
    refine WL_gq rfl rfl rfl g10 (q_move rfl) (by decide) ?_
    refine WL_gq rfl rfl rfl g10 (q_nil rfl) (by decide) ?_
    refine WL_gq rfl rfl rfl g10 (q_field (o' := 0) Tryd.underlying97 rfl ti45 rfl rfl) (by decide) ?_
    refine WL_gq rfl rfl rfl g10 (q_load1 Tryd.underlying45 rfl rfl (ownS (own0)) rfl) (by decide) ?_
    refine WL_gq rfl rfl rfl g10 (q_len Tryd.underlying45 rfl) (by decide) ?_
    refine WL_gq rfl rfl rfl g10 (q_geq rfl rfl) (by decide) ?_
    refine WL_q (q_pickF rfl g10 rfl) (by decide) ?_
    refine WL_nil ?_
    refine thenN ?_
    refine WC_fr [(18, _), (5, _), (4, _), (0, _), (1, _)] (.cons rfl (.cons rfl (.cons rfl (.cons rfl (.cons rfl (.nil _)))))) ?_
    refine WC_cond rfl (fun h18 => ?_) (fun h18 => ?_)
    · refine WC_seq ?_
      refine WC_region ?_
      refine WL_q (q_build (.nil) (bd42Xw16)) (by decide) ?_
      refine WL_main rfl (OW_storeN (cs' := [_, _, _, _, _, _, _]) (vs := [_, _, _, _, _, _, _]) ti42 rfl rfl rfl rfl rfl (Nat.le_of_ble_eq_true rfl) (.z) ?_)
      refine WL_q (q_assign rfl) (by decide) ?_
      refine WL_nil ?_
      refine thenN ?_
      refine WC_ret ?_
      refine thenRet ?_
      refine ⟨_, [_, _, _], [_], fun Z w hs => RV_ownN hs Tryd.underlying42 rfl ti42 rfl own0 rfl (.tmp rfl (.nil)), ?_, fun Z w hs => hs.out (List.Sublist.cons _ (List.Sublist.cons_cons _ (List.Sublist.cons_cons _ (List.Sublist.cons_cons _ (List.Sublist.refl _))))) (fun _ h => h)⟩
      try simp only [decide_eq_true_eq, decide_eq_false_iff_not, beq_iff_eq, bne_iff_ne, beq_eq_false_iff_ne, ne_eq, Bool.and_eq_true, Bool.not_eq_true', Bool.not_eq_false', Bool.not_eq_true, Bool.not_eq_false, bne_eq_false_iff_eq, Bool.and_eq_false_iff] at *
      have hF := entryF_bad (H := H) (i := i) (by omega)
      exact ⟨none, 0, by rw [hF]; rfl, rfl, by rw [hF]⟩
    · refine WC_skip ?_
      refine thenN ?_
      refine WC_seq ?_
      try simp only [decide_eq_true_eq, decide_eq_false_iff_not, beq_iff_eq, bne_iff_ne, beq_eq_false_iff_ne, ne_eq, Bool.and_eq_true, Bool.not_eq_true', Bool.not_eq_false', Bool.not_eq_true, Bool.not_eq_false, bne_eq_false_iff_eq, Bool.and_eq_false_iff] at *
      obtain ⟨k, rfl⟩ : ∃ k : Nat, i = (k : Int) := ⟨i.toNat, by omega⟩
      have hk : k < H.ents.length := by omega
      have hko : k < H.ops.length := by omega
      have hop := ops_at hk
      refine WC_elem (k := k) (.tail _ (.head _)) (List.getElem?_eq_getElem hko) (op_open _) fun bo qo yo eo => ?_
      cases eo
      refine WC_region ?_
      refine WL_q (q_move rfl) (by decide) ?_
      refine WL_q (q_nil rfl) (by decide) ?_
      refine WL_q (q_field (o' := 0) Tryd.underlying97 rfl ti45 rfl rfl) (by decide) ?_
      refine WL_q (q_load1 Tryd.underlying45 rfl rfl (ownS (own0)) rfl) (by decide) ?_
      refine WL_q (q_move rfl) (by decide) ?_
      refine WL_q (q_idxRd Tryd.underlying45 ti31 rfl rfl (by omega) (by omega)) (by decide) ?_
      refine WL_q (q_loadFN (k := 0) (vs := [_, _, _, _, _, _, _, _, _]) Tryd.underlying31 rfl ti31 rfl (.head _) rfl rfl rfl) (by decide) ?_
      refine WL_main rfl (OW_alloc (cs := [_, _, _, _, _, _, _, _, _]) ti31 rfl (by decide) fun b6 => ?_)
      refine WL_main rfl (OW_storeN (cs' := [_, _, _, _, _, _, _, _, _]) (vs := [_, _, _, _, _, _, _, _, _]) ti31 rfl rfl rfl rfl rfl (Nat.le_of_ble_eq_true rfl) (.z) ?_)
      refine WL_nil ?_
      refine thenN ?_
      refine WC_seq ?_
      refine WC_seq ?_
      refine WC_region ?_
      refine WL_q (q_field (o' := 0) Tryd.underlying31 rfl ti28 rfl rfl) (by decide) ?_
      refine WL_q (q_field (o' := 2) Tryd.underlying28 rfl ti26 rfl rfl) (by decide) ?_
      refine WL_q (q_load1 Tryd.underlying26 rfl rfl own0 rfl) (by decide) ?_
      refine WL_q (q_eql rfl rfl) (by decide) ?_
      refine WL_nil ?_
      refine thenN ?_
      refine WC_fr [(30, _), (6, _), (5, _), (4, _), (0, _)] (.cons rfl (.cons rfl (.cons rfl (.cons rfl (.cons rfl (.nil _)))))) ?_
      refine WC_cond rfl (fun h30 => ?_) (fun h30 => ?_)
      · refine WC_seq ?_
        refine WC_region ?_
        refine WL_q (q_field (o' := 0) Tryd.underlying31 rfl ti28 rfl rfl) (by decide) ?_
        refine WL_q (q_field (o' := 0) Tryd.underlying28 rfl ti25 rfl rfl) (by decide) ?_
        refine WL_q (q_loadN (vs := [_, _]) Tryd.underlying25 rfl ti25 rfl own0 rfl rfl) (by decide) ?_
        refine WL_q (q_field (o' := 0) Tryd.underlying31 rfl ti28 rfl rfl) (by decide) ?_
        refine WL_q (q_field (o' := 2) Tryd.underlying28 rfl ti26 rfl rfl) (by decide) ?_
        refine WL_q (q_load1 Tryd.underlying26 rfl rfl own0 rfl) (by decide) ?_
        refine WL_q (q_field (o' := 8) Tryd.underlying31 rfl ti4 rfl rfl) (by decide) ?_
        refine WL_q (q_load1 Tryd.underlying4 rfl rfl own0 rfl) (by decide) ?_
        refine WL_q (q_field (o' := 6) Tryd.underlying31 rfl ti25 rfl rfl) (by decide) ?_
        refine WL_q (q_loadN (vs := [_, _]) Tryd.underlying25 rfl ti25 rfl own0 rfl rfl) (by decide) ?_
        refine WL_q (q_build (.cons rfl (.cons rfl (.cons rfl (.cons rfl (.nil))))) (bd42_0_1_2_4Xw16 _ _ _ _ _ _)) (by decide) ?_
        refine WL_main rfl (OW_storeN (cs' := [_, _, _, _, _, _, _]) (vs := [_, _, _, _, _, _, _]) ti42 rfl rfl rfl rfl rfl (Nat.le_of_ble_eq_true rfl) (.s (.z)) ?_)
        refine WL_q (q_assign rfl) (by decide) ?_
        refine WL_nil ?_
        refine thenN ?_
        refine WC_fr [(5, _), (6, _), (4, _), (0, _)] (.cons rfl (.cons rfl (.cons rfl (.cons rfl (.nil _))))) ?_
        refine WC_ret ?_
        refine thenRet ?_
        refine ⟨_, [_, _, _], [_], fun Z w hs => RV_ownN hs Tryd.underlying42 rfl ti42 rfl (ownS (own0)) rfl (.tmp rfl (.nil)), ?_, fun Z w hs => hs.out (List.Sublist.cons _ (List.Sublist.cons _ (List.Sublist.cons_cons _ (List.Sublist.cons_cons _ (List.Sublist.cons_cons _ (List.Sublist.refl _)))))) (fun _ h => .tail _ (.tail _ h))⟩
        try simp only [decide_eq_true_eq, decide_eq_false_iff_not, beq_iff_eq, bne_iff_ne, beq_eq_false_iff_ne, ne_eq, Bool.and_eq_true, Bool.not_eq_true', Bool.not_eq_false', Bool.not_eq_true, Bool.not_eq_false, bne_eq_false_iff_eq, Bool.and_eq_false_iff] at *
        rw [hop] at h30
        have hF : entryF H (k : Int) = _ := (entryF_at hk).trans (by unfold entE; rw [if_pos h30])
        exact ⟨none, 0, by rw [hF]; simp only [hop]; rfl, rfl, by rw [hF]⟩
      · refine WC_skip ?_
        refine thenN ?_
        refine WC_seq ?_
        obtain ⟨jm, xm, hjm, hxm, hgm⟩ := hr.look hk
        obtain ⟨xk, xb, xA, xc⟩ := xm
        obtain rfl : xk = markAt k H.ents[k] := hxm
        rw [← hop] at hgm
        refine WC_all _ (.tail _ (.tail _ (.tail _ (.tail _ (.head _))))) (List.mem_of_getElem? hjm) ?_
        refine WC_draw _ _ [] [(0, 0), (1, 0), (2, 0), (3, 0), (4, 0), (5, 0), (6, 0), (7, 0), (8, 0)] mixed (fun _ _ _ _ h => h) (List.Sublist.cons_cons _ (List.Sublist.cons_cons _ (List.Sublist.cons_cons _ (List.Sublist.cons_cons _ (List.Sublist.cons_cons _ (List.Sublist.refl _)))))) (fun _ h => h) (by kernel_rfl) (by decide) fun ws Z0 => ?_
        refine WE_q rfl (q_move rfl) (by decide) ?_
        refine WE_q rfl (q_nil rfl) (by decide) ?_
        refine WE_q rfl (q_field (o' := 1) Tryd.underlying97 rfl ti95 rfl rfl) (by decide) ?_
        refine WE_q rfl (q_load1 Tryd.underlying95 rfl rfl (ownS (ownS (own0))) rfl) (by decide) ?_
        refine WE_q rfl (q_field (o' := 0) Tryd.underlying31 rfl ti28 rfl rfl) (by decide) ?_
        refine WE_q rfl (q_field (o' := 0) Tryd.underlying28 rfl ti25 rfl rfl) (by decide) ?_
        refine WE_q rfl (q_loadN (vs := [_, _]) Tryd.underlying25 rfl ti25 rfl own0 rfl rfl) (by decide) ?_
        refine WE_q rfl (q_lookS keyT hgm Tryd.underlying95 ti99 rfl rfl (ownS (ownS (ownS (own0))))) (by decide) ?_
        refine WE_q rfl (q_assign rfl) (by decide) ?_
        refine WE_end (WF_nil ?_)
        refine thenN ?_
        refine WC_fr [(7, _), (6, _), (5, _), (4, _)] (.cons rfl (.cons rfl (.cons rfl (.cons rfl (.nil _))))) ?_
        refine WC_seq ?_
        refine WC_draw _ _ [19] [(0, 0), (1, 0), (2, 0), (3, 0), (4, 0), (5, 0), (6, 0), (7, 0), (8, 0), (9, 0), (10, 0), (11, 0), (12, 0), (13, 0), (14, 0), (15, 0), (16, 2), (17, 0), (18, 0), (19, 3), (20, 1)] mixed (fun _ _ _ _ h => h) (List.Sublist.cons_cons _ (List.Sublist.cons _ (List.Sublist.cons_cons _ (List.Sublist.cons_cons _ (List.Sublist.cons_cons _ (List.Sublist.refl _)))))) (fun _ h => h) (by kernel_rfl) (by decide) fun ws Z0 => ?_
        refine WE_q rfl (q_field (o' := 0) Tryd.underlying31 rfl ti28 rfl rfl) (by decide) ?_
        refine WE_q rfl (q_field (o' := 0) Tryd.underlying28 rfl ti25 rfl rfl) (by decide) ?_
        refine WE_q rfl (q_loadN (vs := [_, _]) Tryd.underlying25 rfl ti25 rfl own0 rfl rfl) (by decide) ?_
        refine WE_q rfl (q_field (o' := 0) Tryd.underlying31 rfl ti28 rfl rfl) (by decide) ?_
        refine WE_q rfl (q_field (o' := 2) Tryd.underlying28 rfl ti26 rfl rfl) (by decide) ?_
        refine WE_q rfl (q_load1 Tryd.underlying26 rfl rfl own0 rfl) (by decide) ?_
        refine WE_q rfl (q_move rfl) (by decide) ?_
        refine WE_q rfl (q_nil rfl) (by decide) ?_
        refine WE_q rfl (q_field (o' := 2) Tryd.underlying101 rfl ti4 rfl rfl) (by decide) ?_
        refine WE_q rfl (q_load1 (v := .bool H.ents[k].off) Tryd.underlying4 rfl rfl (ownS (ownS (ownS (ownI (mkP_mem hjm))))) rfl) (by decide) ?_
        refine WE_q rfl (q_not rfl) (by decide) ?_
        refine WE_q rfl (q_move rfl) (by decide) ?_
        refine WE_q rfl (q_nil rfl) (by decide) ?_
        refine WE_q rfl (q_field (o' := 1) Tryd.underlying101 rfl ti29 rfl rfl) (by decide) ?_
        refine WE_q rfl (q_load1 (v := .slice xA H.ents[k].now.length xc) Tryd.underlying29 rfl rfl (ownS (ownS (ownS (ownI (mkP_mem hjm))))) rfl) (by decide) ?_
        refine WE_q rfl (q_build (.cons rfl (.nil)) (bd31_3Xw16 _ _ _)) (by decide) ?_
        refine WE_main rfl rfl (OW_call0 (clone_s { zeroOp with rs := H.ents[k].now } xA xc (hr.now _ (List.getElem_mem hk))) (.cons rfl (.nil)) (by decide) (memc (.tail _ (.tail _ (.head _))) mem0) fun u7_16 Lo fs hres => ?_)
        obtain ⟨A1, c1, rfl, rfl, rfl⟩ := hres
        refine ⟨⟨(List.Sublist.cons_cons _ (List.Sublist.cons _ (List.Sublist.cons_cons _ (List.Sublist.cons_cons _ (List.Sublist.cons_cons _ (List.Sublist.refl _)))))), (.tail _ (.head _))⟩, ?_⟩
        refine WE_q rfl (q_part rfl (fd31_3Xw16 _ _ _ _ _ _ _ _ _ _ _)) (by decide) ?_
        refine WE_q rfl (q_build (.cons rfl (.cons rfl (.cons rfl (.cons rfl (.nil))))) (bd42_0_1_2_3Xw16 _ _ _ _ _ _ _)) (by decide) ?_
        refine WE_end (WF_last rfl rfl (OW_storeN (cs' := [_, _, _, _, _, _, _]) (vs := [_, _, _, _, _, _, _]) ti42 rfl rfl rfl rfl rfl (Nat.le_of_ble_eq_true rfl) (.s (.z)) ?_))
        refine WF_p rfl (q_assign rfl) (by decide) ?_
        refine WF_nil ?_
        refine thenN ?_
        refine WC_fr [(5, _), (4, _)] (.cons rfl (.cons rfl (.nil _))) ?_
        refine WC_ret ?_
        refine ⟨_, [_, _, _], [_], fun Z w hs => RV_ownN hs Tryd.underlying42 rfl ti42 rfl (ownS (own0)) rfl (.tmp rfl (.nil)), ?_, fun Z w hs => hs.out (List.Sublist.cons _ (List.Sublist.cons _ (List.Sublist.cons_cons _ (List.Sublist.cons_cons _ (List.Sublist.cons_cons _ (List.Sublist.refl _)))))) (memc (.head _) (fun _ h => .tail _ (.tail _ (.tail _ (.tail _ (.tail _ (.tail _ (.tail _ h))))))))⟩
        try simp only [decide_eq_true_eq, decide_eq_false_iff_not, beq_iff_eq, bne_iff_ne, beq_eq_false_iff_ne, ne_eq, Bool.and_eq_true, Bool.not_eq_true', Bool.not_eq_false', Bool.not_eq_true, Bool.not_eq_false, bne_eq_false_iff_eq, Bool.and_eq_false_iff] at *
        rw [hop] at h30
        have hF : entryF H (k : Int) = _ := (entryF_at hk).trans (by unfold entE; rw [if_neg h30])
        exact ⟨A1, c1, by rw [hF]; simp only [hop]; rfl, rfl, by rw [hF]⟩

def OsP (H : Hist) (lo hi : Int) (ps : List Part) : Value → List Part → List Fact → Prop := fun v Lo fs => ∃ (A' : Option Addr) (c' : Nat), Lo = ps ∧
  (((lo < 0 ∨ lo > hi ∨ hi > H.ents.length) ∧ v = .tuple #[.slice none 0 0, .int .i64 12] ∧ fs = [RdF opD none 0 []]) ∨
   (¬ (lo < 0 ∨ lo > hi ∨ hi > H.ents.length) ∧ v = .tuple #[.slice A' ((H.ops.take hi.toNat).drop lo.toNat).length c', .int .i64 0] ∧ fs = [RdF opD A' c' ((H.ops.take hi.toNat).drop lo.toNat)]))

set_option maxRecDepth 10000 in
theorem hops_s (h m cap : Nat) (A : Option Addr) (H : Hist) (L : List MR) (hr : HR H L) (lo hi : Int) : Sp Tryd.prog 17 [.pointer (some ⟨h, 0, none⟩), .int .i64 lo, .int .i64 hi] [hdP h A H.ops.length cap m H.total, mpP m L, mkP L] [RdF opD A cap H.ops] (OsP H lo hi [hdP h A H.ops.length cap m H.total, mpP m L, mkP L]) := by
  have hol := ops_len H
  have hlen := hr.len
  refine Sp.of (n := 46) ⟨_, Tryd.func17, rfl, rfl, rfl, rfl⟩ (Nat.le_of_ble_eq_true rfl) fun Ps As => ?_
  refine WC_seq ?_
  refine WC_region ?_
  refine WL_q (q_assign rfl) (by decide) ?_
  refine WL_q (q_assign rfl) (by decide) ?_
  refine WL_nil ?_
  refine thenN ?_
  refine WC_seq ?_
  refine WC_seq ?_
  refine WC_fact (A := RdF opD none 0 []) (fun Z w hs => RdS.nil _ _ _) ?_
  refine WC_region ?_
  refine WL_q (q_move rfl) (by decide) ?_
  refine WL_q (q_lss rfl rfl) (by decide) ?_
  refine WL_q (q_move rfl) (by decide) ?_
  refine WL_guard (t := 13) rfl (fun g13 => ?_) (fun g13 => ?_)
  · refine WL_gno rfl rfl rfl g13 (by decide) ?_
    refine WL_gno rfl rfl rfl g13 (by decide) ?_
    refine WL_gno rfl rfl rfl g13 (by decide) ?_
    refine WL_q (q_pickT rfl g13 rfl) (by decide) ?_
    refine WL_q (q_move rfl) (by decide) ?_
    refine WL_gno rfl rfl rfl rfl (by decide) ?_
    refine WL_gno rfl rfl rfl rfl (by decide) ?_
    refine WL_gno rfl rfl rfl rfl (by decide) ?_
    refine WL_gno rfl rfl rfl rfl (by decide) ?_
    refine WL_gno rfl rfl rfl rfl (by decide) ?_
    refine WL_gno rfl rfl rfl rfl (by decide) ?_
    refine WL_gno rfl rfl rfl rfl (by decide) ?_
    refine WL_q (q_pickT rfl rfl rfl) (by decide) ?_
    refine WL_nil ?_
    refine thenN ?_
    refine WC_fr [(26, _), (7, _), (6, _), (0, _), (1, _), (2, _)] (.cons rfl (.cons rfl (.cons rfl (.cons rfl (.cons rfl (.cons rfl (.nil _))))))) ?_
    refine WC_true rfl rfl ?_
    refine WC_seq ?_
    refine WC_region ?_
    refine WL_q (q_assign rfl) (by decide) ?_
    refine WL_q (q_assign rfl) (by decide) ?_
    refine WL_nil ?_
    refine thenN ?_
    refine WC_ret ?_
    refine thenRet ?_
    refine ⟨_, [_, _, _], [_], fun Z w hs => .tmp rfl (.tmp rfl (.nil)), ?_, fun Z w hs => hs.out (List.Sublist.cons_cons _ (List.Sublist.cons_cons _ (List.Sublist.cons_cons _ (List.Sublist.refl _)))) (fun _ h => h)⟩
    try simp only [decide_eq_true_eq, decide_eq_false_iff_not, beq_iff_eq, bne_iff_ne, beq_eq_false_iff_ne, ne_eq, Bool.and_eq_true, Bool.not_eq_true', Bool.not_eq_false', Bool.not_eq_true, Bool.not_eq_false, bne_eq_false_iff_eq, Bool.and_eq_false_iff] at *
    exact ⟨none, 0, rfl, .inl ⟨by omega, rfl, rfl⟩⟩
  · refine WL_gq rfl rfl rfl g13 (q_move rfl) (by decide) ?_
    refine WL_gq rfl rfl rfl g13 (q_move rfl) (by decide) ?_
    refine WL_gq rfl rfl rfl g13 (q_gtr rfl rfl) (by decide) ?_
    refine WL_q (q_pickF rfl g13 rfl) (by decide) ?_
    refine WL_q (q_move rfl) (by decide) ?_
    refine WL_guard (t := 18) rfl (fun g18 => ?_) (fun g18 => ?_)
    · refine WL_gno rfl rfl rfl g18 (by decide) ?_
      refine WL_gno rfl rfl rfl g18 (by decide) ?_
      refine WL_gno rfl rfl rfl g18 (by decide) ?_
      refine WL_gno rfl rfl rfl g18 (by decide) ?_
      refine WL_gno rfl rfl rfl g18 (by decide) ?_
      refine WL_gno rfl rfl rfl g18 (by decide) ?_
      refine WL_gno rfl rfl rfl g18 (by decide) ?_
      refine WL_q (q_pickT rfl g18 rfl) (by decide) ?_
      refine WL_nil ?_
      refine thenN ?_
      refine WC_fr [(26, _), (7, _), (6, _), (0, _), (1, _), (2, _)] (.cons rfl (.cons rfl (.cons rfl (.cons rfl (.cons rfl (.cons rfl (.nil _))))))) ?_
      refine WC_true rfl rfl ?_
      refine WC_seq ?_
      refine WC_region ?_
      refine WL_q (q_assign rfl) (by decide) ?_
      refine WL_q (q_assign rfl) (by decide) ?_
      refine WL_nil ?_
      refine thenN ?_
      refine WC_ret ?_
      refine thenRet ?_
      refine ⟨_, [_, _, _], [_], fun Z w hs => .tmp rfl (.tmp rfl (.nil)), ?_, fun Z w hs => hs.out (List.Sublist.cons_cons _ (List.Sublist.cons_cons _ (List.Sublist.cons_cons _ (List.Sublist.refl _)))) (fun _ h => h)⟩
      try simp only [decide_eq_true_eq, decide_eq_false_iff_not, beq_iff_eq, bne_iff_ne, beq_eq_false_iff_ne, ne_eq, Bool.and_eq_true, Bool.not_eq_true', Bool.not_eq_false', Bool.not_eq_true, Bool.not_eq_false, bne_eq_false_iff_eq, Bool.and_eq_false_iff] at *
      exact ⟨none, 0, rfl, .inl ⟨by omega, rfl, rfl⟩⟩
    · refine WL_gq rfl rfl rfl g18 (q_move rfl) (by decide) ?_
      refine WL_gq rfl rfl rfl g18 (q_move rfl) (by decide) ?_
      refine WL_gq rfl rfl rfl g18 (q_nil rfl) (by decide) ?_
      refine WL_gq rfl rfl rfl g18 (q_field (o' := 0) Tryd.underlying97 rfl ti45 rfl rfl) (by decide) ?_
      refine WL_gq rfl rfl rfl g18 (q_load1 Tryd.underlying45 rfl rfl own0 rfl) (by decide) ?_
      refine WL_gq rfl rfl rfl g18 (q_len Tryd.underlying45 rfl) (by decide) ?_
      refine WL_gq rfl rfl rfl g18 (q_gtr rfl rfl) (by decide) ?_
      refine WL_q (q_pickF rfl g18 rfl) (by decide) ?_
      refine WL_nil ?_
      refine thenN ?_
      refine WC_fr [(26, _), (7, _), (6, _), (0, _), (1, _), (2, _)] (.cons rfl (.cons rfl (.cons rfl (.cons rfl (.cons rfl (.cons rfl (.nil _))))))) ?_
      refine WC_cond rfl (fun h26 => ?_) (fun h26 => ?_)
      · refine WC_seq ?_
        refine WC_region ?_
        refine WL_q (q_assign rfl) (by decide) ?_
        refine WL_q (q_assign rfl) (by decide) ?_
        refine WL_nil ?_
        refine thenN ?_
        refine WC_ret ?_
        refine thenRet ?_
        refine ⟨_, [_, _, _], [_], fun Z w hs => .tmp rfl (.tmp rfl (.nil)), ?_, fun Z w hs => hs.out (List.Sublist.cons_cons _ (List.Sublist.cons_cons _ (List.Sublist.cons_cons _ (List.Sublist.refl _)))) (fun _ h => h)⟩
        try simp only [decide_eq_true_eq, decide_eq_false_iff_not, beq_iff_eq, bne_iff_ne, beq_eq_false_iff_ne, ne_eq, Bool.and_eq_true, Bool.not_eq_true', Bool.not_eq_false', Bool.not_eq_true, Bool.not_eq_false, bne_eq_false_iff_eq, Bool.and_eq_false_iff] at *
        exact ⟨none, 0, rfl, .inl ⟨by omega, rfl, rfl⟩⟩
      · refine WC_skip ?_
        refine thenN ?_
        refine WC_seq ?_
        refine WC_region ?_
        refine WL_q (q_assign rfl) (by decide) ?_
        refine WL_nil ?_
        refine thenN ?_
        refine WC_seq ?_
        refine WC_seq ?_
        try simp only [decide_eq_true_eq, decide_eq_false_iff_not, beq_iff_eq, bne_iff_ne, beq_eq_false_iff_ne, ne_eq, Bool.and_eq_true, Bool.not_eq_true', Bool.not_eq_false', Bool.not_eq_true, Bool.not_eq_false, bne_eq_false_iff_eq, Bool.and_eq_false_iff] at *
        obtain ⟨lo, rfl⟩ : ∃ k : Nat, lo = (k : Int) := ⟨lo.toNat, by omega⟩
        obtain ⟨hi, rfl⟩ : ∃ k : Nat, hi = (k : Int) := ⟨hi.toNat, by omega⟩
        refine WC_capLe (.tail _ (.head _)) fun hcap hcap2 => ?_
        obtain ⟨B, hB⟩ : ∃ B, B = cutA A lo cap 9 := ⟨_, rfl⟩
        obtain ⟨xs, hxs⟩ : ∃ xs, xs = (H.ops.take hi).drop lo := ⟨_, rfl⟩
        have hxl : hi - lo = xs.length := by rw [hxs, List.length_drop, List.length_take]; omega
        have hfx : ∀ o ∈ xs, Fit o := fun o ho => by rw [hxs] at ho; have h1 := List.mem_of_mem_take (List.mem_of_mem_drop ho); obtain ⟨e, he, rfl⟩ := List.mem_map.1 h1; exact hr.fit e he
        refine WC_fact (A := RdF opD B (cap - lo) xs) (fun Z w hs => by rw [hB, hxs]; exact RdS.cut (lo := lo) (hi := hi) (m := cap) (hs.facts _ (.tail _ (.head _))) (by omega) (by omega) (by omega) (Nat.le_refl _)) ?_
        refine WC_fact (A := RepsF opD (xs.take 0) []) (fun Z w hs => Reps.nil) ?_
        refine WC_nilPart ?_
        refine WC_region ?_
        refine WL_q (q_move rfl) (by decide) ?_
        refine WL_q (q_nil rfl) (by decide) ?_
        refine WL_q (q_field (o' := 0) Tryd.underlying97 rfl ti45 rfl rfl) (by decide) ?_
        refine WL_q (q_load1 Tryd.underlying45 rfl rfl (ownS (own0)) rfl) (by decide) ?_
        refine WL_q (q_move rfl) (by decide) ?_
        refine WL_q (q_move rfl) (by decide) ?_
        refine WL_q (q_cutLoHi Tryd.underlying45 ti31 rfl rfl rfl (by omega) (by omega) (by omega)) (by decide) ?_
        refine WL_q (q_len Tryd.underlying45 rfl) (by decide) ?_
        refine WL_q (q_move rfl) (by decide) ?_
        refine WL_nil ?_
        refine thenN ?_
        refine WC_fr [(35, _), (34, _), (33, _), (8, _), (7, _), (6, _)] (.cons rfl (.cons rfl (.cons rfl (.cons rfl (.cons rfl (.cons rfl (.nil _))))))) ?_
        refine WC_block ?_
        refine WC_loopE (α := Nat × Value × Part × List (List Value)) (fun (k, v, p, css) => xs.length - k)
          (fun (k, v, p, css) => [(33, .slice B xs.length (cap - lo)), (34, .int .i64 xs.length), (35, .int .i64 k), (8, v)])
          (fun (k, v, p, css) => (p :: hdP h A H.ops.length cap m H.total :: mpP m L :: mkP L :: Ps))
          (fun (k, v, p, css) => (RepsF opD (xs.take k) css :: RdF opD B (cap - lo) xs :: RdF opD none 0 [] :: RdF opD A cap H.ops :: As))
          (fun (k, v, p, css) => k ≤ xs.length ∧ Row 31 9 v k css.flatten p)
          (0, .slice none 0 0, [], []) ?_ (.cons (by rw [hB, ← hxl]; rfl) (.cons (by rw [← hxl]; rfl) (.cons rfl (.cons rfl (.nil _))))) (List.Sublist.cons_cons _ (List.Sublist.cons_cons _ (List.Sublist.cons_cons _ (List.Sublist.cons_cons _ (List.Sublist.refl _))))) (fun _ h => h) ?_
        · exact ⟨Nat.zero_le _, Row.nil _ _⟩
        · rintro ⟨k, v, p, css⟩ hI
          have hle : k ≤ xs.length := hI.1
          have hxb : xs.length ≤ 1000000 := by rw [hxs, List.length_drop, List.length_take]; omega
          refine WC_seq ?_
          refine WC_region ?_
          refine WL_q (q_lss rfl rfl) (by decide) ?_
          refine WL_nil ?_
          refine thenN ?_
          refine WC_seq ?_
          refine WC_cond rfl (fun h36 => ?_) (fun h36 => ?_)
          · refine WC_skip ?_
            refine thenN ?_
            refine WC_seq ?_
            refine WC_block ?_
            refine WC_seq ?_
            try simp only [decide_eq_true_eq, decide_eq_false_iff_not, beq_iff_eq, bne_iff_ne, beq_eq_false_iff_ne, ne_eq, Bool.and_eq_true, Bool.not_eq_true', Bool.not_eq_false', Bool.not_eq_true, Bool.not_eq_false, bne_eq_false_iff_eq, Bool.and_eq_false_iff] at *
            have hk : k < xs.length := by omega
            refine WC_elem (k := k) (.tail _ (.head _)) (List.getElem?_eq_getElem hk) (op_open _) fun b6 q6 y6 e6 => ?_
            cases e6
            refine WC_region ?_
            refine WL_q (q_idxRd Tryd.underlying45 ti31 rfl rfl (by omega) (by omega)) (by decide) ?_
            refine WL_q (q_loadFN (k := 0) (vs := [_, _, _, _, _, _, _, _, _]) Tryd.underlying31 rfl ti31 rfl (.head _) rfl rfl rfl) (by decide) ?_
            refine WL_main rfl (OW_alloc (cs := [_, _, _, _, _, _, _, _, _]) ti31 rfl (by decide) fun b10 => ?_)
            refine WL_main rfl (OW_storeN (cs' := [_, _, _, _, _, _, _, _, _]) (vs := [_, _, _, _, _, _, _, _, _]) ti31 rfl rfl rfl rfl rfl (Nat.le_of_ble_eq_true rfl) (.z) ?_)
            refine WL_nil ?_
            refine thenN ?_
            refine WC_region ?_
            refine WL_q (q_move rfl) (by decide) ?_
            refine WL_q (q_loadN (vs := [_, _, _, _, _, _, _, _, _]) Tryd.underlying31 rfl ti31 rfl own0 rfl rfl) (by decide) ?_
            refine WL_main rfl (OW_call0 (clone_s xs[k] y6.1 y6.2 (hfx _ (List.getElem_mem hk)).rs) (.cons rfl (.nil)) (by decide) (memc (.tail _ (.head _)) mem0) fun u7_2 Lo fs hres => ?_)
            obtain ⟨A1, c1, rfl, rfl, rfl⟩ := hres
            refine WL_main rfl (OW_slice1 (cs := [_, _, _, _, _, _, _, _, _]) Tryd.underlying45 ti31 (by decide) (by decide) rfl rfl rfl rfl (by decide) fun b42 => ?_)
            refine WL_main rfl (OW_append1 (news := [_, _, _, _, _, _, _, _, _]) Tryd.underlying45 ti31 rfl (by decide) rfl rfl hI.2 own0 rfl rfl (by omega) (by unfold maxLen; omega) (by decide) (DelAt.perm (.s (.s (.z)))) fun v43 p43 hr43 => ?_)
            refine WL_q (q_assign rfl) (by decide) ?_
            refine WL_nil ?_
            refine blockN ?_
            refine thenN ?_
            refine WC_repsAdd (u := xs[k]) (cs := opC xs[k] A1 c1) (.tail _ (.tail _ (.tail _ (.head _)))) (fun Z w hs => ⟨A1, c1, rfl, hs.facts _ (.head _)⟩) (List.take_succ_eq_append_getElem hk) ?_
            refine WC_region ?_
            refine WL_q (q_add rfl rfl (wr64 (by omega))) (by decide) ?_
            refine WL_q (q_move rfl) (by decide) ?_
            refine WL_nil ?_
            refine thenK ?_
            refine ⟨(k + 1, v43, p43, css ++ [opC xs[k] A1 c1]), ?_, (.cons rfl (.cons rfl (.cons rfl (.cons rfl (.nil _))))), (List.Sublist.cons_cons _ (List.Sublist.cons _ (List.Sublist.cons _ (List.Sublist.cons_cons _ (List.Sublist.cons_cons _ (List.Sublist.cons_cons _ (List.Sublist.refl _))))))), (memc (.head _) (fun _ h => .tail _ (.tail _ (.tail _ (.tail _ (.tail _ h))))))⟩
            refine ⟨by show xs.length - (k + 1) < xs.length - k; omega, by show k + 1 ≤ xs.length; omega, ?_⟩
            rw [List.flatten_append, show [opC xs[k] A1 c1].flatten = opC xs[k] A1 c1 from by simp]
            exact hr43
          · refine WC_exit ?_
            refine thenExit ?_
            refine thenExit ?_
            refine blockHit ?_
            refine thenN ?_
            refine WC_seq ?_
            try simp only [decide_eq_true_eq, decide_eq_false_iff_not, beq_iff_eq, bne_iff_ne, beq_eq_false_iff_ne, ne_eq, Bool.and_eq_true, Bool.not_eq_true', Bool.not_eq_false', Bool.not_eq_true, Bool.not_eq_false, bne_eq_false_iff_eq, Bool.and_eq_false_iff] at *
            have hI1 : k ≤ xs.length := hI.1
            obtain rfl : k = xs.length := by omega
            refine WC_freeze (e := opD) (css := css) (xs := xs.take xs.length) hI.2 (.z) (by rw [List.take_length]) (.head _) fun Ao co eo => ?_
            subst eo
            rw [List.take_length]
            refine WC_region ?_
            refine WL_q (q_move rfl) (by decide) ?_
            refine WL_q (q_assign rfl) (by decide) ?_
            refine WL_q (q_assign rfl) (by decide) ?_
            refine WL_nil ?_
            refine thenN ?_
            refine WC_ret ?_
            refine ⟨_, [_, _, _], [_], fun Z w hs => .tmp rfl (.tmp rfl (.nil)), ?_, fun Z w hs => hs.out (List.Sublist.cons_cons _ (List.Sublist.cons_cons _ (List.Sublist.cons_cons _ (List.Sublist.refl _)))) (memc (.head _) (fun _ h => .tail _ (.tail _ (.tail _ (.tail _ h)))))⟩
            subst hxs
            exact ⟨Ao, co, rfl, .inr ⟨by omega, rfl, rfl⟩⟩

end Go.Proofs.YtggdddkbhigjoaaDoor
