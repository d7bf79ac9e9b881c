/- Walks: history.turn, turned. -/
import Derived.Test.YtggdddkbhigjoaaDoorWn
set_option linter.unusedVariables false
set_option linter.unusedSimpArgs false
namespace Go.Proofs.YtggdddkbhigjoaaDoor
open Go Go.GW
/-- What a method answers that makes an operation. -/
def OpR (r : GOp) (ps : List Part) : Value → List Part → List Fact → Prop := fun v Lo fs => ∃ (A' : Option Addr) (c' : Nat), v = opV r A' c' ∧ Lo = ps ∧ fs = [RdF rgD A' c' r.rs]
theorem bd28_1Xw15 (x1_ : Int) (w : World) : (Instr.build 28 #[(1, .int .i64 x1_)]).run Tryd.prog w = .ok (.agg #[.int .i64 0, .int .i64 0, .int .i64 x1_]) w := by kernel_rfl
theorem bd31_0_3Xw15 (x0_0a0 : Int) (x0_0a1 : Int) (x0_1 : Int) (x3_A : Option Addr) (x3_n x3_c : Nat) (w : World) : (Instr.build 31 #[(0, .agg #[.int .i64 x0_0a0, .int .i64 x0_0a1, .int .i64 x0_1]), (3, .slice x3_A x3_n x3_c)]).run Tryd.prog w = .ok (.agg #[.int .i64 x0_0a0, .int .i64 x0_0a1, .int .i64 x0_1, .int .i64 0, .string ⟨#[]⟩, .slice x3_A x3_n x3_c, .int .i64 0, .int .i64 0, .bool false]) w := by kernel_rfl

set_option maxRecDepth 10000 in
theorem turn_s (h m cap : Nat) (A : Option Addr) (H : Hist) (L : List MR) (hr : HR H L) (xs : List GOp) (tot : Int) (hx : xs = H.ops) (j k : Nat) (xb : Nat) (xA : Option Addr) (xc : Nat) (hk : k < H.ents.length) (hj : L[j]? = some ⟨markAt k H.ents[k], xb, xA, xc⟩) (on : Bool) : Sp Tryd.prog 59 [.pointer (some ⟨h, 0, none⟩), .pointer (some ⟨xb, 0, none⟩), .bool on] [hdP h A xs.length cap m tot, mkP L] [RdF opD A cap xs, AllF L nowF] (OpR (turnF H.ents[k] on) [hdP h A xs.length cap m tot, mkP L]) := by
  subst hx
  have hol := ops_len H
  have hlen := hr.len
  refine Sp.of (n := 31) ⟨_, Tryd.func59, rfl, rfl, rfl, rfl⟩ (Nat.le_of_ble_eq_true rfl) fun Ps As => ?_
  refine WC_seq ?_
  refine WC_region ?_
  refine WL_main rfl (OW_alloc (cs := [_, _, _, _, _, _, _, _, _]) ti31 rfl (by decide) fun b6 => ?_)
  refine WL_nil ?_
  refine thenN ?_
  refine WC_seq ?_
  refine WC_region ?_
  refine WL_q (q_assign rfl) (by decide) ?_
  refine WL_nil ?_
  refine thenN ?_
  refine WC_seq ?_
  refine WC_seq ?_
  have hko : k < H.ops.length := by omega
  have hop := ops_at hk
  refine WC_elem (k := k) (.head _) (List.getElem?_eq_getElem hko) (op_open _) fun bo qo yo eo => ?_
  cases eo
  refine WC_all _ (.tail _ (.tail _ (.tail _ (.head _)))) (List.mem_of_getElem? hj) ?_
  refine WC_draw _ _ [] [(0, 0), (1, 0), (2, 0), (3, 0), (4, 0), (5, 0), (6, 0), (7, 0), (8, 0), (9, 0), (10, 0), (11, 0), (12, 0), (13, 0), (14, 0)] mixed (fun _ _ _ _ h => h) (List.Sublist.cons_cons _ (List.Sublist.cons_cons _ (List.Sublist.cons_cons _ (List.Sublist.refl _)))) (fun _ h => h) (by kernel_rfl) (by decide) fun ws Z0 => ?_
  refine WE_q rfl (q_move rfl) (by decide) ?_
  refine WE_q rfl (q_nil rfl) (by decide) ?_
  refine WE_q rfl (q_field (o' := 0) Tryd.underlying97 rfl ti45 rfl rfl) (by decide) ?_
  refine WE_q rfl (q_load1 Tryd.underlying45 rfl rfl (ownS (own0)) rfl) (by decide) ?_
  refine WE_q rfl (q_move rfl) (by decide) ?_
  refine WE_q rfl (q_nil rfl) (by decide) ?_
  refine WE_q rfl (q_field (o' := 0) Tryd.underlying101 rfl ti3 rfl rfl) (by decide) ?_
  refine WE_q rfl (q_load1 (v := .int .i64 (k : Int)) Tryd.underlying3 rfl rfl (ownS (ownS (ownI (mkP_mem hj)))) rfl) (by decide) ?_
  refine WE_q rfl (q_idxRd Tryd.underlying45 ti31 rfl rfl (by omega) (by omega)) (by decide) ?_
  refine WE_q rfl (q_field (o' := _ + 0) Tryd.underlying31 rfl ti28 rfl rfl) (by decide) ?_
  refine WE_q rfl (q_field (o' := _ + 2) Tryd.underlying28 rfl ti26 rfl rfl) (by decide) ?_
  refine WE_q rfl (q_loadF1 (j := 2) Tryd.underlying26 rfl rfl (.tail _ (.head _)) rfl rfl) (by decide) ?_
  refine WE_q rfl (q_eql rfl rfl) (by decide) ?_
  refine WE_q rfl (q_move rfl) (by decide) ?_
  refine WE_q rfl (q_beql' Tryd.underlying4 rfl rfl) (by decide) ?_
  refine WE_end (WF_nil ?_)
  refine thenN ?_
  refine WC_fr [(22, _), (7, _), (6, _), (1, _)] (.cons rfl (.cons rfl (.cons rfl (.cons rfl (.nil _))))) ?_
  refine WC_cond rfl (fun h22 => ?_) (fun h22 => ?_)
  · refine WC_region ?_
    refine WL_q (q_assign rfl) (by decide) ?_
    refine WL_nil ?_
    refine thenN ?_
    refine WC_seq ?_
    refine WC_region ?_
    refine WL_q (q_move rfl) (by decide) ?_
    refine WL_q (q_build (.cons rfl (.nil)) (bd28_1Xw15 _)) (by decide) ?_
    refine WL_q (q_move rfl) (by decide) ?_
    refine WL_q (q_nil rfl) (by decide) ?_
    refine WL_q (q_field (o' := 1) Tryd.underlying101 rfl ti29 rfl rfl) (by decide) ?_
    refine WL_q (q_load1 Tryd.underlying29 rfl rfl (ownS (ownS (ownI (mkP_mem hj)))) rfl) (by decide) ?_
    refine WL_q (q_build (.cons rfl (.cons rfl (.nil))) (bd31_0_3Xw15 _ _ _ _ _ _)) (by decide) ?_
    refine WL_main rfl (OW_call0 (clone_s { zeroOp with kind := 2, rs := H.ents[k].now } xA xc (hr.now _ (List.getElem_mem hk))) (.cons rfl (.nil)) (by decide) (memc (.tail _ (.head _)) mem0) fun u4_7 Lo fs hres => ?_)
    obtain ⟨A1, c1, rfl, rfl, rfl⟩ := hres
    refine WL_main rfl (OW_storeN (cs' := [_, _, _, _, _, _, _, _, _]) (vs := [_, _, _, _, _, _, _, _, _]) ti31 rfl rfl rfl rfl rfl (Nat.le_of_ble_eq_true rfl) (.z) ?_)
    refine WL_nil ?_
    refine thenN ?_
    refine WC_ret ?_
    refine ⟨_, [_, _], [_], fun Z w hs => RV_ownN hs Tryd.underlying31 rfl ti31 rfl own0 rfl (.nil), ?_, fun Z w hs => hs.out (List.Sublist.cons _ (List.Sublist.cons_cons _ (List.Sublist.cons_cons _ (List.Sublist.refl _)))) (memc (.head _) (fun _ h => .tail _ (.tail _ (.tail _ (.tail _ (.tail _ h))))))⟩
    try simp only [decide_eq_true_eq, decide_eq_false_iff_not, beq_iff_eq, bne_iff_ne, beq_eq_false_iff_ne, ne_eq, Bool.and_eq_true, Bool.not_eq_true', Bool.not_eq_false', Bool.not_eq_true, Bool.not_eq_false, bne_eq_false_iff_eq, Bool.and_eq_false_iff] at *
    rw [hop] at h22
    have hT : turnF H.ents[k] on = { zeroOp with kind := 2, rs := H.ents[k].now } := by unfold turnF; cases on <;> simp_all
    exact ⟨A1, c1, by rw [hT]; rfl, rfl, by rw [hT]⟩
  · refine WC_skip ?_
    refine thenN ?_
    refine WC_seq ?_
    refine WC_region ?_
    refine WL_q (q_move rfl) (by decide) ?_
    refine WL_q (q_build (.cons rfl (.nil)) (bd28_1Xw15 _)) (by decide) ?_
    refine WL_q (q_move rfl) (by decide) ?_
    refine WL_q (q_nil rfl) (by decide) ?_
    refine WL_q (q_field (o' := 1) Tryd.underlying101 rfl ti29 rfl rfl) (by decide) ?_
    refine WL_q (q_load1 Tryd.underlying29 rfl rfl (ownS (ownS (ownI (mkP_mem hj)))) rfl) (by decide) ?_
    refine WL_q (q_build (.cons rfl (.cons rfl (.nil))) (bd31_0_3Xw15 _ _ _ _ _ _)) (by decide) ?_
    refine WL_main rfl (OW_call0 (clone_s { zeroOp with kind := 3, rs := H.ents[k].now } xA xc (hr.now _ (List.getElem_mem hk))) (.cons rfl (.nil)) (by decide) (memc (.tail _ (.head _)) mem0) fun u4_7 Lo fs hres => ?_)
    obtain ⟨A1, c1, rfl, rfl, rfl⟩ := hres
    refine WL_main rfl (OW_storeN (cs' := [_, _, _, _, _, _, _, _, _]) (vs := [_, _, _, _, _, _, _, _, _]) ti31 rfl rfl rfl rfl rfl (Nat.le_of_ble_eq_true rfl) (.z) ?_)
    refine WL_nil ?_
    refine thenN ?_
    refine WC_ret ?_
    refine ⟨_, [_, _], [_], fun Z w hs => RV_ownN hs Tryd.underlying31 rfl ti31 rfl own0 rfl (.nil), ?_, fun Z w hs => hs.out (List.Sublist.cons _ (List.Sublist.cons_cons _ (List.Sublist.cons_cons _ (List.Sublist.refl _)))) (memc (.head _) (fun _ h => .tail _ (.tail _ (.tail _ (.tail _ (.tail _ h))))))⟩
    try simp only [decide_eq_true_eq, decide_eq_false_iff_not, beq_iff_eq, bne_iff_ne, beq_eq_false_iff_ne, ne_eq, Bool.and_eq_true, Bool.not_eq_true', Bool.not_eq_false', Bool.not_eq_true, Bool.not_eq_false, bne_eq_false_iff_eq, Bool.and_eq_false_iff] at *
    rw [hop] at h22
    have hT : turnF H.ents[k] on = { zeroOp with kind := 3, rs := H.ents[k].now } := by unfold turnF; cases on <;> simp_all
    exact ⟨A1, c1, by rw [hT]; rfl, rfl, by rw [hT]⟩

def TdP (H : Hist) (i : Nat) (o : GOp) (h m cap : Nat) (A : Option Addr) (L : List MR) : Value → List Part → List Fact → Prop := fun v Lo fs =>
  ∃ (L' : List MR) (A' : Option Addr) (c' : Nat), HR ⟨(turnedF H i o).1, H.total⟩ L' ∧ keys L' = keys L ∧ v = opV (turnedF H i o).2 A' c' ∧ Lo = [hdP h A H.ops.length cap m H.total, mpP m L, mkP L'] ∧ fs = [RdF rgD A' c' (turnedF H i o).2.rs, AllF L' nowF]
structure TdI (H : Hist) (i : Nat) (o : GOp) (k : Nat) : Prop where
  le : k ≤ (H.ops.drop i).length
  eq : laterT (H.ents.drop i) o.tc o.tn = laterT (H.ents.drop (i + k)) o.tc o.tn
theorem laterT_cons (e : Ent) (l : List Ent) (c n : Int) : laterT (e :: l) c n = ((decide (e.op.kind = 4) && (decide (e.op.tc = c) && decide (e.op.tn = n))) || laterT l c n) := rfl
theorem TdI.hit {H : Hist} {i : Nat} {o : GOp} {k : Nat} (h : TdI H i o k) (hk : i + k < H.ents.length) (h1 : H.ents[i + k].op.kind = 4 ∧ H.ents[i + k].op.tc = o.tc ∧ H.ents[i + k].op.tn = o.tn) : laterT (H.ents.drop i) o.tc o.tn = true := by
  rw [h.eq, List.drop_eq_getElem_cons hk, laterT_cons]; simp [h1]
theorem TdI.next {H : Hist} {i : Nat} {o : GOp} {k : Nat} (h : TdI H i o k) (hk : i + k < H.ents.length) (h1 : ¬ (H.ents[i + k].op.kind = 4 ∧ H.ents[i + k].op.tc = o.tc ∧ H.ents[i + k].op.tn = o.tn)) : TdI H i o (k + 1) := by
  refine ⟨by rw [List.length_drop, ops_len]; omega, ?_⟩
  rw [h.eq, List.drop_eq_getElem_cons hk, laterT_cons]
  have : (decide (H.ents[i + k].op.kind = 4) && (decide (H.ents[i + k].op.tc = o.tc) && decide (H.ents[i + k].op.tn = o.tn))) = false := by
    rw [Bool.eq_false_iff]; intro hh; simp at hh; exact h1 hh
  rw [this, Bool.false_or]; rfl
theorem TdI.done {H : Hist} {i : Nat} {o : GOp} {k : Nat} (h : TdI H i o k) (hk : ¬ i + k < H.ents.length) : laterT (H.ents.drop i) o.tc o.tn = false := by
  rw [h.eq, List.drop_eq_nil_of_le (by omega)]; rfl
theorem turnedF_1 {H : Hist} {i : Nat} {o : GOp} (h : laterT (H.ents.drop i) o.tc o.tn = true) : turnedF H i o = (H.ents, zeroOp) := by unfold turnedF; rw [if_pos h]
theorem turnedF_2 {H : Hist} {i : Nat} {o : GOp} {k : Nat} (h : laterT (H.ents.drop i) o.tc o.tn = false) (hw : whereId H.ents o.tc o.tn = some k) (hk : k < H.ents.length) (h2 : H.ents[k].off = !o.on) : turnedF H i o = (H.ents, zeroOp) := by
  unfold turnedF; rw [if_neg (by rw [h]; decide), hw]; simp only [List.getElem?_eq_getElem hk, if_pos h2]
theorem turnedF_3 {H : Hist} {i : Nat} {o : GOp} {k : Nat} (h : laterT (H.ents.drop i) o.tc o.tn = false) (hw : whereId H.ents o.tc o.tn = some k) (hk : k < H.ents.length) (h2 : ¬ H.ents[k].off = !o.on) : turnedF H i o = (H.ents.set k (offE H.ents[k] (!o.on)), turnF H.ents[k] o.on) := by
  unfold turnedF; rw [if_neg (by rw [h]; decide), hw]; simp only [List.getElem?_eq_getElem hk, if_neg h2]
theorem bd31Xw15  (w : World) : (Instr.build 31 #[]).run Tryd.prog w = .ok (.agg #[.int .i64 0, .int .i64 0, .int .i64 0, .int .i64 0, .string ⟨#[]⟩, .slice none 0 0, .int .i64 0, .int .i64 0, .bool false]) w := by kernel_rfl

set_option maxRecDepth 10000 in
theorem turned_s (h m cap : Nat) (A : Option Addr) (H : Hist) (L : List MR) (hr : HR H L) (i : Nat) (hi : i ≤ H.ents.length) (o : GOp) (Ao : Option Addr) (co k : Nat) (hw : whereId H.ents o.tc o.tn = some k) : Sp Tryd.prog 43 [.pointer (some ⟨h, 0, none⟩), .int .i64 i, opV o Ao co] [hdP h A H.ops.length cap m H.total, mpP m L, mkP L] [RdF opD A cap H.ops, AllF L nowF] (TdP H i o h m cap A L) := by
  have hol := ops_len H
  have hlen := hr.len
  obtain ⟨hk, j, x, hc, hn, hj, hm, hg⟩ := hr.look1 hw
  obtain ⟨xm, xb, xA, xc⟩ := x
  obtain rfl : xm = markAt k H.ents[k] := hm
  refine Sp.of (n := 61) ⟨_, Tryd.func43, rfl, rfl, rfl, rfl⟩ (Nat.le_of_ble_eq_true rfl) fun Ps As => ?_
  refine WC_seq ?_
  refine WC_region ?_
  refine WL_main rfl (OW_box (cs := [_, _, _, _, _, _, _, _, _]) rfl rfl (by decide) fun b5 => ?_)
  refine WL_main rfl (OW_alloc (cs := [_, _, _, _, _, _, _, _, _]) ti31 rfl (by decide) fun b6 => ?_)
  refine WL_nil ?_
  refine thenN ?_
  refine WC_seq ?_
  refine WC_seq ?_
  refine WC_fact (A := RdF rgD none 0 []) (fun Z w hs => RdS.nil _ _ _) ?_
  refine WC_capLe (.tail _ (.head _)) fun hcap hcap2 => ?_
  obtain ⟨B, hB⟩ : ∃ B, B = cutA A i cap 9 := ⟨_, rfl⟩
  have hdl : H.ops.length - i = (H.ops.drop i).length := by rw [List.length_drop]
  refine WC_fact (A := RdF opD B (cap - i) (H.ops.drop i)) (fun Z w hs => by rw [hB]; have h1 := RdS.cut (lo := i) (hi := H.ops.length) (m := cap) (hs.facts _ (.tail _ (.head _))) (by omega) (by omega) (by omega) (Nat.le_refl _); rw [List.take_length] at h1; exact h1) ?_
  refine WC_region ?_
  refine WL_q (q_move rfl) (by decide) ?_
  refine WL_q (q_nil rfl) (by decide) ?_
  refine WL_q (q_field (o' := 0) Tryd.underlying97 rfl ti45 rfl rfl) (by decide) ?_
  refine WL_q (q_load1 Tryd.underlying45 rfl rfl (ownS (ownS (own0))) rfl) (by decide) ?_
  refine WL_q (q_move rfl) (by decide) ?_
  refine WL_q (q_cutLo Tryd.underlying45 ti31 rfl rfl (by omega) (by omega)) (by decide) ?_
  refine WL_q (q_len Tryd.underlying45 rfl) (by decide) ?_
  refine WL_q (q_move rfl) (by decide) ?_
  refine WL_nil ?_
  refine thenN ?_
  refine WC_block ?_
  refine WC_loopE (α := Nat) (fun q => (H.ops.drop i).length - q)
    (fun q => [(0, .pointer (some ⟨h, 0, none⟩)), (5, .pointer (some ⟨b5, 0, none⟩)), (6, .pointer (some ⟨b6, 0, none⟩)), (15, .slice B (H.ops.drop i).length (cap - i)), (16, .int .i64 (H.ops.drop i).length), (17, .int .i64 q)])
    (fun q => ([(b6, cellsO (opC zeroOp none 0) 31)] :: [(b5, cellsO (opC o Ao co) 31)] :: hdP h A H.ops.length cap m H.total :: mpP m L :: mkP L :: Ps))
    (fun q => (RdF opD B (cap - i) (H.ops.drop i) :: RdF rgD none 0 [] :: RdF opD A cap H.ops :: AllF L nowF :: As))
    (fun q => TdI H i o q)
    0 ?_ (.cons rfl (.cons rfl (.cons rfl (.cons (by rw [hB, ← hdl]; rfl) (.cons (by rw [← hdl]; rfl) (.cons rfl (.nil _))))))) (List.Sublist.cons_cons _ (List.Sublist.cons_cons _ (List.Sublist.cons_cons _ (List.Sublist.cons_cons _ (List.Sublist.cons_cons _ (List.Sublist.refl _)))))) (fun _ h => h) ?_
  · exact ⟨Nat.zero_le _, rfl⟩
  · rintro q hI
    refine WC_seq ?_
    refine WC_region ?_
    refine WL_q (q_lss rfl rfl) (by decide) ?_
    refine WL_nil ?_
    refine thenN ?_
    refine WC_seq ?_
    refine WC_cond rfl (fun h18 => ?_) (fun h18 => ?_)
    · refine WC_skip ?_
      refine thenN ?_
      refine WC_seq ?_
      refine WC_block ?_
      refine WC_seq ?_
      try simp only [decide_eq_true_eq, decide_eq_false_iff_not, beq_iff_eq, bne_iff_ne, beq_eq_false_iff_ne, ne_eq, Bool.and_eq_true, Bool.not_eq_true', Bool.not_eq_false', Bool.not_eq_true, Bool.not_eq_false, bne_eq_false_iff_eq, Bool.and_eq_false_iff] at *
      have hq : q < (H.ops.drop i).length := by omega
      have hqe : i + q < H.ents.length := by rw [List.length_drop] at hq; omega
      have hop : (H.ops.drop i)[q] = H.ents[i + q].op := by rw [List.getElem_drop, ops_at]
      refine WC_elem (k := q) (.head _) (List.getElem?_eq_getElem hq) (op_open _) fun b3 q3 y3 e3 => ?_
      cases e3
      refine WC_region ?_
      refine WL_q (q_idxRd Tryd.underlying45 ti31 rfl rfl (by omega) (by omega)) (by decide) ?_
      refine WL_q (q_loadFN (k := 0) (vs := [_, _, _, _, _, _, _, _, _]) Tryd.underlying31 rfl ti31 rfl (.head _) rfl rfl rfl) (by decide) ?_
      refine WL_main rfl (OW_alloc (cs := [_, _, _, _, _, _, _, _, _]) ti31 rfl (by decide) fun b8 => ?_)
      refine WL_main rfl (OW_storeN (cs' := [_, _, _, _, _, _, _, _, _]) (vs := [_, _, _, _, _, _, _, _, _]) ti31 rfl rfl rfl rfl rfl (Nat.le_of_ble_eq_true rfl) (.z) ?_)
      refine WL_nil ?_
      refine thenN ?_
      refine WC_seq ?_
      refine WC_region ?_
      refine WL_q (q_field (o' := 0) Tryd.underlying31 rfl ti28 rfl rfl) (by decide) ?_
      refine WL_q (q_field (o' := 2) Tryd.underlying28 rfl ti26 rfl rfl) (by decide) ?_
      refine WL_q (q_load1 Tryd.underlying26 rfl rfl own0 rfl) (by decide) ?_
      refine WL_q (q_eql rfl rfl) (by decide) ?_
      refine WL_q (q_move rfl) (by decide) ?_
      refine WL_guard (t := 25) rfl (fun g25 => ?_) (fun g25 => ?_)
      · refine WL_gq rfl rfl rfl g25 (q_field (o' := 6) Tryd.underlying31 rfl ti25 rfl rfl) (by decide) ?_
        refine WL_gq rfl rfl rfl g25 (q_loadN (vs := [_, _]) Tryd.underlying25 rfl ti25 rfl own0 rfl rfl) (by decide) ?_
        refine WL_gq rfl rfl rfl g25 (q_field (o' := 6) Tryd.underlying31 rfl ti25 rfl rfl) (by decide) ?_
        refine WL_gq rfl rfl rfl g25 (q_loadN (vs := [_, _]) Tryd.underlying25 rfl ti25 rfl (ownS (ownS (own0))) rfl rfl) (by decide) ?_
        refine WL_gq rfl rfl rfl g25 (q_aggeql rfl rfl (eq25 _ _ _ _)) (by decide) ?_
        refine WL_q (q_pickT rfl g25 rfl) (by decide) ?_
        refine WL_nil ?_
        refine thenN ?_
        refine WC_cond rfl (fun h31 => ?_) (fun h31 => ?_)
        · refine WC_seq ?_
          refine WC_region ?_
          refine WL_q (q_build (.nil) (bd31Xw15)) (by decide) ?_
          refine WL_main rfl (OW_storeN (cs' := [_, _, _, _, _, _, _, _, _]) (vs := [_, _, _, _, _, _, _, _, _]) ti31 rfl rfl rfl rfl rfl (Nat.le_of_ble_eq_true rfl) (.s (.z)) ?_)
          refine WL_nil ?_
          refine thenN ?_
          refine WC_ret ?_
          refine blockRet ?_
          refine thenRet ?_
          refine thenRet ?_
          refine blockRet ?_
          refine thenRet ?_
          refine ⟨_, [_, _, _], [_, _], fun Z w hs => RV_ownN hs Tryd.underlying31 rfl ti31 rfl (ownS (own0)) rfl (.nil), ?_, fun Z w hs => hs.out (List.Sublist.cons _ (List.Sublist.cons _ (List.Sublist.cons _ (List.Sublist.cons_cons _ (List.Sublist.cons_cons _ (List.Sublist.cons_cons _ (List.Sublist.refl _))))))) (memc (.tail _ (.tail _ (.tail _ (.head _)))) (memc (.tail _ (.tail _ (.tail _ (.tail _ (.tail _ (.head _)))))) (fun _ h => .tail _ (.tail _ (.tail _ (.tail _ h))))))⟩
          try simp only [decide_eq_true_eq, decide_eq_false_iff_not, beq_iff_eq, bne_iff_ne, beq_eq_false_iff_ne, ne_eq, Bool.and_eq_true, Bool.not_eq_true', Bool.not_eq_false', Bool.not_eq_true, Bool.not_eq_false, bne_eq_false_iff_eq, Bool.and_eq_false_iff] at *
          have hF : turnedF H i o = _ := turnedF_1 (hI.hit hqe (by rw [← hop]; exact ⟨g25, h31.1, h31.2⟩))
          exact ⟨L, none, 0, by rw [hF]; exact hr, rfl, by rw [hF]; rfl, rfl, by rw [hF]; rfl⟩
        · refine WC_skip ?_
          refine blockN ?_
          refine thenN ?_
          refine WC_region ?_
          refine WL_q (q_add rfl rfl (wr64 (by omega))) (by decide) ?_
          refine WL_q (q_move rfl) (by decide) ?_
          refine WL_nil ?_
          refine thenK ?_
          try simp only [decide_eq_true_eq, decide_eq_false_iff_not, beq_iff_eq, bne_iff_ne, beq_eq_false_iff_ne, ne_eq, Bool.and_eq_true, Bool.not_eq_true', Bool.not_eq_false', Bool.not_eq_true, Bool.not_eq_false, bne_eq_false_iff_eq, Bool.and_eq_false_iff] at *
          refine ⟨q + 1, ?_, (.cons rfl (.cons rfl (.cons rfl (.cons rfl (.cons rfl (.cons rfl (.nil _))))))), (List.Sublist.cons _ (List.Sublist.cons_cons _ (List.Sublist.cons_cons _ (List.Sublist.cons_cons _ (List.Sublist.cons_cons _ (List.Sublist.cons_cons _ (List.Sublist.refl _))))))), (fun _ h => .tail _ (.tail _ h))⟩
          exact ⟨by omega, hI.next hqe (fun ⟨e1, e2, e3⟩ => by rw [← hop] at e1 e2 e3; first | exact absurd e1 g25 | (rcases h31 with h31 | h31; exact h31 e2; exact h31 e3))⟩
      · refine WL_gno rfl rfl rfl g25 (by decide) ?_
        refine WL_gno rfl rfl rfl g25 (by decide) ?_
        refine WL_gno rfl rfl rfl g25 (by decide) ?_
        refine WL_gno rfl rfl rfl g25 (by decide) ?_
        refine WL_gno rfl rfl rfl g25 (by decide) ?_
        refine WL_q (q_pickF rfl g25 rfl) (by decide) ?_
        refine WL_nil ?_
        refine thenN ?_
        refine WC_false rfl rfl ?_
        refine WC_skip ?_
        refine blockN ?_
        refine thenN ?_
        refine WC_region ?_
        refine WL_q (q_add rfl rfl (wr64 (by omega))) (by decide) ?_
        refine WL_q (q_move rfl) (by decide) ?_
        refine WL_nil ?_
        refine thenK ?_
        try simp only [decide_eq_true_eq, decide_eq_false_iff_not, beq_iff_eq, bne_iff_ne, beq_eq_false_iff_ne, ne_eq, Bool.and_eq_true, Bool.not_eq_true', Bool.not_eq_false', Bool.not_eq_true, Bool.not_eq_false, bne_eq_false_iff_eq, Bool.and_eq_false_iff] at *
        refine ⟨q + 1, ?_, (.cons rfl (.cons rfl (.cons rfl (.cons rfl (.cons rfl (.cons rfl (.nil _))))))), (List.Sublist.cons _ (List.Sublist.cons_cons _ (List.Sublist.cons_cons _ (List.Sublist.cons_cons _ (List.Sublist.cons_cons _ (List.Sublist.cons_cons _ (List.Sublist.refl _))))))), (fun _ h => .tail _ (.tail _ h))⟩
        exact ⟨by omega, hI.next hqe (fun ⟨e1, e2, e3⟩ => by rw [← hop] at e1 e2 e3; first | exact absurd e1 g25 | (rcases h31 with h31 | h31; exact h31 e2; exact h31 e3))⟩
    · refine WC_exit ?_
      refine thenExit ?_
      refine thenExit ?_
      refine blockHit ?_
      refine thenN ?_
      refine WC_seq ?_
      refine WC_draw _ _ [] [(0, 0), (1, 0), (2, 0), (3, 0), (4, 0), (5, 0), (6, 0), (7, 0)] mixed (fun _ _ _ _ h => h) (List.Sublist.cons_cons _ (List.Sublist.cons_cons _ (List.Sublist.cons_cons _ (List.Sublist.cons_cons _ (List.Sublist.cons_cons _ (List.Sublist.refl _)))))) (fun _ h => h) (by kernel_rfl) (by decide) fun ws Z0 => ?_
      refine WE_q rfl (q_move rfl) (by decide) ?_
      refine WE_q rfl (q_nil rfl) (by decide) ?_
      refine WE_q rfl (q_field (o' := 1) Tryd.underlying97 rfl ti95 rfl rfl) (by decide) ?_
      refine WE_q rfl (q_load1 Tryd.underlying95 rfl rfl (ownS (ownS (own0))) rfl) (by decide) ?_
      refine WE_q rfl (q_field (o' := 6) Tryd.underlying31 rfl ti25 rfl rfl) (by decide) ?_
      refine WE_q rfl (q_loadN (vs := [_, _]) Tryd.underlying25 rfl ti25 rfl (ownS (own0)) rfl rfl) (by decide) ?_
      refine WE_q rfl (q_lookS keyT hg Tryd.underlying95 ti99 rfl rfl (ownS (ownS (ownS (own0))))) (by decide) ?_
      refine WE_q rfl (q_assign rfl) (by decide) ?_
      refine WE_end (WF_nil ?_)
      refine thenN ?_
      refine WC_fr [(9, _), (0, _), (5, _), (6, _)] (.cons rfl (.cons rfl (.cons rfl (.cons rfl (.nil _))))) ?_
      refine WC_seq ?_
      refine WC_seq ?_
      refine WC_draw _ _ [] [(0, 0), (1, 0), (2, 0), (3, 0), (4, 0), (5, 0), (6, 0), (7, 0)] mixed (fun _ _ _ _ h => h) (List.Sublist.cons_cons _ (List.Sublist.cons_cons _ (List.Sublist.cons_cons _ (List.Sublist.cons_cons _ (List.Sublist.cons_cons _ (List.Sublist.refl _)))))) (fun _ h => h) (by kernel_rfl) (by decide) fun ws Z0 => ?_
      refine WE_q rfl (q_move rfl) (by decide) ?_
      refine WE_q rfl (q_nil rfl) (by decide) ?_
      refine WE_q rfl (q_field (o' := 2) Tryd.underlying101 rfl ti4 rfl rfl) (by decide) ?_
      refine WE_q rfl (q_load1 (v := .bool H.ents[k].off) Tryd.underlying4 rfl rfl (ownS (ownS (ownS (ownS (ownI (mkP_mem hj)))))) rfl) (by decide) ?_
      refine WE_q rfl (q_field (o' := 8) Tryd.underlying31 rfl ti4 rfl rfl) (by decide) ?_
      refine WE_q rfl (q_load1 Tryd.underlying4 rfl rfl (ownS (own0)) rfl) (by decide) ?_
      refine WE_q rfl (q_not rfl) (by decide) ?_
      refine WE_q rfl (q_beql' Tryd.underlying4 rfl rfl) (by decide) ?_
      refine WE_end (WF_nil ?_)
      refine thenN ?_
      refine WC_cond rfl (fun h48 => ?_) (fun h48 => ?_)
      · refine WC_seq ?_
        refine WC_region ?_
        refine WL_q (q_build (.nil) (bd31Xw15)) (by decide) ?_
        refine WL_main rfl (OW_storeN (cs' := [_, _, _, _, _, _, _, _, _]) (vs := [_, _, _, _, _, _, _, _, _]) ti31 rfl rfl rfl rfl rfl (Nat.le_of_ble_eq_true rfl) (.z) ?_)
        refine WL_nil ?_
        refine thenN ?_
        refine WC_ret ?_
        refine thenRet ?_
        refine ⟨_, [_, _, _], [_, _], fun Z w hs => RV_ownN hs Tryd.underlying31 rfl ti31 rfl own0 rfl (.nil), ?_, fun Z w hs => hs.out (List.Sublist.cons _ (List.Sublist.cons _ (List.Sublist.cons_cons _ (List.Sublist.cons_cons _ (List.Sublist.cons_cons _ (List.Sublist.refl _)))))) (memc (.tail _ (.tail _ (.tail _ (.head _)))) (memc (.tail _ (.tail _ (.tail _ (.tail _ (.tail _ (.head _)))))) (fun _ h => .tail _ (.tail _ (.tail _ (.tail _ h))))))⟩
        try simp only [decide_eq_true_eq, decide_eq_false_iff_not, beq_iff_eq, bne_iff_ne, beq_eq_false_iff_ne, ne_eq, Bool.and_eq_true, Bool.not_eq_true', Bool.not_eq_false', Bool.not_eq_true, Bool.not_eq_false, bne_eq_false_iff_eq, Bool.and_eq_false_iff] at *
        have hF : turnedF H i o = _ := turnedF_2 (hI.done (by have := hI.le; rw [List.length_drop] at this; omega)) hw hk (by simpa using h48)
        exact ⟨L, none, 0, by rw [hF]; exact hr, rfl, by rw [hF]; rfl, rfl, by rw [hF]; rfl⟩
      · refine WC_skip ?_
        refine thenN ?_
        refine WC_seq ?_
        refine WC_region ?_
        refine WL_q (q_move rfl) (by decide) ?_
        refine WL_q (q_field (o' := 8) Tryd.underlying31 rfl ti4 rfl rfl) (by decide) ?_
        refine WL_q (q_load1 Tryd.underlying4 rfl rfl (ownS (own0)) rfl) (by decide) ?_
        refine WL_q (q_not rfl) (by decide) ?_
        refine WL_q (q_nil rfl) (by decide) ?_
        refine WL_q (q_field (o' := 2) Tryd.underlying101 rfl ti4 rfl rfl) (by decide) ?_
        refine WL_main rfl (OW_storeP (i := j) ti4 rfl rfl rfl (mkP_get hj) (.s (.s (.z))) (.s (.s (.s (.s (.z))))) ?_)
        refine WL_nil ?_
        refine thenN ?_
        refine WC_fr [(9, _), (0, _), (5, _), (6, _)] (.cons rfl (.cons rfl (.cons rfl (.cons rfl (.nil _))))) ?_
        refine WC_seq ?_
        try simp only [decide_eq_true_eq, decide_eq_false_iff_not, beq_iff_eq, bne_iff_ne, beq_eq_false_iff_ne, ne_eq, Bool.and_eq_true, Bool.not_eq_true', Bool.not_eq_false', Bool.not_eq_true, Bool.not_eq_false, bne_eq_false_iff_eq, Bool.and_eq_false_iff] at *
        have hmk : (mkP L).set j (xb, cellsO [.int .i64 (markAt k H.ents[k]).num, .slice xA (markAt k H.ents[k]).now.length xc, .bool (!o.on)] 101) = mkP (L.set j ⟨markAt k (offE H.ents[k] (!o.on)), xb, xA, xc⟩) := by rw [mkP_set]; rfl
        rw [hmk]
        have hr' := hr.upd hk hj rfl (offE H.ents[k] (!o.on)) rfl (hr.now H.ents[k] (List.getElem_mem hk)) xA xc
        refine WC_fact (A := AllF (L.set j ⟨markAt k (offE H.ents[k] (!o.on)), xb, xA, xc⟩) nowF) (fun Z w hs => now_set (hs.facts _ (.tail _ (.tail _ (.tail _ (.tail _ (.tail _ (.head _))))))) (hs.facts _ (.tail _ (.tail _ (.tail _ (.tail _ (.tail _ (.head _)))))) ⟨markAt k H.ents[k], xb, xA, xc⟩ (List.mem_of_getElem? hj))) ?_
        refine WC_region ?_
        refine WL_q (q_move rfl) (by decide) ?_
        refine WL_q (q_move rfl) (by decide) ?_
        refine WL_q (q_field (o' := 8) Tryd.underlying31 rfl ti4 rfl rfl) (by decide) ?_
        refine WL_q (q_load1 Tryd.underlying4 rfl rfl (ownS (own0)) rfl) (by decide) ?_
        refine WL_main rfl (OW_call2 (turn_s h m cap A _ _ hr' H.ops H.total (hops_set hk (offE H.ents[k] (!o.on)) rfl H.total).symm j k xb xA xc (by simpa using hk) (by rw [List.getElem?_set_self (by rcases Nat.lt_or_ge j L.length with hh | hh; exact hh; rw [List.getElem?_eq_none hh] at hj; cases hj)]; simp) o.on) (.cons rfl (.cons rfl (.cons rfl (.nil)))) (by decide) (.s (.s (.z))) (.s (.s (.s (.z)))) (memc (.tail _ (.tail _ (.tail _ (.tail _ (.tail _ (.head _)))))) (memc (.head _) mem0)) fun u11_4 Lo fs hres => ?_)
        obtain ⟨A1, c1, rfl, rfl, rfl⟩ := hres
        refine WL_main rfl (OW_storeN (cs' := [_, _, _, _, _, _, _, _, _]) (vs := [_, _, _, _, _, _, _, _, _]) ti31 rfl rfl rfl rfl rfl (Nat.le_of_ble_eq_true rfl) (.s (.s (.z))) ?_)
        refine WL_nil ?_
        refine thenN ?_
        refine WC_ret ?_
        refine ⟨_, [_, _, _], [_, _], fun Z w hs => RV_ownN hs Tryd.underlying31 rfl ti31 rfl (ownS (ownS (own0))) rfl (.nil), ?_, fun Z w hs => (((hs.pick (.s (.z))).pick (.s (.s (.s (.s (.z)))))).pick (.s (.s (.z)))).out (List.Sublist.cons_cons _ (List.Sublist.cons_cons _ (List.Sublist.cons_cons _ (List.Sublist.cons _ (List.Sublist.cons _ (List.Sublist.refl _)))))) (memc (.head _) (memc (.tail _ (.head _)) (fun _ h => .tail _ (.tail _ (.tail _ (.tail _ (.tail _ (.tail _ h))))))))⟩
        have hF := turnedF_3 (hI.done (by have := hI.le; rw [List.length_drop] at this; omega)) hw hk (by simpa using h48)
        refine ⟨L.set j ⟨markAt k (offE H.ents[k] (!o.on)), xb, xA, xc⟩, A1, c1, by rw [hF]; exact hr', keys_set hj rfl rfl rfl, ?_, rfl, ?_⟩
        · rw [hF]; simp only [List.getElem_set_self]; rfl
        · rw [hF]; simp only [List.getElem_set_self]; rfl

end Go.Proofs.YtggdddkbhigjoaaDoor
