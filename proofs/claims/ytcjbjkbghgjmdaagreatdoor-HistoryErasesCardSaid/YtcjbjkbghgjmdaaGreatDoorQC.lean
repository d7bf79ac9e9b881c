/- The walks and laws that this claim's card rests on, part 3. -/
import Derived.Test.YtcjbjkbghgjmdaaGreatDoorQB
set_option linter.unusedVariables false
set_option linter.unusedSimpArgs false
open Go.Proofs.Tryz renaming underlying3 → Un3, underlying4 → Un4, underlying9 → Un9, underlying21 → Un21, underlying22 → Un22, underlying26 → Un26, underlying28 → Un28, underlying29 → Un29, underlying30 → Un30, underlying31 → Un31, underlying32 → Un32, underlying34 → Un34, underlying37 → Un37, underlying42 → Un42, underlying44 → Un44, underlying45 → Un45, underlying47 → Un47, underlying51 → Un51, underlying57 → Un57, underlying63 → Un63, underlying65 → Un65, underlying67 → Un67, underlying69 → Un69, underlying70 → Un70, underlying72 → Un72, underlying74 → Un74, underlying76 → Un76, underlying100 → Un100, underlying102 → Un102, underlying104 → Un104, underlying114 → Un114, underlying119 → Un119, underlying130 → Un130, underlying135 → Un135, underlying136 → Un136, underlying138 → Un138, underlying144 → Un144, underlying166 → Un166, underlying169 → Un169, underlying170 → Un170, underlying177 → Un177
/- Walks: rope, split. -/
namespace Go.Proofs.YtcjbjkbghgjmdaaGreatDoor
open Go Go.GW
theorem sp1 {a b : List Ce} {x : Int} (h0 : 0 ≤ x) (h : x ≤ a.length) : (a ++ b).take x.toNat = a.take x.toNat ∧ (a ++ b).drop x.toNat = a.drop x.toNat ++ b :=
 ⟨List.take_append_of_le_length (by omega), List.drop_append_of_le_length (by omega)⟩
theorem sp2 {a c b : List Ce} {x : Int} (h : (a.length : Int) + c.length ≤ x) : (a ++ (c ++ b)).take x.toNat = a ++ (c ++ b.take (x - a.length - c.length).toNat) ∧ (a ++ (c ++ b)).drop x.toNat = b.drop (x - a.length - c.length).toNat := by
 have e : x.toNat = a.length + (c.length + (x - a.length - c.length).toNat) := by omega
 rw [e, List.take_length_add_append, List.take_length_add_append, List.drop_length_add_append, List.drop_length_add_append]
 exact ⟨rfl, rfl⟩
theorem sp3 {a c b : List Ce} {x : Int} (h : (a.length : Int) ≤ x) (h2 : x ≤ a.length + c.length) : (a ++ (c ++ b)).take x.toNat = a ++ c.take (x - a.length).toNat ∧ (a ++ (c ++ b)).drop x.toNat = c.drop (x - a.length).toNat ++ b := by
 have e : x.toNat = a.length + (x - a.length).toNat := by omega
 rw [e, List.take_length_add_append, List.drop_length_add_append, List.take_append_of_le_length (by omega), List.drop_append_of_le_length (by omega)]
 exact ⟨rfl, rfl⟩
theorem cells_take (rs : List Int) (hid : Int) (k : Nat) : (cellsOf rs hid).take k = cellsOf (rs.take k) hid := by unfold cellsOf; rw [List.map_take]
theorem cells_drop (rs : List Int) (hid : Int) (k : Nat) : (cellsOf rs hid).drop k = cellsOf (rs.drop k) hid := by unfold cellsOf; rw [List.map_drop]
theorem take_ne {rs : List Int} {k : Nat} (h : 0 < k) (h2 : k ≤ rs.length) : rs.take k ≠ [] := fun e => by have := congrArg List.length e; rw [List.length_take, List.length_nil] at this; omega
theorem drop_ne {rs : List Int} {k : Nat} (h2 : k < rs.length) : rs.drop k ≠ [] := fun e => by have := congrArg List.length e; simp at this; omega
def NP2 (a b : List Ce) : Value → List Part → List Fact → Prop := fun v Lo fs => ∃ (A : Option Addr) (t : Tr) (B : Option Addr) (u : Tr), v = .tuple #[.pointer A, .pointer B] ∧ Lo = [] ∧ fs = [TrF A t, TrF B u] ∧ Wf t ∧ Wf u ∧ t.row = a ∧ u.row = b

set_option maxRecDepth 10000 in
theorem split_0 (x : Int) : Sp Tryz.prog 48 [.pointer none, .int .i64 x] [] [TrF none .nil] (NP2 [] []) := by
 refine Sp.of (n := 89) ⟨_, Tryz.func48, rfl, rfl, rfl, rfl⟩ (Nat.le_of_ble_eq_true rfl) fun Ps As => WC_seq (WC_region (Lq (q_assign rfl) (Lq (q_assign rfl) (WL_nil (thenN (WC_seq (WC_seq (WC_region (Lq (q_move rfl) (Lq (q_peql Un70 rfl rfl (by simp)) (WL_nil (thenN (WC_true rfl rfl (WC_seq (WC_region (Lq (q_assign rfl) (Lq (q_assign rfl) ?_)))))))))))))))))
 refine WL_nil (thenN (WC_ret (thenRet ?_)))
 refine ⟨_, [], [_, _], fun Z w hs => .tmp rfl (.tmp rfl (.nil)), ?_, fun Z w hs => hs.out (Sr) (memc M0 (memc M0 (fun _ h => h)))⟩
 exact ⟨_, _, _, _, rfl, rfl, rfl, wnilT, wnilT, rfl, rfl⟩

theorem fd112_0Xw26 (x0 : Int) (x1 : Int) (x2 : Int) (x3 : Int) (x4 : Int) (x5 : Int) (w : World) : (Instr.field 69 (.agg #[.int .i64 x0, .int .i64 x1, .int .i64 x2, .int .i64 x3, .int .i64 x4, .int .i64 x5]) 0).run Tryz.prog w = .ok (.int .i64 x0) w := by kernel_rfl

set_option maxRecDepth 10000 in
theorem split_n (N : Nat) : ∀ (A : Option Addr) (t : Tr) (x : Int) (wt : Wf t) (hb : t.row.length ≤ 1073741824) (hx : 0 ≤ x) (hx2 : x ≤ 1073741824), t.size ≤ N → Sp Tryz.prog 48 [.pointer A, .int .i64 x] [] [TrF A t] (NP2 (t.row.take x.toNat) (t.row.drop x.toNat)) := by
 induction N using Nat.strongRecOn
 rename_i N ih
 intro A t x wt hb hx hx2 hN
 by_cases nt : t = .nil
 ·subst nt
  refine ⟨(split_0 x).enters, fun Z w Ps As hs => ?_⟩
  obtain rfl : A = none := hs.facts _ (by simp : TrF A .nil ∈ [TrF A .nil] ++ As)
  simpa [Tr.row] using (split_0 x).calls Z w Ps As hs
 refine Sp.of (n := 89) ⟨_, Tryz.func48, rfl, rfl, rfl, rfl⟩ (Nat.le_of_ble_eq_true rfl) fun Ps As => WC_some M0 nt fun _ e => ?_
 subst e
 refine WC_seq (WC_region (Lq (q_assign rfl) (Lq (q_assign rfl) (WL_nil (thenN (WC_seq (WC_seq (WC_region (Lq (q_move rfl) (Lq (q_peql Un70 rfl rfl (by simp)) (WL_nil (thenN (WC_false rfl rfl (WC_skip (thenN (WC_seq (WC_region (Lq (q_move rfl) (WL_main rfl (OW_call0 (open_r _ t wt nt (by omega)) (.cons rfl (.nil)) (by decide) (memc M0 mem0) fun u3_1 Lo fs hres => ?_))))))))))))))))))))
 obtain ⟨B1, l1, s1, k1, C1, d1, D1, m1, rfl, rfl, rfl, wl1, wm1, n1, h1, r1, zl1, zm1⟩ := hres
 have e1 := congrArg List.length r1
 simp only [List.length_append, cellsOf_length, Tr.row, List.length_nil, List.length_take, List.length_drop] at e1
 refine Lq (q_move rfl) (Lq (q_extract (vs := [_, _, _]) rfl rfl) (Lq (q_extract (vs := [_, _, _]) rfl rfl) (Lq (q_extract (vs := [_, _, _]) rfl rfl) (WL_main rfl (OW_alloc (cs := [_, _]) ti102 rfl (by decide) fun b7 => Lq (q_assign rfl) (WL_main rfl (OW_storeN (cs' := [_, _]) (vs := [_, _]) ti102 rfl rfl rfl rfl rfl (Nat.le_of_ble_eq_true rfl) (.z) (Lq (q_assign rfl) (WL_nil (thenN (WC_fr [(8, _), (6, _), (7, _), (5, _), (4, _), (1, _)] (.cons rfl (.cons rfl (.cons rfl (.cons rfl (.cons rfl (.cons rfl (.nil _))))))) ?_)))))))))))
 refine WC_seq (WC_region (Lq (q_move rfl) (WL_main rfl (OW_call0 (all_s B1 l1) (.cons rfl (.nil)) (by decide) (memc M0 mem0) fun u4_1 Lo fs hres => ?_))))
 obtain ⟨rfl, rfl, rfl⟩ := hres
 refine Lq (q_part rfl (fd112_0Xw26 _ _ _ _ _ _)) (Lq (q_assign rfl) (WL_nil (thenN (WC_seq (WC_block (WC_seq ?_))))))
 have hkk := wl1.tot
 refine WC_region (Lq (q_move rfl) (Lq (q_move rfl) (Lq (q_leq rfl rfl) (Lq (q_assign rfl) (WL_nil (thenN (WC_fr [(27, _), (9, _), (8, _), (6, _), (7, _), (5, _), (4, _), (1, _)] (.cons rfl (.cons rfl (.cons rfl (.cons rfl (.cons rfl (.cons rfl (.cons rfl (.cons rfl (.nil _))))))))) (WC_cond rfl (fun h27 => ?_) (fun h27 => ?_)))))))))
 ·refine WC_seq ?_
  simp only [decide_eq_true_eq] at h27
  refine WC_region (Lq (q_move rfl) (Lq (q_move rfl) (WL_main rfl (OW_call0 (ih l1.size (by omega) B1 l1 x wl1 (by omega) (by omega) (by omega) (Nat.le_refl _)) (.cons rfl (.cons rfl (.nil))) (by decide) (memc M0 mem0) fun u6_2 Lo fs hres => ?_))))
  obtain ⟨A2, t2, E2, q2, rfl, rfl, rfl, wt2, wq2, r2, rq2⟩ := hres
  have e2 := congrArg List.length r2
  simp only [List.length_append, cellsOf_length, Tr.row, List.length_nil, List.length_take, List.length_drop] at e2
  have eq2 := congrArg List.length rq2
  simp only [List.length_append, cellsOf_length, Tr.row, List.length_nil, List.length_take, List.length_drop] at eq2
  refine Lq (q_move rfl) (Lq (q_extract (vs := [_, _]) rfl rfl) (Lq (q_extract (vs := [_, _]) rfl rfl) (Lq (q_assign rfl) (Lq (q_assign rfl) (WL_nil (thenN (WC_fr [(11, _), (10, _), (9, _), (8, _), (6, _), (7, _), (5, _), (4, _), (1, _)] (.cons rfl (.cons rfl (.cons rfl (.cons rfl (.cons rfl (.cons rfl (.cons rfl (.cons rfl (.cons rfl (.nil _)))))))))) (WC_seq (WC_region (Lq (q_move rfl) (Lq (q_move rfl) ?_)))))))))))
  refine Lq (q_loadN (vs := [_, _]) Un102 rfl ti102 rfl own0 rfl rfl) (Lq (q_move rfl) (WL_main rfl (OW_call0 (join_r E2 D1 C1 d1 q2 m1 s1 k1 wq2 wm1 n1 h1 (by omega)) (.cons rfl (.cons rfl (.cons rfl (.nil)))) (by decide) (memc M1 (memc M4 (memc M3 mem0))) fun u7_4 Lo fs hres => ?_)))
  obtain ⟨T3, t3, rfl, rfl, rfl, wt3, r3⟩ := hres
  have e3 := congrArg List.length r3
  simp only [List.length_append, cellsOf_length, Tr.row, List.length_nil, List.length_take, List.length_drop] at e3
  refine Lq (q_assign rfl) (Lq (q_assign rfl) (WL_nil (thenN (WC_fr [(5, _), (4, _), (9, _), (8, _), (6, _), (7, _), (1, _)] (.cons rfl (.cons rfl (.cons rfl (.cons rfl (.cons rfl (.cons rfl (.cons rfl (.nil _)))))))) (WC_ret (blockRet (thenRet ?_)))))))
  refine ⟨_, [], [_, _], fun Z w hs => .tmp rfl (.tmp rfl (.nil)), ?_, fun Z w hs => hs.out (Sd (Sr)) (memc M1 (memc M0 T6))⟩
  obtain ⟨g1, g2⟩ := sp1 (a := l1.row) (b := cellsOf s1 k1 ++ m1.row) (x := x) hx (by omega)
  refine ⟨_, _, _, _, rfl, rfl, rfl, wt2, wt3, ?_, ?_⟩
  ·rw [r1, g1]; simp only [r2, r3, rq2, cells_take, cells_drop, cellsOf_length, List.append_assoc, Tr.row, List.append_nil, List.nil_append, hkk]
  ·rw [r1, g2]; simp only [r2, r3, rq2, cells_take, cells_drop, cellsOf_length, List.append_assoc, Tr.row, List.append_nil, List.nil_append, hkk]
 ·refine WC_seq (WC_region (Lq (q_move rfl) (Lq (q_move rfl) (Lq (q_field (o' := 0) Un102 rfl ti100 rfl rfl) (Lq (q_load1 Un100 rfl rfl own0 rfl) (Lq (q_len Un100 rfl) (Lq (q_add rfl rfl (wr64 (by omega))) (Lq (q_geq rfl rfl) (Lq (q_assign rfl) (WL_nil (thenN ?_)))))))))))
  refine WC_fr [(42, _), (9, _), (8, _), (6, _), (7, _), (5, _), (4, _), (1, _)] (.cons rfl (.cons rfl (.cons rfl (.cons rfl (.cons rfl (.cons rfl (.cons rfl (.cons rfl (.nil _))))))))) (WC_cond rfl (fun h42 => ?_) (fun h42 => ?_))
  ·refine WC_seq ?_
   simp only [decide_eq_true_eq] at h42
   refine WC_region (Lq (q_move rfl) (Lq (q_move rfl) (Lq (q_move rfl) (Lq (q_sub rfl rfl (wr64 (by omega))) (Lq (q_field (o' := 0) Un102 rfl ti100 rfl rfl) (Lq (q_load1 Un100 rfl rfl own0 rfl) (Lq (q_len Un100 rfl) (Lq (q_sub rfl rfl (wr64 (by omega))) (WL_main rfl (OW_call0 (ih m1.size (by omega) D1 m1 (x - (allF l1).tot - s1.length) wm1 (by omega) (by omega) (by omega) (Nat.le_refl _)) (.cons rfl (.cons rfl (.nil))) (by decide) (memc M2 mem0) fun u9_8 Lo fs hres => ?_))))))))))
   obtain ⟨A4, t4, E4, q4, rfl, rfl, rfl, wt4, wq4, r4, rq4⟩ := hres
   have e4 := congrArg List.length r4
   simp only [List.length_append, cellsOf_length, Tr.row, List.length_nil, List.length_take, List.length_drop] at e4
   have eq4 := congrArg List.length rq4
   simp only [List.length_append, cellsOf_length, Tr.row, List.length_nil, List.length_take, List.length_drop] at eq4
   refine Lq (q_move rfl) (Lq (q_extract (vs := [_, _]) rfl rfl) (Lq (q_extract (vs := [_, _]) rfl rfl) (Lq (q_assign rfl) (Lq (q_assign rfl) (WL_nil (thenN (WC_fr [(13, _), (12, _), (9, _), (8, _), (6, _), (7, _), (5, _), (4, _), (1, _)] (.cons rfl (.cons rfl (.cons rfl (.cons rfl (.cons rfl (.cons rfl (.cons rfl (.cons rfl (.cons rfl (.nil _)))))))))) (WC_seq (WC_region (Lq (q_move rfl) (Lq (q_loadN (vs := [_, _]) Un102 rfl ti102 rfl own0 rfl rfl) ?_)))))))))))
   refine Lq (q_move rfl) (WL_main rfl (OW_call0 (join_r B1 A4 C1 d1 l1 t4 s1 k1 wl1 wt4 n1 h1 (by omega)) (.cons rfl (.cons rfl (.cons rfl (.nil)))) (by decide) (memc M2 (memc M0 (memc M3 mem0))) fun u10_3 Lo fs hres => ?_))
   obtain ⟨T5, t5, rfl, rfl, rfl, wt5, r5⟩ := hres
   have e5 := congrArg List.length r5
   simp only [List.length_append, cellsOf_length, Tr.row, List.length_nil, List.length_take, List.length_drop] at e5
   refine Lq (q_move rfl) (Lq (q_assign rfl) (Lq (q_assign rfl) (WL_nil (thenN (WC_fr [(5, _), (4, _), (9, _), (8, _), (6, _), (7, _), (1, _)] (.cons rfl (.cons rfl (.cons rfl (.cons rfl (.cons rfl (.cons rfl (.cons rfl (.nil _)))))))) (WC_ret (blockRet (thenRet ?_))))))))
   refine ⟨_, [], [_, _], fun Z w hs => .tmp rfl (.tmp rfl (.nil)), ?_, fun Z w hs => hs.out (Sd (Sr)) (memc M0 (memc M2 T6))⟩
   obtain ⟨g1, g2⟩ := sp2 (a := l1.row) (c := cellsOf s1 k1) (b := m1.row) (x := x) (by rw [cellsOf_length]; omega)
   refine ⟨_, _, _, _, rfl, rfl, rfl, wt5, wq4, ?_, ?_⟩
   ·rw [r1, g1]; simp only [r4, r5, rq4, cells_take, cells_drop, cellsOf_length, List.append_assoc, Tr.row, List.append_nil, List.nil_append, hkk]
   ·rw [r1, g2]; simp only [r4, r5, rq4, cells_take, cells_drop, cellsOf_length, List.append_assoc, Tr.row, List.append_nil, List.nil_append, hkk]
  ·refine WC_skip (blockN (thenN (WC_seq (WC_draw _ _ [5] (.c 0 0 (.c 1 0 (.c 2 4 (.c 3 4 (.c 4 2 (.c 5 3 .nil)))))) mixed (fun _ _ _ _ h => h) (Sk (Sr)) (fun _ h => h) (by kernel_rfl) (by decide) fun ws Z0 => Qe rfl (q_loadN (vs := [_, _]) Un102 rfl ti102 rfl own0 rfl rfl) (Qe rfl (q_loadN (vs := [_, _]) Un102 rfl ti102 rfl own0 rfl rfl) (WE_alloc2 rfl rfl (cs1 := [_, _]) (cs2 := [_, _]) ti102 rfl ti102 rfl (by decide) (by decide) (by decide) (Sk (Sr)) M0 fun b14 b15 => WE_main rfl rfl (OW_storeN (cs' := [_, _]) (vs := [_, _]) ti102 rfl rfl rfl rfl rfl (Nat.le_of_ble_eq_true rfl) (.s (.z)) ?_)))))))
   refine ⟨⟨(Sd (Sd (Sk (Sr)))), M0⟩, ?_⟩
   refine WE_end (WF_last rfl rfl (OW_storeN (cs' := [_, _]) (vs := [_, _]) ti102 rfl rfl rfl rfl rfl (Nat.le_of_ble_eq_true rfl) (.z) (WF_nil (thenN (WC_seq ?_)))))
   simp only [decide_eq_false_iff_not] at h27 h42
   obtain ⟨k0, hk0⟩ : ∃ k : Nat, k = (x - l1.row.length).toNat := ⟨_, rfl⟩
   have hk1 : 0 < k0 := by omega
   have hk2 : k0 < s1.length := by omega
   have ht1 : (s1.take k0).length = k0 := by rw [List.length_take]; omega
   have hd1 : (s1.drop k0).length = s1.length - k0 := by rw [List.length_drop]
   refine WC_cap M2 fun hcap => WC_cutHi k0 M2 (by omega) (WC_cutLo k0 M3 (by omega) (WC_fact (A := TrF none .nil) (fun _ _ _ => rfl) (WC_draw _ _ [15] (.c 0 0 (.c 1 0 (.c 2 0 (.c 3 0 (.c 4 0 (.c 5 0 (.c 6 0 (.c 7 0 (.c 8 0 (.c 9 0 (.c 10 0 (.c 11 0 (.c 12 0 (.c 13 2 (.c 14 0 (.c 15 3 .nil)))))))))))))))) mixed (fun _ _ _ _ h => h) (Sk (Sd (Sk (Sr)))) (fun _ h => h) (by kernel_rfl) (by decide) fun ws Z0 => Qe rfl (q_field (o' := 0) Un102 rfl ti100 rfl rfl) (Qe rfl (q_load1 Un100 rfl rfl (ownS (own0)) rfl) (Qe rfl (q_move rfl) (Qe rfl (q_move rfl) (Qe rfl (q_sub rfl rfl (wr64 (by omega))) ?_)))))))
   refine Qe rfl (q_cutHiE (m := (s1.take k0).length) (by omega) Un100 ti21 rfl rfl (by omega) (by omega)) (Qe rfl (q_field (o' := 0) Un102 rfl ti100 rfl rfl) (Qe rfl (q_load1 Un100 rfl rfl (ownS (own0)) rfl) (Qe rfl (q_move rfl) (Qe rfl (q_move rfl) (Qe rfl (q_sub rfl rfl (wr64 (by omega))) (Qe rfl (q_cutLoE (j := k0) (m := (s1.drop k0).length) (by omega) (by omega) Un100 ti21 rfl rfl (by omega) (by omega)) (Qe rfl (q_field (o' := 0) Un102 rfl ti100 rfl rfl) (WE_main rfl rfl (OW_store1 ti100 rfl rfl rfl (.z) (.s (.z)) ?_)))))))))
   refine ⟨⟨(Sk (Sd (Sk (Sr)))), M0⟩, ?_⟩
   refine Qe rfl (q_field (o' := 0) Un102 rfl ti100 rfl rfl) (WE_end (WF_last rfl rfl (OW_store1 ti100 rfl rfl rfl (.z) (.z) (WF_nil (thenN (WC_fr [(15, _), (14, _), (8, _), (6, _), (5, _), (4, _)] (.cons rfl (.cons rfl (.cons rfl (.cons rfl (.cons rfl (.cons rfl (.nil _))))))) (WC_seq (WC_draw _ _ [] (.c 0 0 (.c 1 0 (.c 3 0 (.c 4 0 (.c 2 2 (.c 5 2 (.c 6 0 (.c 7 0 .nil)))))))) mixed (fun _ _ _ _ h => h) (Sk (Sk (Sk (Sr)))) (fun _ h => h) (by kernel_rfl) (by decide) fun ws Z0 => Qe rfl (q_move rfl) (Qe rfl (q_loadN (vs := [_, _]) Un102 rfl ti102 rfl (ownS (own0)) rfl rfl) (Qe rfl (q_loadN (vs := [_, _]) Un102 rfl ti102 rfl own0 rfl rfl) ?_))))))))))
   refine Qe rfl (q_move rfl) (WE_main rfl rfl (OW_call0 (join_r B1 none (cutA C1 0 d1 1) d1 l1 Tr.nil (s1.take k0) k1 wl1 wnilT (take_ne hk1 (by omega)) h1 (by simp only [Tr.row, List.length_nil]; omega)) (.cons rfl (.cons rfl (.cons rfl (.nil)))) (by decide) (memc M6 (memc M2 (memc M4 mem0))) fun u13_2 Lo fs hres => ?_))
   obtain ⟨T6, t6, rfl, rfl, rfl, wt6, r6⟩ := hres
   have e6 := congrArg List.length r6
   simp only [List.length_append, cellsOf_length, Tr.row, List.length_nil, List.length_take, List.length_drop] at e6
   refine ⟨⟨(Sk (Sk (Sk (Sr)))), M1⟩, ?_⟩
   refine WE_main rfl rfl (OW_call0 (join_r none D1 (cutA C1 k0 d1 1) (d1 - k0) Tr.nil m1 (s1.drop k0) k1 wnilT wm1 (drop_ne hk2) h1 (by simp only [Tr.row, List.length_nil]; omega)) (.cons rfl (.cons rfl (.cons rfl (.nil)))) (by decide) (memc M3 (memc M9 (memc M4 mem0))) fun u13_5 Lo fs hres => ?_)
   obtain ⟨T7, t7, rfl, rfl, rfl, wt7, r7⟩ := hres
   have e7 := congrArg List.length r7
   simp only [List.length_append, cellsOf_length, Tr.row, List.length_nil, List.length_take, List.length_drop] at e7
   refine ⟨⟨(Sk (Sk (Sk (Sr)))), M2⟩, ?_⟩
   refine Qe rfl (q_assign rfl) (Qe rfl (q_assign rfl) (WE_end (WF_nil (thenN (WC_ret ?_)))))
   refine ⟨_, [], [_, _], fun Z w hs => .tmp rfl (.tmp rfl (.nil)), ?_, fun Z w hs => hs.out (Sd (Sd (Sd (Sr)))) (memc M1 (memc M0 T11))⟩
   obtain ⟨g1, g2⟩ := sp3 (a := l1.row) (c := cellsOf s1 k1) (b := m1.row) (x := x) (by omega) (by rw [cellsOf_length]; omega)
   refine ⟨_, _, _, _, rfl, rfl, rfl, wt6, wt7, ?_, ?_⟩
   ·rw [r1, g1]; simp only [r6, r7, ← hk0, cells_take, cells_drop, cellsOf_length, List.append_assoc, Tr.row, List.append_nil, List.nil_append, hkk]
   ·rw [r1, g2]; simp only [r6, r7, ← hk0, cells_take, cells_drop, cellsOf_length, List.append_assoc, Tr.row, List.append_nil, List.nil_append, hkk]

theorem split_r (A : Option Addr) (t : Tr) (x : Int) (wt : Wf t) (hb : t.row.length ≤ 1073741824) (hx : 0 ≤ x) (hx2 : x ≤ 1073741824) : Sp Tryz.prog 48 [.pointer A, .int .i64 x] [] [TrF A t] (NP2 (t.row.take x.toNat) (t.row.drop x.toNat)) := split_n _ A t x wt hb hx hx2 (Nat.le_refl _)
end Go.Proofs.YtcjbjkbghgjmdaaGreatDoor
/- Normal lists of ranges, as_ sets of places; what Through makes of them. -/
namespace Go.Proofs.YtcjbjkbghgjmdaaGreatDoor
open Go Go.GW
def memR (q : Int) (xs : List Rg) : Prop := ∃ r ∈ xs, r.lo ≤ q ∧ q < r.hi
def NormB : Int → List Rg → Prop
 | _, [] => True
 | b, r :: rs => b ≤ r.lo ∧ r.lo < r.hi ∧ NormB (r.hi + 1) rs
def BelowR (T : Int) (xs : List Rg) : Prop := ∀ r ∈ xs, r.hi ≤ T
def endB : Int → List Rg → Int
 | b, [] => b
 | _, r :: rs => endB (r.hi + 1) rs
theorem memR_nil (q : Int) : ¬ memR q [] := fun ⟨r, h, _⟩ => by cases h
theorem memR_cons {q : Int} {r : Rg} {xs : List Rg} : memR q (r :: xs) ↔ (r.lo ≤ q ∧ q < r.hi) ∨ memR q xs := by
 unfold memR; simp only [List.mem_cons]
 constructor
 ·rintro ⟨x, rfl | h, h2⟩
  ·exact .inl h2
  ·exact .inr ⟨x, h, h2⟩
 ·rintro (h | ⟨x, h, h2⟩)
  ·exact ⟨r, .inl rfl, h⟩
  ·exact ⟨x, .inr h, h2⟩
theorem memR_append {q : Int} {xs ys : List Rg} : memR q (xs ++ ys) ↔ memR q xs ∨ memR q ys := by
 unfold memR; simp only [List.mem_append]
 constructor
 ·rintro ⟨x, h | h, h2⟩
  ·exact .inl ⟨x, h, h2⟩
  ·exact .inr ⟨x, h, h2⟩
 ·rintro (⟨x, h, h2⟩ | ⟨x, h, h2⟩)
  ·exact ⟨x, .inl h, h2⟩
  ·exact ⟨x, .inr h, h2⟩
theorem memR_one {q : Int} {r : Rg} : memR q [r] ↔ (r.lo ≤ q ∧ q < r.hi) := by
 rw [memR_cons]; exact ⟨fun h => h.elim id (fun h => absurd h (memR_nil q)), .inl⟩
theorem BelowR.append {T : Int} {xs ys : List Rg} : BelowR T (xs ++ ys) ↔ BelowR T xs ∧ BelowR T ys := by
 unfold BelowR; simp only [List.mem_append]
 exact ⟨fun h => ⟨fun r hr => h r (.inl hr), fun r hr => h r (.inr hr)⟩, fun h r hr => hr.elim (h.1 r) (h.2 r)⟩
theorem BelowR.mono {T T' : Int} {xs : List Rg} (h : BelowR T xs) (ht : T ≤ T') : BelowR T' xs := fun r hr => by have := h r hr; omega
theorem normB_append : ∀ {b : Int} {xs ys : List Rg}, NormB b (xs ++ ys) ↔ NormB b xs ∧ NormB (endB b xs) ys
 | b, [], ys => by simp [NormB, endB]
 | b, r :: xs, ys => by
  simp only [List.cons_append, NormB, endB, normB_append (xs := xs), and_assoc]
theorem endB_append : ∀ {b : Int} {xs ys : List Rg}, endB b (xs ++ ys) = endB (endB b xs) ys
 | b, [], ys => rfl
 | b, r :: xs, ys => by simp only [List.cons_append, endB]; exact endB_append
theorem NormB.mono {b b' : Int} {xs : List Rg} (h : NormB b xs) (hb : b' ≤ b) : NormB b' xs := by
 cases xs with
 | nil => trivial
 | cons r xs => exact ⟨by have := h.1; omega, h.2⟩
theorem NormB.mem : ∀ {b : Int} {xs : List Rg}, NormB b xs → ∀ r ∈ xs, b ≤ r.lo ∧ r.lo < r.hi
 | b, [], _, r, h => by cases h
 | b, x :: xs, h, r, hr => by
  rcases List.mem_cons.1 hr with rfl | hr
  ·exact ⟨h.1, h.2.1⟩
  ·have := NormB.mem h.2.2 r hr
   have := h.1; have := h.2.1
   omega
theorem NormB.below {b : Int} {xs : List Rg} (h : NormB b xs) {q : Int} (hq : memR q xs) : b ≤ q := by
 obtain ⟨r, hr, h2⟩ := hq
 have := h.mem r hr
 omega
theorem NormB.len : ∀ {b T : Int} {xs : List Rg}, NormB b xs → BelowR T xs → xs ≠ [] → b + 2 * (xs.length : Int) ≤ T + 1
 | b, T, [], _, _, h => absurd rfl h
 | b, T, [r], h, ht, _ => by
  have := ht r List.mem_cons_self
  have h1 := h.1
  have h2 := h.2.1
  simp; omega
 | b, T, r :: s :: xs, h, ht, _ => by
  have := NormB.len h.2.2 (fun x hx => ht x (List.mem_cons_of_mem _ hx)) (by simp)
  have h1 := h.1
  have h2 := h.2.1
  simp only [List.length_cons, Int.natCast_add, Int.natCast_one] at this ⊢
  omega
/-- Check says this. -/
theorem ckAt_norm : ∀ (rs : List Rg) (i : Int) (p : Option Rg) (b : Int), (∀ q, p = some q → b = q.hi + 1 ∧ 0 ≤ q.hi) → (p = none → b = 0) → ((ckAt i p rs).2 = 0 ↔ NormB b rs ∧ BelowR 1048576 rs)
 | [], i, p, b, _, _ => by simp [ckAt, NormB, BelowR]
 | r :: rs, i, p, b, h1, h2 => by
  by_cases hb : r.lo < 0 ∨ r.hi > 1048576 ∨ r.lo ≥ r.hi
  ·rw [ckAt_bad hb]
   constructor
   ·intro h; cases h
   ·rintro ⟨g1, g2⟩
    have := g2 r List.mem_cons_self
    have g3 := g1.1
    have g4 := g1.2.1
    rcases p with _ | q
    ·have := h2 rfl; omega
    ·have := h1 q rfl; omega
  ·have ih := ckAt_norm rs (i + 1) (some r) (r.hi + 1) (fun q e => by cases e; exact ⟨rfl, by omega⟩) (fun e => by cases e)
   have hbel : BelowR 1048576 (r :: rs) ↔ BelowR 1048576 rs := ⟨fun h x hx => h x (List.mem_cons_of_mem _ hx), fun h x hx => by
    rcases List.mem_cons.1 hx with rfl | hx
    ·omega
    ·exact h x hx⟩
   rw [hbel]
   simp only [NormB]
   rcases p with _ | q
   ·have := h2 rfl
    rw [ckAt_first hb, ih]
    constructor
    ·rintro ⟨g1, g2⟩; exact ⟨⟨by omega, by omega, g1⟩, g2⟩
    ·rintro ⟨⟨_, _, g1⟩, g2⟩; exact ⟨g1, g2⟩
   ·have := h1 q rfl
    by_cases ho : r.lo ≤ q.hi
    ·rw [ckAt_ord hb ho]
     constructor
     ·intro h; cases h
     ·rintro ⟨⟨g1, _⟩, _⟩; omega
    ·rw [ckAt_next hb ho, ih]
     constructor
     ·rintro ⟨g1, g2⟩; exact ⟨⟨by omega, by omega, g1⟩, g2⟩
     ·rintro ⟨⟨_, _, g1⟩, g2⟩; exact ⟨g1, g2⟩
theorem ckF_norm {xs : List Rg} : (ckF xs).2 = 0 ↔ xs.length ≤ 32768 ∧ NormB 0 xs ∧ BelowR 1048576 xs := by
 unfold ckF
 split
 ·constructor
  ·intro h; cases h
  ·intro h; omega
 ·rw [ckAt_norm xs 0 none 0 (fun q e => by cases e) (fun _ => rfl)]
  exact ⟨fun h => ⟨by omega, h⟩, fun h => h.2⟩
/-- The last range begins no later. -/
def LastLe (xs : List Rg) (m : Int) : Prop := ∀ r, xs.getLast? = some r → r.lo ≤ m
theorem addF_ok {b lo hi : Int} {xs : List Rg} (h : NormB b xs) (hb : b ≤ lo) (hl : lo < hi → LastLe xs lo) :
  NormB b (addF xs lo hi) ∧ (∀ q, memR q (addF xs lo hi) ↔ memR q xs ∨ (lo ≤ q ∧ q < hi)) ∧ (∀ T, BelowR T xs → (lo < hi → hi ≤ T) → BelowR T (addF xs lo hi)) ∧ (∀ m, LastLe xs m → (lo < hi → lo ≤ m) → LastLe (addF xs lo hi) m) ∧ (lo < hi → LastLe (addF xs lo hi) lo) := by
 by_cases hlh : hi ≤ lo
 ·rw [addF_skip hlh]
  exact ⟨h, fun q => ⟨.inl, fun h => h.elim id (fun h => by omega)⟩, fun T h _ => h, fun m h _ => h, fun h => by omega⟩
 ·have hlt : lo < hi := by omega
  rcases List.eq_nil_or_concat xs with rfl | ⟨ys, r, rfl⟩
  ·rw [addF_nil hlh]
   refine ⟨⟨hb, hlt, trivial⟩, fun q => ?_, fun T _ ht x hx => ?_, fun m _ hm x hx => ?_, fun _ x hx => ?_⟩
   ·rw [memR_one]; exact ⟨.inr, fun h => h.elim (fun h => absurd h (memR_nil q)) id⟩
   ·simp only [List.mem_singleton] at hx; subst hx; exact ht hlt
   ·simp at hx; subst hx; exact hm hlt
   ·simp at hx; subst hx; exact Int.le_refl _
  ·rw [List.concat_eq_append] at *
   have hrlo : r.lo ≤ lo := hl hlt r (by simp)
   obtain ⟨g1, g2⟩ := normB_append.1 h
   by_cases hj : lo ≤ r.hi
   ·rw [addF_join hlh hj]
    refine ⟨normB_append.2 ⟨g1, g2.1, by have := g2.2.1; show r.lo < max r.hi hi; omega, trivial⟩, fun q => ?_, fun T hT ht => ?_, fun m hm _ x hx => ?_, fun _ x hx => ?_⟩
    ·rw [memR_append, memR_append, memR_one, memR_one]
     have := g2.2.1
     simp only
     constructor
     ·rintro (h | h)
      ·exact .inl (.inl h)
      ·by_cases hq : q < r.hi
       ·exact .inl (.inr ⟨h.1, hq⟩)
       ·exact .inr (by omega)
     ·rintro ((h | h) | h)
      ·exact .inl h
      ·exact .inr (by omega)
      ·exact .inr (by omega)
    ·obtain ⟨k1, k2⟩ := BelowR.append.1 hT
     refine BelowR.append.2 ⟨k1, fun x hx => ?_⟩
     simp only [List.mem_singleton] at hx
     subst hx
     have := k2 r List.mem_cons_self
     have := ht hlt
     show max r.hi hi ≤ T
     omega
    ·simp at hx; subst hx; exact hm r (by simp)
    ·simp at hx; subst hx; exact hrlo
   ·rw [addF_more hlh hj]
    refine ⟨normB_append.2 ⟨h, ?_, hlt, trivial⟩, fun q => ?_, fun T hT ht => ?_, fun m hm hm2 x hx => ?_, fun _ x hx => ?_⟩
    ·rw [endB_append]; show r.hi + 1 ≤ lo; omega
    ·rw [memR_append, memR_one]
    ·refine BelowR.append.2 ⟨hT, fun x hx => ?_⟩
     simp only [List.mem_singleton] at hx
     subst hx; exact ht hlt
    ·simp at hx; subst hx; exact hm2 hlt
    ·simp at hx; subst hx; exact Int.le_refl _
theorem thrL_ok {at_ n T : Int} (hn : 0 ≤ n) (ha : 0 ≤ at_) : ∀ (xs acc : List Rg) (b : Int), 0 ≤ b → NormB b xs → NormB 0 acc → BelowR T xs → BelowR (T + n) acc →
  (∀ l, acc.getLast? = some l → (l.lo ≤ b ∨ at_ ≤ b) ∧ l.lo ≤ b + n) →
  NormB 0 (thrL at_ n acc xs) ∧ BelowR (T + n) (thrL at_ n acc xs) ∧ ∀ q, memR q (thrL at_ n acc xs) ↔ memR q acc ∨ (q < at_ ∧ memR q xs) ∨ (at_ + n ≤ q ∧ memR (q - n) xs)
 | [], acc, b, _, _, hacc, _, hT, _ => ⟨hacc, hT, fun q => by
   simp only [thrL]
   exact ⟨.inl, fun h => h.elim id (fun h => h.elim (fun h => absurd h.2 (memR_nil _)) (fun h => absurd h.2 (memR_nil _)))⟩⟩
 | r :: xs, acc, b, hb, hx, hacc, hTx, hT, hl => by
  obtain ⟨h1, h2, h3⟩ := hx
  have hTr := hTx r List.mem_cons_self
  obtain ⟨a1, a2, a3, a4, a5⟩ := addF_ok (lo := r.lo) (hi := min r.hi at_) hacc (by omega) (fun h l hll => by have := hl l hll; omega)
  have a6 := a3 (T + n) hT (fun h => by omega)
  have a7 : LastLe (addF acc r.lo (min r.hi at_)) (max r.lo at_ + n) := a4 _ (fun l hll => by have := hl l hll; omega) (fun h => by omega)
  obtain ⟨b1, b2, b3, b4, b5⟩ := addF_ok (lo := max r.lo at_ + n) (hi := r.hi + n) a1 (by omega) (fun h => a7)
  have b6 := b3 (T + n) a6 (fun h => by omega)
  have hlast : ∀ l, (addF (addF acc r.lo (min r.hi at_)) (max r.lo at_ + n) (r.hi + n)).getLast? = some l → (l.lo ≤ r.hi + 1 ∨ at_ ≤ r.hi + 1) ∧ l.lo ≤ r.hi + 1 + n := by
   intro l hll
   have c1 := b4 (max r.lo at_ + n) a7 (fun h => by omega) l hll
   by_cases hat : r.hi ≤ at_
   ·have c2 := b4 r.lo (a4 r.lo (fun l hll => by have := hl l hll; omega) (fun h => by omega)) (fun h => by omega) l hll
    omega
   ·omega
  obtain ⟨c1, c2, c3⟩ := thrL_ok hn ha xs _ (r.hi + 1) (by omega) h3 b1 (fun x hx => hTx x (List.mem_cons_of_mem _ hx)) b6 hlast
  refine ⟨c1, c2, fun q => ?_⟩
  simp only [thrL]
  rw [c3, b2, a2, memR_cons, memR_cons]
  constructor
  ·rintro ((h | h) | h)
   ·rcases h with h | h
    ·exact .inl h
    ·exact .inr (.inl ⟨by omega, .inl (by omega)⟩)
   ·exact .inr (.inr ⟨by omega, .inl (by omega)⟩)
   ·rcases h with h | h
    ·exact .inr (.inl ⟨h.1, .inr h.2⟩)
    ·exact .inr (.inr ⟨h.1, .inr h.2⟩)
  ·rintro (h | ⟨h, h4 | h4⟩ | ⟨h, h4 | h4⟩)
   ·exact .inl (.inl (.inl h))
   ·exact .inl (.inl (.inr (by omega)))
   ·exact .inr (.inl ⟨h, h4⟩)
   ·exact .inl (.inr (by omega))
   ·exact .inr (.inr ⟨h, h4⟩)
/-- A list of places of T cells. -/
structure Pls (T : Int) (xs : List Rg) : Prop where
 norm : NormB 0 xs
 below : BelowR T xs
theorem Pls.len {T : Int} {xs : List Rg} (h : Pls T xs) (hT : 0 ≤ T) : 2 * (xs.length : Int) ≤ T + 1 := by
 by_cases hx : xs = []
 ·subst hx; simp; omega
 ·have := h.norm.len h.below hx; omega
theorem Pls.ck {T : Int} {xs : List Rg} (h : Pls T xs) (hT : 0 ≤ T ∧ T ≤ 65535) : (ckF xs).2 = 0 :=
 ckF_norm.2 ⟨by have := h.len hT.1; omega, h.norm, h.below.mono (by omega)⟩
theorem Pls.in {T : Int} {xs : List Rg} (h : Pls T xs) {q : Int} (hq : memR q xs) : 0 ≤ q ∧ q < T := by
 have h1 := h.norm.below hq
 obtain ⟨r, hr, h2⟩ := hq
 have := h.below r hr
 omega
/-- Through, where there is room. -/
theorem thr_ok {T at_ n : Int} {xs : List Rg} (h : Pls T xs) (hT : 0 ≤ T) (ha : 0 ≤ at_ ∧ at_ ≤ T) (hn : 0 ≤ n) (hs : T + n ≤ 65535) :
  (thrF xs at_ n).2 = 0 ∧ Pls (T + n) (thrF xs at_ n).1 ∧ (∀ q, memR q (thrF xs at_ n).1 ↔ (q < at_ ∧ memR q xs) ∨ (at_ + n ≤ q ∧ memR (q - n) xs)) ∧ (xs = [] ↔ (thrF xs at_ n).1 = []) := by
 have h1 := h.ck (by omega)
 have h2 : ¬ (at_ < 0 ∨ at_ > 1048576 ∨ n < 0 ∨ n > 1048576) := by omega
 obtain ⟨c1, c2, c3⟩ := thrL_ok (T := T) hn ha.1 xs [] 0 (by omega) h.norm trivial h.below (fun r hr => by cases hr) (fun l hl => by cases hl)
 have hp : Pls (T + n) (thrL at_ n [] xs) := ⟨c1, c2⟩
 have hlen := hp.len (by omega)
 have hb : boundF (thrL at_ n [] xs) = (thrL at_ n [] xs, 0) := by unfold boundF; rw [if_neg (by omega)]
 have he : thrF xs at_ n = (thrL at_ n [] xs, 0) := by
  by_cases hk : xs.length = 0
  ·have := List.length_eq_zero_iff.1 hk; subst this
   rw [thrF_nil h2, hb]
  ·have hk' : xs.length - 1 < xs.length := by omega
   have := h.below _ (List.getElem_mem hk')
   rw [thrF_ok h1 h2 hk' (by omega), hb]
 rw [he]
 refine ⟨rfl, hp, fun q => ?_, ?_⟩
 ·rw [c3]; exact ⟨fun h => h.elim (fun h => absurd h (memR_nil q)) id, .inr⟩
 ·constructor
  ·rintro rfl; rfl
  ·intro e
   simp only at e
   rcases xs with _ | ⟨r, xs⟩
   ·rfl
   ·have hr := h.norm.mem r List.mem_cons_self
    by_cases hlt : r.lo < at_
    ·have := (c3 r.lo).2 (.inr (.inl ⟨hlt, r, List.mem_cons_self, by omega⟩))
     rw [e] at this; exact absurd this (memR_nil _)
    ·have := (c3 (r.lo + n)).2 (.inr (.inr ⟨by omega, r, List.mem_cons_self, by omega⟩))
     rw [e] at this; exact absurd this (memR_nil _)
/-- A normal list is its places. -/
theorem norm_ext : ∀ {b b' : Int} {xs ys : List Rg}, NormB b xs → NormB b' ys → (∀ q, memR q xs ↔ memR q ys) → xs = ys
 | b, b', [], [], _, _, _ => rfl
 | b, b', [], s :: ys, _, h, e => absurd ((e s.lo).2 ⟨s, List.mem_cons_self, Int.le_refl _, h.2.1⟩) (memR_nil _)
 | b, b', r :: xs, [], h, _, e => absurd ((e r.lo).1 ⟨r, List.mem_cons_self, Int.le_refl _, h.2.1⟩) (memR_nil _)
 | b, b', r :: xs, s :: ys, h, k, e => by
  have hx : ∀ q, memR q xs → r.hi + 1 ≤ q := fun q hq => h.2.2.below hq
  have hy : ∀ q, memR q ys → s.hi + 1 ≤ q := fun q hq => k.2.2.below hq
  have h2 := h.2.1
  have k2 := k.2.1
  have elo : r.lo = s.lo := by
   have e1 := (e r.lo).1 (memR_cons.2 (.inl (by omega)))
   have e2 := (e s.lo).2 (memR_cons.2 (.inl (by omega)))
   rcases memR_cons.1 e1 with g | g
   ·rcases memR_cons.1 e2 with g2 | g2
    ·omega
    ·have := hx _ g2; omega
   ·have := hy _ g
    rcases memR_cons.1 e2 with g2 | g2
    ·omega
    ·have := hx _ g2; omega
  have ehi : r.hi = s.hi := by
   rcases Int.lt_trichotomy r.hi s.hi with g | g | g
   ·have e2 := (e r.hi).2 (memR_cons.2 (.inl (by omega)))
    rcases memR_cons.1 e2 with g2 | g2
    ·omega
    ·have := hx _ g2; omega
   ·exact g
   ·have e2 := (e s.hi).1 (memR_cons.2 (.inl (by omega)))
    rcases memR_cons.1 e2 with g2 | g2
    ·omega
    ·have := hy _ g2; omega
  have er : r = s := Rg.ext elo ehi
  subst er
  congr 1
  refine norm_ext h.2.2 k.2.2 fun q => ?_
  constructor
  ·intro g
   have := hx q g
   rcases memR_cons.1 ((e q).1 (memR_cons.2 (.inr g))) with g2 | g2
   ·omega
   ·exact g2
  ·intro g
   have := hy q g
   rcases memR_cons.1 ((e q).2 (memR_cons.2 (.inr g))) with g2 | g2
   ·omega
   ·exact g2
end Go.Proofs.YtcjbjkbghgjmdaaGreatDoor
/- Plain operations: what op's functions compute. -/
namespace Go.Proofs.YtcjbjkbghgjmdaaGreatDoor
open Go Go.GW
def widthF (o : GOp) : Int := if o.kind = 1 then (utF o.text).1 else 0
def rightF (c n : Int) : Bool := decide (1 ≤ c ∧ c ≤ 8 ∧ 1 ≤ n ∧ n ≤ 1024)
def extraF (o : GOp) : Bool :=
 (decide (o.kind ≠ 1) && (decide (o.at_ ≠ 0) || !(o.text == ⟨#[]⟩))) || ((decide (o.kind ≠ 2) && decide (o.kind ≠ 3)) && decide (0 < o.rs.length)) || (decide (o.kind ≠ 4) && ((decide (o.tc ≠ 0) || decide (o.tn ≠ 0)) || o.on))
def insF (o : GOp) (total : Int) : Int :=
 if (utF o.text).2.2 ≠ 0 then (utF o.text).2.2
 else if (utF o.text).1 = 0 then 15
 else if (utF o.text).1 > 256 then 14
 else if o.at_ < 0 ∨ o.at_ > total then 12
 else if total + (utF o.text).1 > 1048576 then 24
 else 0
def rangesF (xs : List Rg) (total : Int) : Int :=
 match xs.getLast? with
 | none => 43
 | some r => if (ckF xs).2 ≠ 0 then (ckF xs).2 else if r.hi > total then 12 else 0
theorem rangesF_nil {xs : List Rg} {total : Int} (h : xs.length = 0) : rangesF xs total = 43 := by
 rw [List.length_eq_zero_iff.1 h]; rfl
theorem rangesF_ck {xs : List Rg} {total : Int} (h : ¬ xs.length = 0) (h2 : (ckF xs).2 ≠ 0) : rangesF xs total = (ckF xs).2 := by
 have hk : xs.length - 1 < xs.length := by omega
 unfold rangesF
 rw [List.getLast?_eq_getElem?, List.getElem?_eq_getElem hk]
 simp only [if_pos h2]
theorem rangesF_at {xs : List Rg} {total : Int} (hk : xs.length - 1 < xs.length) (h2 : (ckF xs).2 = 0) : rangesF xs total = if xs[xs.length - 1].hi > total then 12 else 0 := by
 unfold rangesF
 rw [List.getLast?_eq_getElem?, List.getElem?_eq_getElem hk]
 simp only [ne_eq, h2, not_true_eq_false, if_false]
def checkF (o : GOp) (total : Int) : Int :=
 if total < 0 ∨ total > 1048576 then 12
 else if o.kind < 1 ∨ o.kind > 4 then 40
 else if (o.c ≠ 0 ∨ o.n ≠ 0) ∧ rightF o.c o.n = false then 41
 else if extraF o = true then 42
 else if o.kind = 1 then insF o total
 else if o.kind = 4 then (if rightF o.tc o.tn = false ∨ (o.tc = o.c ∧ o.tn = o.n) then 63 else 0)
 else rangesF o.rs total
theorem utAt_n {s : ByteArray} : ∀ (m p k : Nat), s.size - p ≤ m → p ≤ s.size → 0 ≤ (utAt s p k).1 ∧ (utAt s p k).1 ≤ k + (s.size - p : Nat)
 | m, p, k, hm, hp => by
  by_cases h : p < s.size
  ·by_cases h1 : begF s p (Utf8.decode s p).1 = false
   ·rw [utAt_utf8 h h1]; simp; omega
   ·by_cases h2 : letF (Utf8.decode s p).1 = false
    ·rw [utAt_rune h h1 h2]; simp; omega
    ·rw [utAt_next h h1 h2]
     have h3 := decode_pos s p
     have h4 := decode_leP h
     cases m with
     | zero => omega
     | succ m =>
      have := utAt_n m (p + (Utf8.decode s p).2) (k + 1) (by omega) h4
      omega
  ·rw [utAt_end h]; constructor <;> simp <;> omega
theorem utF_n (s : ByteArray) : 0 ≤ (utF s).1 ∧ (utF s).1 ≤ s.size := by
 have := utAt_n (s := s) s.size 0 0 (by omega) (Nat.zero_le _)
 unfold utF; omega
theorem widthF_le (o : GOp) : 0 ≤ widthF o ∧ widthF o ≤ o.text.size := by
 unfold widthF
 split
 ·exact utF_n _
 ·omega
end Go.Proofs.YtcjbjkbghgjmdaaGreatDoor
/- Plain operations: what xform's functions compute. -/
namespace Go.Proofs.YtcjbjkbghgjmdaaGreatDoor
open Go Go.GW
def zeroOp : GOp := ⟨0, 0, 0, 0, ⟨#[]⟩, [], 0, 0, false⟩
/-- An operation that fits: no sum of its numbers leaves the whole numbers. -/
structure Fit (o : GOp) : Prop where
 text : o.text.size ≤ 2305843009213693952
 rs : o.rs.length ≤ 4398046511104
 lo : -2305843009213693952 ≤ o.at_
 hi : o.at_ ≤ 2305843009213693952
def ownF (o : GOp) : Int := if o.kind = 1 ∧ 0 ≤ o.at_ ∧ o.at_ ≤ 1048576 then checkF o o.at_ else checkF o 1048576
def ownsF : List GOp → Int
 | [] => 0
 | o :: r => if ownF o ≠ 0 then ownF o else ownsF r
def clashF (a b : GOp) : Prop := a.c = b.c ∧ a.n = b.n ∧ ¬ (a.c = 0 ∧ a.n = 0)
instance (a b : GOp) : Decidable (clashF a b) := by unfold clashF; infer_instance
def movedF (a : GOp) (at_ : Int) : GOp × Int := if at_ + widthF a > 1048576 then (zeroOp, 24) else ({ a with at_ := at_, rs := [] }, 0)
def rangedF (a : GOp) (l : List Rg) (e : Int) : GOp × Int := if e ≠ 0 then (zeroOp, e) else ({ a with rs := l }, 0)
def includeF (a b : GOp) (earlier : Bool) : GOp × Int :=
 if clashF a b then (zeroOp, 50)
 else if b.kind ≠ 1 then (a, 0)
 else if a.kind = 1 then (if b.at_ < a.at_ ∨ (b.at_ = a.at_ ∧ earlier = true) then movedF a (a.at_ + widthF b) else (a, 0))
 else if a.kind = 2 ∨ a.kind = 3 then rangedF a (thrF a.rs b.at_ (widthF b)).1 (thrF a.rs b.at_ (widthF b)).2
 else (a, 0)
/-- Cross: one later operation over all of the first. -/
def crossIn : GOp → List GOp → Except Int (GOp × List GOp)
 | l, [] => .ok (l, [])
 | l, f :: fs =>
  if (includeF l f true).2 ≠ 0 then .error (includeF l f true).2
  else if (includeF f l false).2 ≠ 0 then .error (includeF f l false).2
  else match crossIn (includeF l f true).1 fs with
   | .error e => .error e
   | .ok (l', fs') => .ok (l', (includeF f l false).1 :: fs')
def crossOut : List GOp → List GOp → Except Int (List GOp × List GOp)
 | fs, [] => .ok (fs, [])
 | fs, l :: ls => match crossIn l fs with
  | .error e => .error e
  | .ok (l', fs') => match crossOut fs' ls with
   | .error e => .error e
   | .ok (fs2, ls2) => .ok (fs2, l' :: ls2)
def crossF (xs ys : List GOp) : List GOp × List GOp × Int :=
 if ownsF xs ≠ 0 then ([], [], ownsF xs)
 else if ownsF ys ≠ 0 then ([], [], ownsF ys)
 else match crossOut xs ys with
  | .error e => ([], [], e)
  | .ok (a, b) => (a, b, 0)
def putIn (fs : List GOp) : Except Int (GOp × List GOp) → Except Int (GOp × List GOp)
 | .error e => .error e
 | .ok (l, r) => .ok (l, fs ++ r)
def putOut (ls : List GOp) : Except Int (List GOp × List GOp) → Except Int (List GOp × List GOp)
 | .error e => .error e
 | .ok (f, r) => .ok (f, ls ++ r)
def restOut (ls : List GOp) : Except Int (GOp × List GOp) → Except Int (List GOp × List GOp)
 | .error e => .error e
 | .ok (l', fs') => match crossOut fs' ls with
   | .error e => .error e
   | .ok (fs2, ls2) => .ok (fs2, l' :: ls2)
theorem crossOut_cons (fs : List GOp) (l : GOp) (ls : List GOp) : crossOut fs (l :: ls) = restOut ls (crossIn l fs) := by
 rw [crossOut]; unfold restOut; rfl
theorem crossIn_err1 {l f : GOp} {fs : List GOp} (h : (includeF l f true).2 ≠ 0) : crossIn l (f :: fs) = .error (includeF l f true).2 := by rw [crossIn, if_pos h]
theorem crossIn_err2 {l f : GOp} {fs : List GOp} (h : ¬ (includeF l f true).2 ≠ 0) (h2 : (includeF f l false).2 ≠ 0) : crossIn l (f :: fs) = .error (includeF f l false).2 := by rw [crossIn, if_neg h, if_pos h2]
theorem crossIn_ok {l f : GOp} {fs : List GOp} (h : ¬ (includeF l f true).2 ≠ 0) (h2 : ¬ (includeF f l false).2 ≠ 0) : crossIn l (f :: fs) = putIn [(includeF f l false).1] (crossIn (includeF l f true).1 fs) := by
 rw [crossIn, if_neg h, if_neg h2]; cases crossIn (includeF l f true).1 fs <;> rfl
/-- The inner loop: l has come to place k of F. -/
structure CiI (l0 : GOp) (F0 F : List GOp) (l : GOp) (k : Nat) : Prop where
 le : k ≤ F.length
 len : F.length = F0.length
 fit : ∀ o ∈ F, Fit o
 fitl : Fit l
 eq : crossIn l0 F0 = putIn (F.take k) (crossIn l (F.drop k))
/-- The outer loop. -/
structure CoI (xs ys F L : List GOp) (i : Nat) : Prop where
 le : i ≤ L.length
 lenF : F.length = xs.length
 lenL : L.length = ys.length
 fitF : ∀ o ∈ F, Fit o
 fitL : ∀ o ∈ L, Fit o
 eq : crossOut xs ys = putOut (L.take i) (crossOut F (L.drop i))
theorem boundF_len (xs : List Rg) : (boundF xs).1.length ≤ 32768 := by
 unfold boundF; split
 ·simp
 ·simp only; omega
theorem thrF_len (xs : List Rg) (at_ n : Int) : (thrF xs at_ n).1.length ≤ 32768 := by
 unfold thrF
 split
 ·simp
 ·split
  ·simp
  ·split
   ·split
    ·simp
    ·exact boundF_len _
   ·exact boundF_len _
theorem Fit.zero : Fit zeroOp := ⟨by decide, by decide, by decide, by decide⟩
theorem Fit.include {a b : GOp} (ha : Fit a) (hb : Fit b) (e : Bool) : Fit (includeF a b e).1 := by
 have h1 := widthF_le a
 have h2 := widthF_le b
 have h3 := hb.text
 have h4 := ha.lo
 have h5 := ha.hi
 unfold includeF
 split
 ·exact Fit.zero
 ·split
  ·exact ha
  ·split
   ·split
    ·unfold movedF
     split
     ·exact Fit.zero
     ·exact ⟨ha.text, by simp, by show _ ≤ a.at_ + widthF b; omega, by show a.at_ + widthF b ≤ _; omega⟩
    ·exact ha
   ·split
    ·unfold rangedF
     split
     ·exact Fit.zero
     ·exact ⟨ha.text, by have := thrF_len a.rs b.at_ (widthF b); show (thrF a.rs b.at_ (widthF b)).1.length ≤ _; omega, ha.lo, ha.hi⟩
    ·exact ha
theorem CiI.zero {l0 : GOp} {F0 : List GOp} (hF : ∀ o ∈ F0, Fit o) (hl : Fit l0) : CiI l0 F0 F0 l0 0 := ⟨Nat.zero_le _, rfl, hF, hl, by
 simp only [List.take_zero, List.drop_zero]; cases crossIn l0 F0 <;> rfl⟩
theorem CiI.err1 {l0 l : GOp} {F0 F : List GOp} {k : Nat} (h : CiI l0 F0 F l k) (hk : k < F.length) (h1 : (includeF l F[k] true).2 ≠ 0) : crossIn l0 F0 = .error (includeF l F[k] true).2 := by
 rw [h.eq, List.drop_eq_getElem_cons hk, crossIn_err1 h1]; rfl
theorem CiI.err2 {l0 l : GOp} {F0 F : List GOp} {k : Nat} (h : CiI l0 F0 F l k) (hk : k < F.length) (h1 : ¬ (includeF l F[k] true).2 ≠ 0) (h2 : (includeF F[k] l false).2 ≠ 0) : crossIn l0 F0 = .error (includeF F[k] l false).2 := by
 rw [h.eq, List.drop_eq_getElem_cons hk, crossIn_err2 h1 h2]; rfl
theorem CiI.next {l0 l : GOp} {F0 F : List GOp} {k : Nat} (h : CiI l0 F0 F l k) (hk : k < F.length) (h1 : ¬ (includeF l F[k] true).2 ≠ 0) (h2 : ¬ (includeF F[k] l false).2 ≠ 0) : CiI l0 F0 (F.set k (includeF F[k] l false).1) (includeF l F[k] true).1 (k + 1) := by
 have hfk : Fit F[k] := h.fit _ (List.getElem_mem hk)
 refine ⟨by simp; omega, by simp [h.len], fun o ho => ?_, h.fitl.include hfk _, ?_⟩
 ·rcases List.mem_or_eq_of_mem_set ho with ho | rfl
  ·exact h.fit o ho
  ·exact hfk.include h.fitl _
 ·rw [h.eq, List.drop_eq_getElem_cons hk, crossIn_ok h1 h2]
  have e1 : (F.set k (includeF F[k] l false).1).take (k + 1) = F.take k ++ [(includeF F[k] l false).1] := by
   rw [List.set_eq_take_append_cons_drop, if_pos hk, List.take_append]
   simp [List.length_take, List.take_take, Nat.min_eq_left (by omega : k ≤ F.length)]
  have e2 : (F.set k (includeF F[k] l false).1).drop (k + 1) = F.drop (k + 1) := by
   rw [List.drop_set_of_lt (by omega)]
  rw [e1, e2]
  cases crossIn (includeF l F[k] true).1 (F.drop (k + 1)) with
  | error e => rfl
  | ok r => simp [putIn]
theorem CiI.done {l0 l : GOp} {F0 F : List GOp} {k : Nat} (h : CiI l0 F0 F l k) (hk : ¬ k < F.length) : crossIn l0 F0 = .ok (l, F) := by
 have := h.le
 rw [h.eq, List.drop_eq_nil_of_le (by omega), List.take_of_length_le (by omega)]
 simp [crossIn, putIn]
theorem CoI.zero {xs ys : List GOp} (hx : ∀ o ∈ xs, Fit o) (hy : ∀ o ∈ ys, Fit o) : CoI xs ys xs ys 0 := ⟨Nat.zero_le _, rfl, rfl, hx, hy, by
 simp only [List.take_zero, List.drop_zero]; cases crossOut xs ys <;> rfl⟩
theorem CoI.err {xs ys F L : List GOp} {i : Nat} {e : Int} (h : CoI xs ys F L i) (hi : i < L.length) (h1 : crossIn L[i] F = .error e) : crossOut xs ys = .error e := by
 rw [h.eq, List.drop_eq_getElem_cons hi, crossOut_cons, h1]; rfl
theorem CoI.next {xs ys F L F' : List GOp} {i : Nat} {l' : GOp} (h : CoI xs ys F L i) (hi : i < L.length) (h1 : crossIn L[i] F = .ok (l', F')) (hlen : F'.length = F.length) (hF : ∀ o ∈ F', Fit o) (hl : Fit l') : CoI xs ys F' (L.set i l') (i + 1) := by
 refine ⟨by simp; omega, by rw [hlen, h.lenF], by simp [h.lenL], hF, fun o ho => ?_, ?_⟩
 ·rcases List.mem_or_eq_of_mem_set ho with ho | rfl
  ·exact h.fitL o ho
  ·exact hl
 ·rw [h.eq, List.drop_eq_getElem_cons hi, crossOut_cons, h1]
  have e1 : (L.set i l').take (i + 1) = L.take i ++ [l'] := by
   rw [List.set_eq_take_append_cons_drop, if_pos hi, List.take_append]
   simp [List.length_take, List.take_take, Nat.min_eq_left (by omega : i ≤ L.length)]
  have e2 : (L.set i l').drop (i + 1) = L.drop (i + 1) := by
   rw [List.drop_set_of_lt (by omega)]
  rw [e1, e2]
  unfold restOut
  simp only
  cases crossOut F' (L.drop (i + 1)) with
  | error e => rfl
  | ok r => simp [putOut]
theorem CoI.done {xs ys F L : List GOp} {i : Nat} (h : CoI xs ys F L i) (hi : ¬ i < L.length) : crossOut xs ys = .ok (F, L) := by
 have := h.le
 rw [h.eq, List.drop_eq_nil_of_le (by omega), List.take_of_length_le (by omega)]
 simp [crossOut, putOut]
/-- What an operation with an error answers. -/
def OpP (r : GOp × Int) : Value → List Part → List Fact → Prop := fun v Lo fs => ∃ (A' : Option Addr) (c' : Nat), v = .tuple #[opV r.1 A' c', .int .i64 r.2] ∧ Lo = [] ∧ fs = [RdF rgD A' c' r.1.rs]
def CrP (r : List GOp × List GOp × Int) : Value → List Part → List Fact → Prop := fun v Lo fs => ∃ (A1 : Option Addr) (c1 : Nat) (A2 : Option Addr) (c2 : Nat), v = .tuple #[.slice A1 r.1.length c1, .slice A2 r.2.1.length c2, .int .i64 r.2.2] ∧ Lo = [] ∧ fs = [RdF opD A1 c1 r.1, RdF opD A2 c2 r.2.1]
theorem crossF_1 {xs ys : List GOp} (h : ownsF xs ≠ 0) : crossF xs ys = ([], [], ownsF xs) := by unfold crossF; rw [if_pos h]
theorem crossF_2 {xs ys : List GOp} (h : ownsF xs = 0) (h2 : ownsF ys ≠ 0) : crossF xs ys = ([], [], ownsF ys) := by unfold crossF; rw [if_neg (by simpa using h), if_pos h2]
theorem crossF_3 {xs ys : List GOp} {e : Int} (h : ownsF xs = 0) (h2 : ownsF ys = 0) (h3 : crossOut xs ys = .error e) : crossF xs ys = ([], [], e) := by unfold crossF; rw [if_neg (by simpa using h), if_neg (by simpa using h2), h3]
theorem crossF_4 {xs ys a b : List GOp} (h : ownsF xs = 0) (h2 : ownsF ys = 0) (h3 : crossOut xs ys = .ok (a, b)) : crossF xs ys = (a, b, 0) := by unfold crossF; rw [if_neg (by simpa using h), if_neg (by simpa using h2), h3]
end Go.Proofs.YtcjbjkbghgjmdaaGreatDoor
/- Plain histories: what history's methods compute; how a history lies in memory. -/
namespace Go.Proofs.YtcjbjkbghgjmdaaGreatDoor
open Go Go.GW
structure Ent where
 op : GOp
 now : List Rg
 off : Bool
structure Hist where
 ents : List Ent
 total : Int
def Hist.ops (H : Hist) : List GOp := H.ents.map (·.op)
structure Mark where
 c : Int
 n : Int
 num : Int
 now : List Rg
 off : Bool
def markAt (k : Nat) (e : Ent) : Mark := ⟨e.op.c, e.op.n, k, e.now, e.off⟩
def marksFrom : List Ent → Nat → List Mark
 | [], _ => []
 | e :: r, k => markAt k e :: marksFrom r (k + 1)
/-- A mark and where it lies. -/
structure MR where
 mark : Mark
 b : Nat
 A : Option Addr
 cap : Nat
def keys (L : List MR) : List MK := L.map fun x => ⟨x.mark.c, x.mark.n, x.b⟩
abbrev hdP (h : Nat) (A : Option Addr) (len cap m : Nat) (total : Int) : Part := [(h, cellsO [.slice A len cap, .map (some m), .int .i64 total] 67)]
abbrev mpP (m : Nat) (L : List MR) : Part := [(m, mapO (keys L))]
def mrO (x : MR) : Obj := cellsO [.int .i64 x.mark.num, .slice x.A x.mark.now.length x.cap, .bool x.mark.off] 76
def mkP (L : List MR) : Part := L.map fun x => (x.b, mrO x)
abbrev nowF (x : MR) : Fact := RdF rgD x.A x.cap x.mark.now
structure HR (H : Hist) (L : List MR) : Prop where
 perm : (L.map (·.mark)).Perm (marksFrom H.ents 0)
 ids : (H.ents.map fun e => (e.op.c, e.op.n)).Nodup
 fit : ∀ e ∈ H.ents, Fit e.op
 wid : ∀ e ∈ H.ents, widthF e.op ≤ 256
 now : ∀ e ∈ H.ents, e.now.length ≤ 4398046511104
 len : H.ents.length ≤ 1000000
 tot : 0 ≤ H.total ∧ H.total ≤ 1048576
/-- What a method that only looks answers. -/
def HIs (u : Value) (ps : List Part) : Value → List Part → List Fact → Prop := fun v Lo fs => v = u ∧ Lo = ps ∧ fs = []
theorem marksFrom_get : ∀ (l : List Ent) (k j : Nat) (e : Ent), l[j]? = some e → (marksFrom l k)[j]? = some (markAt (k + j) e)
 | [], _, j, e, h => by simp at h
 | a :: r, k, 0, e, h => by simp at h; subst h; simp [marksFrom]
 | a :: r, k, j + 1, e, h => by
  have := marksFrom_get r (k + 1) j e (by simpa using h)
  simp only [marksFrom, List.getElem?_cons_succ, this]
  congr 2; omega
theorem marksFrom_mem : ∀ {l : List Ent} {k : Nat} {x : Mark}, x ∈ marksFrom l k → ∃ j e, l[j]? = some e ∧ x = markAt (k + j) e
 | [], _, x, h => by cases h
 | a :: r, k, x, h => by
  unfold marksFrom at h
  rcases List.mem_cons.1 h with rfl | h
  ·exact ⟨0, a, by simp, rfl⟩
  ·obtain ⟨j, e, h1, h2⟩ := marksFrom_mem h
   exact ⟨j + 1, e, by simpa using h1, by rw [h2]; congr 1; omega⟩
theorem marksFrom_ids : ∀ (l : List Ent) (k : Nat), (marksFrom l k).map (fun x => (x.c, x.n)) = l.map fun e => (e.op.c, e.op.n)
 | [], _ => rfl
 | a :: r, k => by simp [marksFrom, markAt, marksFrom_ids r (k + 1)]
theorem keys_get {L : List MR} {j : Nat} {x : MR} (h : L[j]? = some x) : (keys L)[j]? = some ⟨x.mark.c, x.mark.n, x.b⟩ := by simp [keys, h]
theorem mkP_get {L : List MR} {j : Nat} {x : MR} (h : L[j]? = some x) : (mkP L)[j]? = some (x.b, mrO x) := by simp [mkP, h]
theorem mkP_mem {L : List MR} {j : Nat} {x : MR} (h : L[j]? = some x) : (x.b, mrO x) ∈ mkP L := List.mem_of_getElem? (mkP_get h)
theorem mGet_of : ∀ {L : List MR} {x : MR}, (L.map fun x => (x.mark.c, x.mark.n)).Nodup → x ∈ L → mGet (keys L) x.mark.c x.mark.n = some x.b
 | [], x, _, h => by cases h
 | y :: L, x, hn, h => by
  simp only [List.map_cons, List.nodup_cons] at hn
  unfold keys
  simp only [List.map_cons, mGet]
  rcases List.mem_cons.1 h with rfl | h
  ·simp
  ·rw [if_neg]
   ·exact mGet_of hn.2 h
   ·intro e
    exact hn.1 (List.mem_map.2 ⟨x, h, by rw [e.1, e.2]⟩)
theorem mGet_some : ∀ {L : List MR} {c n : Int} {b : Nat}, mGet (keys L) c n = some b → ∃ (j : Nat) (x : MR), L[j]? = some x ∧ x.mark.c = c ∧ x.mark.n = n ∧ x.b = b
 | [], c, n, b, h => by simp [keys, mGet] at h
 | y :: L, c, n, b, h => by
  unfold keys at h
  simp only [List.map_cons, mGet] at h
  split at h
  ·rename_i e; exact ⟨0, y, by simp, e.1.symm, e.2.symm, Option.some.inj h⟩
  ·obtain ⟨j, x, h1, h2⟩ := mGet_some (L := L) h
   exact ⟨j + 1, x, by simpa using h1, h2⟩
theorem HR.nodup {H : Hist} {L : List MR} (h : HR H L) : (L.map fun x => (x.mark.c, x.mark.n)).Nodup := by
 have h1 : (L.map fun x => (x.mark.c, x.mark.n)) = (L.map (·.mark)).map fun x => (x.c, x.n) := by simp [List.map_map, Function.comp_def]
 rw [h1, (h.perm.map _).nodup_iff, marksFrom_ids]
 exact h.ids
theorem HR.look {H : Hist} {L : List MR} (h : HR H L) {k : Nat} (hk : k < H.ents.length) : ∃ (j : Nat) (x : MR), L[j]? = some x ∧ x.mark = markAt k H.ents[k] ∧ mGet (keys L) H.ents[k].op.c H.ents[k].op.n = some x.b := by
 have h1 := marksFrom_get H.ents 0 k _ (List.getElem?_eq_getElem hk)
 have h2 := (h.perm.mem_iff).2 (List.mem_of_getElem? h1)
 obtain ⟨x, hx, hm⟩ := List.mem_map.1 h2
 obtain ⟨j, hj, rfl⟩ := List.mem_iff_getElem.1 hx
 rw [Nat.zero_add] at hm
 refine ⟨j, L[j], List.getElem?_eq_getElem hj, hm, ?_⟩
 have := mGet_of h.nodup hx
 rw [hm] at this
 exact this
/-- Where the command of an id stands. -/
def whereId (l : List Ent) (c n : Int) : Option Nat := l.findIdx? fun e => decide (c = e.op.c) && decide (n = e.op.n)
theorem whereId_some {l : List Ent} {c n : Int} {k : Nat} (h : whereId l c n = some k) : ∃ hk : k < l.length, l[k].op.c = c ∧ l[k].op.n = n := by
 obtain ⟨hk, h1, _⟩ := List.findIdx?_eq_some_iff_getElem.1 h
 simp at h1
 exact ⟨hk, h1.1.symm, h1.2.symm⟩
theorem whereId_none {l : List Ent} {c n : Int} (h : whereId l c n = none) : ∀ e ∈ l, ¬ (e.op.c = c ∧ e.op.n = n) := fun e he hh => by
 have := List.findIdx?_eq_none_iff.1 h e he
 simp [hh.1, hh.2] at this
theorem HR.look0 {H : Hist} {L : List MR} (h : HR H L) {c n : Int} (hn : whereId H.ents c n = none) : mGet (keys L) c n = none := by
 cases hg : mGet (keys L) c n with
 | none => rfl
 | some b =>
  obtain ⟨j, x, h1, h2, h3, _⟩ := mGet_some hg
  have h4 := (h.perm.mem_iff).1 (List.mem_map.2 ⟨x, List.mem_of_getElem? h1, rfl⟩)
  obtain ⟨k, e, h5, h6⟩ := marksFrom_mem h4
  have h7 := whereId_none hn e (List.mem_of_getElem? h5)
  rw [h6] at h2 h3
  exact absurd ⟨h2, h3⟩ h7
theorem HR.look1 {H : Hist} {L : List MR} (h : HR H L) {c n : Int} {k : Nat} (hn : whereId H.ents c n = some k) : ∃ (hk : k < H.ents.length) (j : Nat) (x : MR), H.ents[k].op.c = c ∧ H.ents[k].op.n = n ∧ L[j]? = some x ∧ x.mark = markAt k H.ents[k] ∧ mGet (keys L) c n = some x.b := by
 obtain ⟨hk, rfl, rfl⟩ := whereId_some hn
 obtain ⟨j, x, h1, h2, h3⟩ := h.look hk
 exact ⟨hk, j, x, rfl, rfl, h1, h2, h3⟩
def sumW : List Ent → Int
 | [] => 0
 | e :: r => widthF e.op + sumW r
theorem sumW_append : ∀ (a b : List Ent), sumW (a ++ b) = sumW a + sumW b
 | [], b => by simp [sumW]
 | e :: a, b => by simp [sumW, sumW_append a b]; omega
theorem sumW_le : ∀ (l : List Ent), (∀ e ∈ l, widthF e.op ≤ 256) → 0 ≤ sumW l ∧ sumW l ≤ 256 * l.length
 | [], _ => by simp [sumW]
 | e :: r, h => by
  have h1 := sumW_le r fun x hx => h x (List.mem_cons_of_mem _ hx)
  have h2 := h e List.mem_cons_self
  have h3 := widthF_le e.op
  simp only [sumW, List.length_cons]
  omega
def beforeF (H : Hist) (i : Nat) : Int := sumW (H.ents.take i)
def fitsRest (H : Hist) (o : GOp) : Int := if H.total + widthF o > 1048576 then 24 else 0
def fitsT (H : Hist) (i : Int) (o : GOp) : Int :=
 match whereId H.ents o.tc o.tn with
 | none => 60
 | some k => if (k : Int) ≥ i then 60 else match H.ents[k]? with
  | some e => if e.op.kind = 4 then 63 else fitsRest H o
  | none => 60
def fitsF (H : Hist) (i : Int) (o : GOp) : Int :=
 if i < 0 ∨ i > H.ents.length then 12
 else if checkF o (beforeF H i.toNat) ≠ 0 then checkF o (beforeF H i.toNat)
 else if o.kind = 3 then 40
 else if o.c = 0 ∧ o.n = 0 then 41
 else if (whereId H.ents o.c o.n).isSome then 61
 else if o.kind = 4 then fitsT H i o
 else fitsRest H o
def movedAll : List Ent → Int → Int → Except Int (List (List Rg))
 | [], _, _ => .ok []
 | e :: r, at_, n => if (thrF e.now at_ n).2 ≠ 0 then .error (thrF e.now at_ n).2 else match movedAll r at_ n with
  | .error x => .error x
  | .ok ls => .ok ((thrF e.now at_ n).1 :: ls)
def turnF (e : Ent) (on : Bool) : GOp := { zeroOp with kind := if (decide (e.op.kind = 2) == on) = true then 2 else 3, rs := e.now }
def laterT (l : List Ent) (c n : Int) : Bool := l.any fun e => decide (e.op.kind = 4) && (decide (e.op.tc = c) && decide (e.op.tn = n))
def offE (e : Ent) (b : Bool) : Ent := ⟨e.op, e.now, b⟩
def turnedF (H : Hist) (i : Nat) (o : GOp) : List Ent × GOp :=
 if laterT (H.ents.drop i) o.tc o.tn = true then (H.ents, zeroOp)
 else match whereId H.ents o.tc o.tn with
  | none => (H.ents, zeroOp)
  | some k => match H.ents[k]? with
   | none => (H.ents, zeroOp)
   | some e => if e.off = !o.on then (H.ents, zeroOp) else (H.ents.set k (offE e (!o.on)), turnF e o.on)
/-! One entry is turned into another one. -/
theorem erase_perm {α : Type} : ∀ {l : List α} {n : Nat} (h : n < l.length), (l[n] :: l.eraseIdx n).Perm l
 | [], n, h => by simp at h
 | a :: l, 0, h => by simp
 | a :: l, n + 1, h => by
  have h' : n < l.length := by simpa using h
  simp only [List.getElem_cons_succ, List.eraseIdx_cons_succ]
  exact (List.Perm.swap a l[n] _).trans ((erase_perm h').cons a)
theorem set_perm_cons {α : Type} : ∀ {l : List α} {n : Nat} (h : n < l.length) (b : α), (l.set n b).Perm (b :: l.eraseIdx n)
 | [], n, h, b => by simp at h
 | a :: l, 0, h, b => by simp
 | a :: l, n + 1, h, b => by
  have h' : n < l.length := by simpa using h
  simp only [List.set_cons_succ, List.eraseIdx_cons_succ]
  exact ((set_perm_cons h' b).cons a).trans (List.Perm.swap b a _)
theorem set_perm {α : Type} {l M : List α} {j k : Nat} {a : α} (h : l.Perm M) (hj : l[j]? = some a) (hk : M[k]? = some a) (b : α) : (l.set j b).Perm (M.set k b) := by
 have hjl : j < l.length := by
  rcases Nat.lt_or_ge j l.length with h | h
  ·exact h
  ·rw [List.getElem?_eq_none h] at hj; cases hj
 have hkl : k < M.length := by
  rcases Nat.lt_or_ge k M.length with h | h
  ·exact h
  ·rw [List.getElem?_eq_none h] at hk; cases hk
 have e1 : l[j] = a := by rw [List.getElem?_eq_getElem hjl] at hj; exact Option.some.inj hj
 have e2 : M[k] = a := by rw [List.getElem?_eq_getElem hkl] at hk; exact Option.some.inj hk
 have h1 : (a :: l.eraseIdx j).Perm (a :: M.eraseIdx k) := by
  have p1 := erase_perm hjl
  have p2 := erase_perm hkl
  rw [e1] at p1; rw [e2] at p2
  exact (p1.trans h).trans p2.symm
 have h2 := h1.cons_inv
 exact ((set_perm_cons hjl b).trans (h2.cons b)).trans (set_perm_cons hkl b).symm
theorem marksFrom_set : ∀ (l : List Ent) (k j : Nat) (e : Ent), j < l.length → marksFrom (l.set j e) k = (marksFrom l k).set j (markAt (k + j) e)
 | [], _, j, e, h => by simp at h
 | a :: r, k, 0, e, h => by simp [marksFrom]
 | a :: r, k, j + 1, e, h => by
  have := marksFrom_set r (k + 1) j e (by simpa using h)
  simp only [marksFrom, List.set_cons_succ, this]
  congr 2; congr 1; omega
theorem HR.upd {H : Hist} {L : List MR} (h : HR H L) {k j : Nat} (hk : k < H.ents.length) {x : MR} (hj : L[j]? = some x) (hm : x.mark = markAt k H.ents[k]) (e' : Ent) (he : e'.op = H.ents[k].op) (hn : e'.now.length ≤ 4398046511104) (A' : Option Addr) (c' : Nat) :
  HR ⟨H.ents.set k e', H.total⟩ (L.set j ⟨markAt k e', x.b, A', c'⟩) := by
 have hjl : j < L.length := by
  rcases Nat.lt_or_ge j L.length with h | h
  ·exact h
  ·rw [List.getElem?_eq_none h] at hj; cases hj
 refine ⟨?_, ?_, ?_, ?_, ?_, by simpa using h.len, h.tot⟩
 ·rw [List.map_set, marksFrom_set _ _ _ _ hk, Nat.zero_add]
  refine set_perm h.perm (a := markAt k H.ents[k]) ?_ ?_ _
  ·rw [List.getElem?_map, hj]; simp [hm]
  ·have := marksFrom_get H.ents 0 k _ (List.getElem?_eq_getElem hk)
   rwa [Nat.zero_add] at this
 ·have : ((H.ents.set k e').map fun e => (e.op.c, e.op.n)) = H.ents.map fun e => (e.op.c, e.op.n) := by
   rw [List.map_set, he]
   apply List.ext_getElem
   ·simp
   ·intro i h1 h2
    rw [List.getElem_set]
    split
    ·rename_i e; subst e; simp
    ·rfl
  show ((H.ents.set k e').map fun e => (e.op.c, e.op.n)).Nodup
  rw [this]; exact h.ids
 ·intro e hmem
  rcases List.mem_or_eq_of_mem_set hmem with hmem | rfl
  ·exact h.fit e hmem
  ·rw [he]; exact h.fit _ (List.getElem_mem hk)
 ·intro e hmem
  rcases List.mem_or_eq_of_mem_set hmem with hmem | rfl
  ·exact h.wid e hmem
  ·rw [he]; exact h.wid _ (List.getElem_mem hk)
 ·intro e hmem
  rcases List.mem_or_eq_of_mem_set hmem with hmem | rfl
  ·exact h.now e hmem
  ·exact hn
theorem keys_set {L : List MR} {j : Nat} {x y : MR} (hj : L[j]? = some x) (h1 : y.mark.c = x.mark.c) (h2 : y.mark.n = x.mark.n) (h3 : y.b = x.b) : keys (L.set j y) = keys L := by
 have hjl : j < L.length := by
  rcases Nat.lt_or_ge j L.length with h | h
  ·exact h
  ·rw [List.getElem?_eq_none h] at hj; cases hj
 have e1 : L[j] = x := by rw [List.getElem?_eq_getElem hjl] at hj; exact Option.some.inj hj
 unfold keys
 rw [List.map_set, h1, h2, h3, ← e1]
 apply List.ext_getElem
 ·simp
 ·intro i g1 g2
  rw [List.getElem_set]
  split
  ·rename_i e; subst e; simp
  ·rfl
theorem mkP_set (L : List MR) (j : Nat) (y : MR) : mkP (L.set j y) = (mkP L).set j (y.b, mrO y) := by unfold mkP; rw [List.map_set]
theorem now_set {L : List MR} {j : Nat} {y : MR} {Z : Nat → Prop} {w : World} (h : (AllF L nowF).holds Z w) (hy : (nowF y).holds Z w) : (AllF (L.set j y) nowF).holds Z w := fun x hx => by
 rcases List.mem_or_eq_of_mem_set hx with hx | rfl
 ·exact h x hx
 ·exact hy
theorem hops_set {H : Hist} {k : Nat} (hk : k < H.ents.length) (e' : Ent) (he : e'.op = H.ents[k].op) (t : Int) : (⟨H.ents.set k e', t⟩ : Hist).ops = H.ops := by
 unfold Hist.ops
 simp only [List.map_set, he]
 apply List.ext_getElem
 ·simp
 ·intro i h1 h2
  rw [List.getElem_set]
  split
  ·rename_i e; subst e; simp
  ·rfl
end Go.Proofs.YtcjbjkbghgjmdaaGreatDoor
/- Plain histories: Put. -/
namespace Go.Proofs.YtcjbjkbghgjmdaaGreatDoor
open Go Go.GW
/-- What carrying leaves of an operation. -/
structure Same (a b : GOp) : Prop where
 c : b.c = a.c
 n : b.n = a.n
 kind : b.kind = a.kind
 text : b.text = a.text
 tc : b.tc = a.tc
 tn : b.tn = a.tn
 on : b.on = a.on
inductive Sames : List GOp → List GOp → Prop
 | nil : Sames [] []
 | cons {a b : GOp} {l m : List GOp} (h : Same a b) (hr : Sames l m) : Sames (a :: l) (b :: m)
theorem Same.refl (a : GOp) : Same a a := ⟨rfl, rfl, rfl, rfl, rfl, rfl, rfl⟩
theorem Same.trans {a b c : GOp} (h : Same a b) (k : Same b c) : Same a c := ⟨k.c.trans h.c, k.n.trans h.n, k.kind.trans h.kind, k.text.trans h.text, k.tc.trans h.tc, k.tn.trans h.tn, k.on.trans h.on⟩
theorem Same.width {a b : GOp} (h : Same a b) : widthF b = widthF a := by unfold widthF; rw [h.kind, h.text]
theorem Sames.refl : ∀ l, Sames l l
 | [] => .nil
 | a :: l => .cons (Same.refl a) (Sames.refl l)
theorem Sames.trans : ∀ {a b c : List GOp}, Sames a b → Sames b c → Sames a c
 | _, _, _, .nil, .nil => .nil
 | _, _, _, .cons h r, .cons k s => .cons (h.trans k) (r.trans s)
theorem Sames.length {a b : List GOp} (h : Sames a b) : b.length = a.length := by
 induction h with
 | nil => rfl
 | cons _ _ ih => simp [ih]
theorem Sames.get {a b : List GOp} (h : Sames a b) : ∀ (k : Nat) (hk : k < a.length) (hk' : k < b.length), Same a[k] b[k] := by
 induction h with
 | nil => intro k hk; simp at hk
 | cons h _ ih =>
  intro k hk hk'
  cases k with
  | zero => exact h
  | succ k => exact ih k (by simpa using hk) (by simpa using hk')
theorem include_same {a b : GOp} {e : Bool} (h : (includeF a b e).2 = 0) : Same a (includeF a b e).1 := by
 unfold includeF at h ⊢
 split at h
 ·cases h
 ·rename_i h1
  rw [if_neg h1]
  split at h
  ·rename_i h2; rw [if_pos h2]; exact Same.refl a
  ·rename_i h2
   rw [if_neg h2]
   split at h
   ·rename_i h3
    rw [if_pos h3]
    split at h
    ·rename_i h4
     rw [if_pos h4]
     unfold movedF at h ⊢
     split at h
     ·cases h
     ·rename_i h5; rw [if_neg h5]; exact ⟨rfl, rfl, rfl, rfl, rfl, rfl, rfl⟩
    ·rename_i h4; rw [if_neg h4]; exact Same.refl a
   ·rename_i h3
    rw [if_neg h3]
    split at h
    ·rename_i h4
     rw [if_pos h4]
     unfold rangedF at h ⊢
     split at h
     ·rename_i h5; exact absurd h h5
     ·rename_i h5; rw [if_neg h5]; exact ⟨rfl, rfl, rfl, rfl, rfl, rfl, rfl⟩
    ·rename_i h4; rw [if_neg h4]; exact Same.refl a
theorem crossIn_same : ∀ {fs : List GOp} {l l' : GOp} {fs' : List GOp}, crossIn l fs = .ok (l', fs') → Same l l' ∧ Sames fs fs'
 | [], l, l', fs', h => by
  simp only [crossIn, Except.ok.injEq, Prod.mk.injEq] at h
  obtain ⟨rfl, rfl⟩ := h
  exact ⟨Same.refl _, .nil⟩
 | f :: fs, l, l', fs', h => by
  by_cases h1 : (includeF l f true).2 ≠ 0
  ·rw [crossIn_err1 h1] at h; cases h
  ·by_cases h2 : (includeF f l false).2 ≠ 0
   ·rw [crossIn_err2 h1 h2] at h; cases h
   ·rw [crossIn_ok h1 h2] at h
    cases hq : crossIn (includeF l f true).1 fs with
    | error e => rw [hq] at h; cases h
    | ok r =>
     obtain ⟨x, y⟩ := r
     rw [hq] at h
     simp only [putIn, Except.ok.injEq, Prod.mk.injEq] at h
     obtain ⟨rfl, rfl⟩ := h
     obtain ⟨k1, k2⟩ := crossIn_same hq
     exact ⟨(include_same (by simpa using h1)).trans k1, .cons (include_same (by simpa using h2)) k2⟩
theorem crossOut_same : ∀ {ls fs a b : List GOp}, crossOut fs ls = .ok (a, b) → Sames fs a ∧ Sames ls b
 | [], fs, a, b, h => by
  simp only [crossOut, Except.ok.injEq, Prod.mk.injEq] at h
  obtain ⟨rfl, rfl⟩ := h
  exact ⟨Sames.refl _, .nil⟩
 | l :: ls, fs, a, b, h => by
  rw [crossOut_cons] at h
  cases hq : crossIn l fs with
  | error e => rw [hq] at h; cases h
  | ok r =>
   obtain ⟨l', fs'⟩ := r
   rw [hq] at h
   unfold restOut at h
   simp only at h
   cases hq2 : crossOut fs' ls with
   | error e => rw [hq2] at h; cases h
   | ok r2 =>
    obtain ⟨x, y⟩ := r2
    rw [hq2] at h
    simp only [Except.ok.injEq, Prod.mk.injEq] at h
    obtain ⟨rfl, rfl⟩ := h
    obtain ⟨k1, k2⟩ := crossIn_same hq
    obtain ⟨k3, k4⟩ := crossOut_same hq2
    exact ⟨k2.trans k3, .cons k1 k4⟩
theorem crossIn_ne : ∀ {fs : List GOp} {l : GOp} {e : Int}, crossIn l fs = .error e → e ≠ 0
 | [], l, e, h => by simp [crossIn] at h
 | f :: fs, l, e, h => by
  by_cases h1 : (includeF l f true).2 ≠ 0
  ·rw [crossIn_err1 h1] at h; cases h; exact h1
  ·by_cases h2 : (includeF f l false).2 ≠ 0
   ·rw [crossIn_err2 h1 h2] at h; cases h; exact h2
   ·rw [crossIn_ok h1 h2] at h
    cases hq : crossIn (includeF l f true).1 fs with
    | error e' => rw [hq] at h; cases h; exact crossIn_ne hq
    | ok r => rw [hq] at h; obtain ⟨a, b⟩ := r; cases h
theorem crossOut_ne : ∀ {ls fs : List GOp} {e : Int}, crossOut fs ls = .error e → e ≠ 0
 | [], fs, e, h => by simp [crossOut] at h
 | l :: ls, fs, e, h => by
  rw [crossOut_cons] at h
  cases hq : crossIn l fs with
  | error e' => rw [hq] at h; cases h; exact crossIn_ne hq
  | ok r =>
   obtain ⟨l', fs'⟩ := r
   rw [hq] at h
   unfold restOut at h
   simp only at h
   cases hq2 : crossOut fs' ls with
   | error e' => rw [hq2] at h; cases h; exact crossOut_ne hq2
   | ok r2 => rw [hq2] at h; obtain ⟨a, b⟩ := r2; cases h
theorem crossIn_fit : ∀ {fs : List GOp} {l l' : GOp} {fs' : List GOp}, Fit l → (∀ o ∈ fs, Fit o) → crossIn l fs = .ok (l', fs') → Fit l' ∧ ∀ o ∈ fs', Fit o
 | [], l, l', fs', hl, hf, h => by
  simp only [crossIn, Except.ok.injEq, Prod.mk.injEq] at h
  obtain ⟨rfl, rfl⟩ := h
  exact ⟨hl, hf⟩
 | f :: fs, l, l', fs', hl, hf, h => by
  have hff := hf f List.mem_cons_self
  by_cases h1 : (includeF l f true).2 ≠ 0
  ·rw [crossIn_err1 h1] at h; cases h
  ·by_cases h2 : (includeF f l false).2 ≠ 0
   ·rw [crossIn_err2 h1 h2] at h; cases h
   ·rw [crossIn_ok h1 h2] at h
    cases hq : crossIn (includeF l f true).1 fs with
    | error e => rw [hq] at h; cases h
    | ok r =>
     obtain ⟨x, y⟩ := r
     rw [hq] at h
     simp only [putIn, Except.ok.injEq, Prod.mk.injEq] at h
     obtain ⟨rfl, rfl⟩ := h
     obtain ⟨k1, k2⟩ := crossIn_fit (hl.include hff true) (fun o ho => hf o (List.mem_cons_of_mem _ ho)) hq
     refine ⟨k1, fun o ho => ?_⟩
     rcases List.mem_cons.1 ho with rfl | ho
     ·exact hff.include hl false
     ·exact k2 o ho
theorem crossOut_fit : ∀ {ls fs a b : List GOp}, (∀ o ∈ fs, Fit o) → (∀ o ∈ ls, Fit o) → crossOut fs ls = .ok (a, b) → (∀ o ∈ a, Fit o) ∧ ∀ o ∈ b, Fit o
 | [], fs, a, b, hf, hl, h => by
  simp only [crossOut, Except.ok.injEq, Prod.mk.injEq] at h
  obtain ⟨rfl, rfl⟩ := h
  exact ⟨hf, hl⟩
 | l :: ls, fs, a, b, hf, hl, h => by
  rw [crossOut_cons] at h
  cases hq : crossIn l fs with
  | error e => rw [hq] at h; cases h
  | ok r =>
   obtain ⟨l', fs'⟩ := r
   rw [hq] at h
   unfold restOut at h
   simp only at h
   cases hq2 : crossOut fs' ls with
   | error e => rw [hq2] at h; cases h
   | ok r2 =>
    obtain ⟨x, y⟩ := r2
    rw [hq2] at h
    simp only [Except.ok.injEq, Prod.mk.injEq] at h
    obtain ⟨rfl, rfl⟩ := h
    obtain ⟨k1, k2⟩ := crossIn_fit (hl l List.mem_cons_self) hf hq
    obtain ⟨k3, k4⟩ := crossOut_fit k2 (fun o ho => hl o (List.mem_cons_of_mem _ ho)) hq2
    refine ⟨k3, fun o ho => ?_⟩
    rcases List.mem_cons.1 ho with rfl | ho
    ·exact k1
    ·exact k4 o ho
theorem crossF_fit {xs ys : List GOp} (hx : ∀ o ∈ xs, Fit o) (hy : ∀ o ∈ ys, Fit o) : (∀ o ∈ (crossF xs ys).1, Fit o) ∧ ∀ o ∈ (crossF xs ys).2.1, Fit o := by
 have h0 : ∀ e : Int, (∀ o ∈ (([], [], e) : List GOp × List GOp × Int).1, Fit o) ∧ ∀ o ∈ (([], [], e) : List GOp × List GOp × Int).2.1, Fit o := fun e => ⟨fun o h => by simp at h, fun o h => by simp at h⟩
 by_cases h1 : ownsF xs ≠ 0
 ·rw [crossF_1 h1]; exact h0 _
 ·by_cases h2 : ownsF ys ≠ 0
  ·rw [crossF_2 (by simpa using h1) h2]; exact h0 _
  ·cases hq : crossOut xs ys with
   | error e => rw [crossF_3 (by simpa using h1) (by simpa using h2) hq]; exact h0 _
   | ok r =>
    obtain ⟨a, b⟩ := r
    rw [crossF_4 (by simpa using h1) (by simpa using h2) hq]
    exact crossOut_fit hx hy hq
theorem crossF_same {xs ys : List GOp} (h : (crossF xs ys).2.2 = 0) : Sames xs (crossF xs ys).1 ∧ Sames ys (crossF xs ys).2.1 := by
 unfold crossF at h ⊢
 split at h
 ·rename_i h1; exact absurd h h1
 ·rename_i h1
  rw [if_neg h1]
  split at h
  ·rename_i h2; exact absurd h h2
  ·rename_i h2
   rw [if_neg h2]
   cases hq : crossOut xs ys with
   | error e => rw [hq] at h; simp only at h; exact absurd h (crossOut_ne hq)
   | ok r => obtain ⟨a, b⟩ := r; exact crossOut_same hq
/-! ### Put -/
/-- The later commands, carried, with the places and flags that they have. -/
def zipE : List GOp → List Ent → List Ent
 | x :: xs, e :: es => ⟨x, e.now, e.off⟩ :: zipE xs es
 | _, _ => []
def newEnts (i : Nat) (o : GOp) (now : List Rg) (es : List Ent) (later : List GOp) : List Ent := es.take i ++ ⟨o, now, false⟩ :: zipE later (es.drop i)
/-- The first k places are new ones. -/
def setNow : List Ent → List (List Rg) → Nat → List Ent
 | e :: es, l :: ls, k + 1 => ⟨e.op, l, e.off⟩ :: setNow es ls k
 | es, _, _ => es
def effF (o : GOp) : GOp := { zeroOp with kind := o.kind }
structure Mid where
 es : List Ent
 now : List Rg
 eff : GOp
/-- What stands when the history has not grown yet. -/
def midF (H : Hist) (i : Nat) (o t : GOp) : Except Int Mid :=
 if o.kind = 1 then match movedAll H.ents t.at_ (widthF o) with
  | .error e => .error e
  | .ok ls => .ok ⟨setNow H.ents ls H.ents.length, [⟨t.at_, t.at_ + widthF o⟩], { effF o with at_ := t.at_, text := o.text }⟩
 else if o.kind = 2 then .ok ⟨H.ents, t.rs, { effF o with rs := t.rs }⟩
 else if o.kind = 4 then .ok ⟨(turnedF H i o).1, [], (turnedF H i o).2⟩
 else .ok ⟨H.ents, [], effF o⟩
def putF (H : Hist) (i : Int) (o : GOp) : Hist × GOp × Int :=
 if fitsF H i o ≠ 0 then (H, zeroOp, fitsF H i o)
 else if (crossF [o] (H.ops.drop i.toNat)).2.2 ≠ 0 then (H, zeroOp, (crossF [o] (H.ops.drop i.toNat)).2.2)
 else match midF H i.toNat o ((crossF [o] (H.ops.drop i.toNat)).1.headD zeroOp) with
  | .error e => (H, zeroOp, e)
  | .ok m => (⟨newEnts i.toNat o m.now m.es (crossF [o] (H.ops.drop i.toNat)).2.1, H.total + widthF o⟩, m.eff, 0)
theorem zipE_ops : ∀ (xs : List GOp) (es : List Ent), xs.length = es.length → (zipE xs es).map (·.op) = xs
 | [], [], _ => rfl
 | x :: xs, e :: es, h => by simp [zipE, zipE_ops xs es (by simpa using h)]
theorem zipE_length : ∀ (xs : List GOp) (es : List Ent), xs.length = es.length → (zipE xs es).length = es.length
 | [], [], _ => rfl
 | x :: xs, e :: es, h => by simp [zipE, zipE_length xs es (by simpa using h)]
theorem setNow_length : ∀ (es : List Ent) (ls : List (List Rg)) (k : Nat), (setNow es ls k).length = es.length
 | [], _, _ => by simp [setNow]
 | e :: es, [], k => by simp [setNow]
 | e :: es, l :: ls, 0 => by simp [setNow]
 | e :: es, l :: ls, k + 1 => by simp [setNow, setNow_length es ls k]
theorem setNow_ops : ∀ (es : List Ent) (ls : List (List Rg)) (k : Nat), (setNow es ls k).map (·.op) = es.map (·.op)
 | [], _, _ => by simp [setNow]
 | e :: es, [], k => by simp [setNow]
 | e :: es, l :: ls, 0 => by simp [setNow]
 | e :: es, l :: ls, k + 1 => by simp [setNow, setNow_ops es ls k]
theorem setNow_zero (es : List Ent) (ls : List (List Rg)) : setNow es ls 0 = es := by cases es <;> cases ls <;> rfl
theorem setNow_get : ∀ (es : List Ent) (ls : List (List Rg)) (k : Nat) (h : k < es.length), (setNow es ls k)[k]? = some es[k]
 | e :: es, [], k, h => by simp only [setNow]; exact List.getElem?_eq_getElem h
 | e :: es, l :: ls, 0, _ => by simp [setNow]
 | e :: es, l :: ls, k + 1, h => by simpa [setNow] using setNow_get es ls k (by simpa using h)
theorem setNow_succ : ∀ (es : List Ent) (ls : List (List Rg)) (k : Nat) (h : k < es.length) (h2 : k < ls.length), setNow es ls (k + 1) = (setNow es ls k).set k ⟨es[k].op, ls[k], es[k].off⟩
 | e :: es, l :: ls, 0, _, _ => by simp [setNow, setNow_zero]
 | e :: es, l :: ls, k + 1, h, h2 => by
  have := setNow_succ es ls k (by simpa using h) (by simpa using h2)
  simp only [setNow, List.set_cons_succ, List.getElem_cons_succ]
  rw [← this]
theorem movedAll_length : ∀ {es : List Ent} {at_ n : Int} {ls : List (List Rg)}, movedAll es at_ n = .ok ls → ls.length = es.length
 | [], _, _, ls, h => by simp only [movedAll, Except.ok.injEq] at h; subst h; rfl
 | e :: es, at_, n, ls, h => by
  unfold movedAll at h
  split at h
  ·cases h
  ·cases hq : movedAll es at_ n with
   | error x => rw [hq] at h; cases h
   | ok l => rw [hq] at h; simp only [Except.ok.injEq] at h; subst h; simp [movedAll_length hq]
theorem movedAll_le : ∀ {es : List Ent} {at_ n : Int} {ls : List (List Rg)}, movedAll es at_ n = .ok ls → ∀ l ∈ ls, l.length ≤ 32768
 | [], _, _, ls, h, l, hl => by simp only [movedAll, Except.ok.injEq] at h; subst h; cases hl
 | e :: es, at_, n, ls, h, l, hl => by
  unfold movedAll at h
  split at h
  ·cases h
  ·cases hq : movedAll es at_ n with
   | error x => rw [hq] at h; cases h
   | ok r =>
    rw [hq] at h; simp only [Except.ok.injEq] at h; subst h
    rcases List.mem_cons.1 hl with rfl | hl
    ·exact thrF_len _ _ _
    ·exact movedAll_le hq l hl
/-! ### Marks whose numbers are not right yet -/
def marksG : List Ent → (Nat → Nat) → Nat → List Mark
 | [], _, _ => []
 | e :: r, f, j => markAt (f j) e :: marksG r f (j + 1)
theorem marksG_id : ∀ (l : List Ent) (k : Nat), marksG l (fun j => j) k = marksFrom l k
 | [], _ => rfl
 | e :: r, k => by simp [marksG, marksFrom, marksG_id r (k + 1)]
theorem marksG_congr : ∀ (l : List Ent) (f g : Nat → Nat) (k : Nat), (∀ j, j < l.length → f (k + j) = g (k + j)) → marksG l f k = marksG l g k
 | [], _, _, _, _ => rfl
 | e :: r, f, g, k, h => by
  have h0 := h 0 (by simp)
  simp only [Nat.add_zero] at h0
  simp only [marksG, h0]
  rw [marksG_congr r f g (k + 1) fun j hj => by have := h (j + 1) (by simpa using hj); rw [show k + 1 + j = k + (j + 1) from by omega]; exact this]
theorem marksG_append : ∀ (a b : List Ent) (f : Nat → Nat) (k : Nat), marksG (a ++ b) f k = marksG a f k ++ marksG b f (k + a.length)
 | [], b, f, k => by simp [marksG]
 | e :: a, b, f, k => by
  simp only [List.cons_append, marksG, marksG_append a b f (k + 1), List.length_cons]
  rw [show k + 1 + a.length = k + (a.length + 1) from by omega]
theorem marksG_get : ∀ (l : List Ent) (f : Nat → Nat) (k j : Nat) (e : Ent), l[j]? = some e → (marksG l f k)[j]? = some (markAt (f (k + j)) e)
 | [], _, _, j, e, h => by simp at h
 | a :: r, f, k, 0, e, h => by simp at h; subst h; simp [marksG]
 | a :: r, f, k, j + 1, e, h => by
  have := marksG_get r f (k + 1) j e (by simpa using h)
  simp only [marksG, List.getElem?_cons_succ, this]
  rw [show k + 1 + j = k + (j + 1) from by omega]
theorem marksG_ids : ∀ (l : List Ent) (f : Nat → Nat) (k : Nat), (marksG l f k).map (fun x => (x.c, x.n)) = l.map fun e => (e.op.c, e.op.n)
 | [], _, _ => rfl
 | a :: r, f, k => by simp [marksG, markAt, marksG_ids r f (k + 1)]
theorem marksG_set : ∀ (l : List Ent) (f : Nat → Nat) (k j v : Nat) (h : j < l.length), marksG l (fun q => if q = k + j then v else f q) k = (marksG l f k).set j (markAt v l[j])
 | [], _, _, j, v, h => by simp at h
 | a :: r, f, k, 0, v, h => by
  simp only [marksG, List.set_cons_zero, Nat.add_zero, if_true, List.getElem_cons_zero]
  rw [marksG_congr r _ f (k + 1) fun j _ => if_neg (by omega)]
 | a :: r, f, k, j + 1, v, h => by
  have := marksG_set r f (k + 1) j v (by simpa using h)
  simp only [marksG, List.set_cons_succ, List.getElem_cons_succ, if_neg (by omega : ¬ k = k + (j + 1))]
  rw [show k + (j + 1) = k + 1 + j from by omega, this]
structure HN (F : List Ent) (L : List MR) (f : Nat → Nat) : Prop where
 perm : (L.map (·.mark)).Perm (marksG F f 0)
 ids : (F.map fun e => (e.op.c, e.op.n)).Nodup
theorem HN.nodup {F : List Ent} {L : List MR} {f : Nat → Nat} (h : HN F L f) : (L.map fun x => (x.mark.c, x.mark.n)).Nodup := by
 have h1 : (L.map fun x => (x.mark.c, x.mark.n)) = (L.map (·.mark)).map fun x => (x.c, x.n) := by simp [List.map_map, Function.comp_def]
 rw [h1, (h.perm.map _).nodup_iff, marksG_ids]
 exact h.ids
theorem HN.look {F : List Ent} {L : List MR} {f : Nat → Nat} (h : HN F L f) {k : Nat} (hk : k < F.length) : ∃ (j : Nat) (x : MR), L[j]? = some x ∧ x.mark = markAt (f k) F[k] ∧ mGet (keys L) F[k].op.c F[k].op.n = some x.b := by
 have h1 := marksG_get F f 0 k _ (List.getElem?_eq_getElem hk)
 have h2 := (h.perm.mem_iff).2 (List.mem_of_getElem? h1)
 obtain ⟨x, hx, hm⟩ := List.mem_map.1 h2
 obtain ⟨j, hj, rfl⟩ := List.mem_iff_getElem.1 hx
 rw [Nat.zero_add] at hm
 refine ⟨j, L[j], List.getElem?_eq_getElem hj, hm, ?_⟩
 have := mGet_of h.nodup hx
 rw [hm] at this
 exact this
theorem HN.upd {F : List Ent} {L : List MR} {f : Nat → Nat} (h : HN F L f) {k j : Nat} (hk : k < F.length) {x : MR} (hj : L[j]? = some x) (hm : x.mark = markAt (f k) F[k]) : HN F (L.set j ⟨markAt k F[k], x.b, x.A, x.cap⟩) (fun q => if q = k then k else f q) := by
 refine ⟨?_, h.ids⟩
 have e := marksG_set F f 0 k k hk
 simp only [Nat.zero_add] at e
 rw [List.map_set, e]
 refine set_perm h.perm (a := markAt (f k) F[k]) ?_ ?_ _
 ·rw [List.getElem?_map, hj]; simp [hm]
 ·have := marksG_get F f 0 k _ (List.getElem?_eq_getElem hk)
  rwa [Nat.zero_add] at this
/-- The numbers, when those below k are right. -/
def numF (i k j : Nat) : Nat := if j < k then j else if j ≤ i then j else j - 1
theorem HN.next {F : List Ent} {L : List MR} {i k : Nat} (h : HN F L (fun q => if q = k then k else numF i k q)) : HN F L (numF i (k + 1)) := by
 refine ⟨?_, h.ids⟩
 rw [marksG_congr F (numF i (k + 1)) (fun q => if q = k then k else numF i k q) 0 fun j _ => ?_]
 ·exact h.perm
 ·simp only [Nat.zero_add, numF]
  by_cases e : j = k
  ·subst e; simp
  ·rw [if_neg e]
   by_cases e2 : j < k
   ·rw [if_pos e2, if_pos (by omega)]
   ·rw [if_neg e2, if_neg (by omega)]
theorem marksG_zipE : ∀ (xs : List GOp) (es : List Ent) (f g : Nat → Nat) (k k' : Nat), Sames (es.map (·.op)) xs → (∀ j, j < es.length → f (k + j) = g (k' + j)) → marksG (zipE xs es) f k = marksG es g k'
 | [], [], _, _, _, _, _, _ => rfl
 | x :: xs, e :: es, f, g, k, k', h, hf => by
  cases h with
  | cons h hr =>
   have h0 := hf 0 (by simp)
   simp only [Nat.add_zero] at h0
   simp only [zipE, marksG, markAt, h0, h.c, h.n]
   congr 1
   exact marksG_zipE xs es f g (k + 1) (k' + 1) hr fun j hj => by
    have := hf (j + 1) (by simpa using hj)
    rw [show k + 1 + j = k + (j + 1) from by omega, show k' + 1 + j = k' + (j + 1) from by omega]; exact this
 | [], e :: es, _, _, _, _, h, _ => by cases h
 | x :: xs, [], _, _, _, _, h, _ => by cases h
theorem ids_zipE : ∀ (xs : List GOp) (es : List Ent), Sames (es.map (·.op)) xs → (zipE xs es).map (fun e => (e.op.c, e.op.n)) = es.map fun e => (e.op.c, e.op.n)
 | [], [], _ => rfl
 | x :: xs, e :: es, h => by
  cases h with
  | cons h hr => simp [zipE, h.c, h.n, ids_zipE xs es hr]
 | [], e :: es, h => by cases h
 | x :: xs, [], h => by cases h
theorem HN.start {es : List Ent} {L : List MR} {t : Int} (h : HR ⟨es, t⟩ L) {i : Nat} (hi : i ≤ es.length) {o : GOp} {nw : List Rg} {later : List GOp} (hs : Sames ((es.drop i).map (·.op)) later) (hn : whereId es o.c o.n = none) (b : Nat) (A : Option Addr) (c : Nat) :
  HN (newEnts i o nw es later) (L ++ [⟨markAt i ⟨o, nw, false⟩, b, A, c⟩]) (numF i i) := by
 have hlen : (es.take i).length = i := by rw [List.length_take]; omega
 constructor
 ·unfold newEnts
  rw [marksG_append, hlen, List.map_append, Nat.zero_add]
  simp only [marksG, List.map_cons, List.map_nil]
  have e1 : marksG (es.take i) (numF i i) 0 = marksG (es.take i) (fun j => j) 0 := marksG_congr _ _ _ _ fun j hj => by rw [hlen] at hj; simp only [Nat.zero_add, numF, if_pos hj]
  have e2 : marksG (zipE later (es.drop i)) (numF i i) (i + 1) = marksG (es.drop i) (fun j => j) i := marksG_zipE _ _ _ _ _ _ hs fun j hj => by
   simp only [numF]; rw [if_neg (by omega), if_neg (by omega)]; omega
  have e3 : marksFrom es 0 = marksG (es.take i) (fun j => j) 0 ++ marksG (es.drop i) (fun j => j) i := by
   rw [← marksG_id]
   conv => lhs; rw [← List.take_append_drop i es]
   rw [marksG_append, hlen, Nat.zero_add]
  have e4 : numF i i i = i := by simp [numF]
  rw [e1, e2, e4]
  have p1 := h.perm
  simp only at p1
  rw [e3] at p1
  refine (p1.append_right _).trans ?_
  rw [List.append_assoc]
  refine List.Perm.append_left _ ?_
  exact List.perm_append_comm
 ·have h1 := h.ids
  simp only at h1
  unfold newEnts
  rw [List.map_append, List.map_cons, ids_zipE _ _ hs]
  have e : (es.map fun e => (e.op.c, e.op.n)) = ((es.take i).map fun e => (e.op.c, e.op.n)) ++ ((es.drop i).map fun e => (e.op.c, e.op.n)) := by rw [← List.map_append, List.take_append_drop]
  have hnot : (o.c, o.n) ∉ es.map fun e => (e.op.c, e.op.n) := fun hm => by
   obtain ⟨x, hx, hh⟩ := List.mem_map.1 hm
   simp only [Prod.mk.injEq] at hh
   exact whereId_none hn x hx hh
  have p : (((es.take i).map fun e => (e.op.c, e.op.n)) ++ (o.c, o.n) :: ((es.drop i).map fun e => (e.op.c, e.op.n))).Perm ((o.c, o.n) :: es.map fun e => (e.op.c, e.op.n)) := by
   rw [e]; exact List.perm_middle
  exact p.nodup_iff.2 (List.nodup_cons.2 ⟨hnot, h1⟩)
theorem HN.done {F : List Ent} {L : List MR} {i k : Nat} (h : HN F L (numF i k)) (hk : ¬ k < F.length) : (L.map (·.mark)).Perm (marksFrom F 0) := by
 have := h.perm
 rw [marksG_congr F (numF i k) (fun j => j) 0 fun j hj => by simp only [Nat.zero_add, numF]; rw [if_pos (by omega)], marksG_id] at this
 exact this
/-! ### Words for Put's walk -/
def rsl : De (List Rg) := De.sl rgD
theorem rsl_open (u : List Rg) : ∀ Z w cs, rsl.rep Z w u cs → ∃ y : Option Addr × Nat, cs = [.slice y.1 u.length y.2] ∧ ∀ B ∈ [RdF rgD y.1 y.2 u], B.holds Z w := fun _ _ _ h => by
 obtain ⟨A, c, h1, h2⟩ := h
 exact ⟨(A, c), h1, fun B hB => by simp only [List.mem_singleton] at hB; subst hB; exact h2⟩
theorem crossOne {o : GOp} {ys : List GOp} (h : (crossF [o] ys).2.2 = 0) : ∃ t, (crossF [o] ys).1 = [t] ∧ Same o t := by
 have h1 := (crossF_same h).1
 generalize (crossF [o] ys).1 = q at h1
 cases h1 with
 | cons h hr => cases hr; exact ⟨_, rfl, h⟩
theorem fits_0 {H : Hist} {i : Int} {o : GOp} (h : fitsF H i o = 0) : 0 ≤ i ∧ i ≤ H.ents.length ∧ whereId H.ents o.c o.n = none ∧ H.total + widthF o ≤ 1048576 ∧ o.kind ≠ 3 ∧ 1 ≤ o.kind ∧ o.kind ≤ 4 ∧ checkF o (beforeF H i.toNat) = 0 ∧ (o.kind = 4 → ∃ k, whereId H.ents o.tc o.tn = some k) := by
 unfold fitsF at h
 split at h
 ·cases h
 ·rename_i h1
  split at h
  ·rename_i h2; exact absurd h h2
  ·rename_i h2
   split at h
   ·cases h
   ·rename_i h3
    split at h
    ·cases h
    ·split at h
     ·cases h
     ·rename_i h5
      have hck : checkF o (beforeF H i.toNat) = 0 := by simpa using h2
      have hkind : 1 ≤ o.kind ∧ o.kind ≤ 4 := by
       have hc := hck
       unfold checkF at hc
       split at hc
       ·cases hc
       ·split at hc
        ·cases hc
        ·omega
      have hw : whereId H.ents o.c o.n = none := by
       cases hq : whereId H.ents o.c o.n with
       | none => rfl
       | some k => rw [hq] at h5; simp at h5
      have hrest : ∀ {x : Int}, fitsRest H o = 0 → H.total + widthF o ≤ 1048576 := fun h => by
       unfold fitsRest at h
       split at h
       ·cases h
       ·omega
      split at h
      ·rename_i h6
       unfold fitsT at h
       cases hq : whereId H.ents o.tc o.tn with
       | none => rw [hq] at h; cases h
       | some k =>
        rw [hq] at h
        simp only at h
        split at h
        ·cases h
        ·cases hq2 : H.ents[k]? with
         | none => rw [hq2] at h; cases h
         | some e =>
          rw [hq2] at h
          simp only at h
          split at h
          ·cases h
          ·exact ⟨by omega, by omega, hw, hrest (x := 0) h, h3, hkind.1, hkind.2, hck, fun _ => ⟨k, rfl⟩⟩
      ·rename_i h6
       exact ⟨by omega, by omega, hw, hrest (x := 0) h, h3, hkind.1, hkind.2, hck, fun hh => absurd hh h6⟩
theorem check_wid {o : GOp} {t : Int} (h : checkF o t = 0) : widthF o ≤ 256 := by
 unfold checkF at h
 split at h
 ·cases h
 ·split at h
  ·cases h
  ·split at h
   ·cases h
   ·split at h
    ·cases h
    ·split at h
     ·rename_i hk
      unfold insF at h
      split at h
      ·rename_i h1; exact absurd h h1
      ·split at h
       ·cases h
       ·split at h
        ·cases h
        ·unfold widthF; rw [if_pos hk]; omega
     ·rename_i hk
      unfold widthF; rw [if_neg hk]; omega
theorem newEnts_ops {i : Nat} {o : GOp} {nw : List Rg} {es : List Ent} {later : List GOp} (h : Sames ((es.drop i).map (·.op)) later) : (newEnts i o nw es later).map (·.op) = (es.map (·.op)).take i ++ ([o] ++ later) := by
 unfold newEnts
 have hl : later.length = (es.drop i).length := by rw [h.length]; simp
 rw [List.map_append, List.map_cons, zipE_ops _ _ hl, List.map_take]; rfl
theorem newEnts_mem {i : Nat} {o : GOp} {nw : List Rg} {es : List Ent} {later : List GOp} {e : Ent} (h : Sames ((es.drop i).map (·.op)) later) (he : e ∈ newEnts i o nw es later) : e ∈ es ∨ e = ⟨o, nw, false⟩ ∨ ∃ x ∈ es, ∃ y ∈ later, Same x.op y ∧ e = ⟨y, x.now, x.off⟩ := by
 unfold newEnts at he
 rcases List.mem_append.1 he with he | he
 ·exact .inl (List.mem_of_mem_take he)
 ·rcases List.mem_cons.1 he with rfl | he
  ·exact .inr (.inl rfl)
  ·right; right
   have key : ∀ (xs : List GOp) (l : List Ent), Sames (l.map (·.op)) xs → e ∈ zipE xs l → ∃ x ∈ l, ∃ y ∈ xs, Same x.op y ∧ e = ⟨y, x.now, x.off⟩ := by
    intro xs
    induction xs with
    | nil => intro l _ he; cases l <;> simp [zipE] at he
    | cons y xs ih =>
     intro l hs he
     cases l with
     | nil => simp [zipE] at he
     | cons x l =>
      cases hs with
      | cons h1 h2 =>
       unfold zipE at he
       rcases List.mem_cons.1 he with rfl | he
       ·exact ⟨x, List.mem_cons_self, y, List.mem_cons_self, h1, rfl⟩
       ·obtain ⟨x', hx, y', hy, hh⟩ := ih l h2 he
        exact ⟨x', List.mem_cons_of_mem _ hx, y', List.mem_cons_of_mem _ hy, hh⟩
   obtain ⟨x, hx, y, hy, hh⟩ := key later _ h he
   exact ⟨x, List.mem_of_mem_drop hx, y, hy, hh⟩
theorem newEnts_length {i : Nat} {o : GOp} {nw : List Rg} {es : List Ent} {later : List GOp} (h : Sames ((es.drop i).map (·.op)) later) (hi : i ≤ es.length) : (newEnts i o nw es later).length = es.length + 1 := by
 unfold newEnts
 have hl : later.length = (es.drop i).length := by rw [h.length]; simp
 rw [List.length_append, List.length_cons, zipE_length _ _ hl, List.length_take, List.length_drop]; omega
/-- What holds where Put's ways meet. -/
structure MidI (H : Hist) (i : Nat) (o t : GOp) (L : List MR) (es : List Ent) (L1 : List MR) (nw : List Rg) (eff : GOp) : Prop where
 hr : HR ⟨es, H.total⟩ L1
 keys : keys L1 = keys L
 mid : midF H i o t = .ok ⟨es, nw, eff⟩
 ops : es.map (·.op) = H.ops
 now : nw.length ≤ 4398046511104
def PuP (H : Hist) (i : Int) (o : GOp) (h m : Nat) (cap : Nat) (A : Option Addr) (L : List MR) : Value → List Part → List Fact → Prop := fun v Lo fs =>
 ∃ (L' : List MR) (A' : Option Addr) (cap' : Nat) (Ae : Option Addr) (ce : Nat), HR (putF H i o).1 L' ∧ v = .tuple #[opV (putF H i o).2.1 Ae ce, .int .i64 (putF H i o).2.2] ∧
  Lo = [hdP h A' (putF H i o).1.ops.length cap' m (putF H i o).1.total, mpP m L', mkP L'] ∧ fs = [RdF rgD Ae ce (putF H i o).2.1.rs, RdF opD A' cap' (putF H i o).1.ops, AllF L' nowF]
theorem put_1 {H : Hist} {i : Int} {o : GOp} (h : fitsF H i o ≠ 0) : putF H i o = (H, zeroOp, fitsF H i o) := by unfold putF; rw [if_pos h]
theorem put_2 {H : Hist} {i : Int} {o : GOp} (h : fitsF H i o = 0) (h2 : (crossF [o] (H.ops.drop i.toNat)).2.2 ≠ 0) : putF H i o = (H, zeroOp, (crossF [o] (H.ops.drop i.toNat)).2.2) := by unfold putF; rw [if_neg (by simpa using h), if_pos h2]
theorem put_3 {H : Hist} {i : Int} {o t : GOp} {e : Int} (h : fitsF H i o = 0) (h2 : (crossF [o] (H.ops.drop i.toNat)).2.2 = 0) (ht : (crossF [o] (H.ops.drop i.toNat)).1 = [t]) (h3 : midF H i.toNat o t = .error e) : putF H i o = (H, zeroOp, e) := by
 unfold putF; rw [if_neg (by simpa using h), if_neg (by simpa using h2), ht]; simp only [List.headD_cons, h3]
theorem put_4 {H : Hist} {i : Int} {o t : GOp} {es : List Ent} {nw : List Rg} {eff : GOp} (h : fitsF H i o = 0) (h2 : (crossF [o] (H.ops.drop i.toNat)).2.2 = 0) (ht : (crossF [o] (H.ops.drop i.toNat)).1 = [t]) (h3 : midF H i.toNat o t = .ok ⟨es, nw, eff⟩) : putF H i o = (⟨newEnts i.toNat o nw es (crossF [o] (H.ops.drop i.toNat)).2.1, H.total + widthF o⟩, eff, 0) := by
 unfold putF; rw [if_neg (by simpa using h), if_neg (by simpa using h2), ht]; simp only [List.headD_cons, h3]
theorem movedAll_ne : ∀ {es : List Ent} {at_ n : Int} {e : Int}, movedAll es at_ n = .error e → e ≠ 0
 | [], _, _, e, h => by cases h
 | x :: es, at_, n, e, h => by
  unfold movedAll at h
  split at h
  ·rename_i h1; cases h; exact h1
  ·cases hq : movedAll es at_ n with
   | error y => rw [hq] at h; cases h; exact movedAll_ne hq
   | ok l => rw [hq] at h; cases h
theorem MidI.len {H : Hist} {i : Nat} {o t : GOp} {L L1 : List MR} {es : List Ent} {nw : List Rg} {eff : GOp} (M : MidI H i o t L es L1 nw eff) : es.length = H.ents.length := by
 have := congrArg List.length M.ops
 simpa [Hist.ops] using this
theorem HR.put {H : Hist} {i k : Nat} {o t : GOp} {L L1 Lk : List MR} {es : List Ent} {nw : List Rg} {eff : GOp} {later : List GOp} (M : MidI H i o t L es L1 nw eff) (hsl : Sames ((es.drop i).map (·.op)) later) (hfl : ∀ y ∈ later, Fit y) (ho : Fit o) (hw : widthF o ≤ 256) (hlt : H.ents.length < 1000000)
  (ht : H.total + widthF o ≤ 1048576) (hi : i ≤ H.ents.length) (hn : HN (newEnts i o nw es later) Lk (numF i k)) (hk : ¬ k < (newEnts i o nw es later).length) : HR ⟨newEnts i o nw es later, H.total + widthF o⟩ Lk := by
 have hl := M.len
 refine ⟨hn.done hk, hn.ids, ?_, ?_, ?_, ?_, ?_⟩
 ·intro e he
  rcases newEnts_mem hsl he with he | rfl | ⟨x, hx, y, hy, hs, rfl⟩
  ·exact M.hr.fit e he
  ·exact ho
  ·exact hfl y hy
 ·intro e he
  rcases newEnts_mem hsl he with he | rfl | ⟨x, hx, y, hy, hs, rfl⟩
  ·exact M.hr.wid e he
  ·exact hw
  ·show widthF y ≤ 256
   rw [hs.width]; exact M.hr.wid x hx
 ·intro e he
  rcases newEnts_mem hsl he with he | rfl | ⟨x, hx, y, hy, hs, rfl⟩
  ·exact M.hr.now e he
  ·exact M.now
  ·exact M.hr.now x hx
 ·show (newEnts i o nw es later).length ≤ 1000000
  rw [newEnts_length hsl (by omega)]; omega
 ·have := M.hr.tot
  have := widthF_le o
  show 0 ≤ H.total + widthF o ∧ H.total + widthF o ≤ 1048576
  simp only at *
  omega
end Go.Proofs.YtcjbjkbghgjmdaaGreatDoor
/- Operations that are right in a context of w cells; one carried over others: no error comes up, and all are right again. -/
namespace Go.Proofs.YtcjbjkbghgjmdaaGreatDoor
open Go Go.GW
/-- What Check asks of any operation, whatever the context. -/
def headF (o : GOp) : Prop := ¬ (o.kind < 1 ∨ o.kind > 4) ∧ ¬ ((o.c ≠ 0 ∨ o.n ≠ 0) ∧ rightF o.c o.n = false) ∧ ¬ extraF o = true
theorem check_ins {o : GOp} {w : Int} (hk : o.kind = 1) (hw : 0 ≤ w ∧ w ≤ 1048576) : checkF o w = 0 ↔ headF o ∧ insF o w = 0 := by
 unfold checkF headF
 rw [if_neg (by omega)]
 by_cases h1 : o.kind < 1 ∨ o.kind > 4
 ·omega
 ·by_cases h2 : (o.c ≠ 0 ∨ o.n ≠ 0) ∧ rightF o.c o.n = false
  ·rw [if_neg h1, if_pos h2]; exact ⟨fun h => (by cases h), fun h => absurd h2 h.1.2.1⟩
  ·by_cases h3 : extraF o = true
   ·rw [if_neg h1, if_neg h2, if_pos h3]; exact ⟨fun h => (by cases h), fun h => absurd h3 h.1.2.2⟩
   ·rw [if_neg h1, if_neg h2, if_neg h3, if_pos hk]; exact ⟨fun h => ⟨⟨h1, h2, h3⟩, h⟩, fun h => h.2⟩
theorem check_cov {o : GOp} {w : Int} (hk : o.kind = 2 ∨ o.kind = 3) (hw : 0 ≤ w ∧ w ≤ 1048576) : checkF o w = 0 ↔ headF o ∧ rangesF o.rs w = 0 := by
 unfold checkF headF
 rw [if_neg (by omega)]
 by_cases h1 : o.kind < 1 ∨ o.kind > 4
 ·omega
 ·by_cases h2 : (o.c ≠ 0 ∨ o.n ≠ 0) ∧ rightF o.c o.n = false
  ·rw [if_neg h1, if_pos h2]; exact ⟨fun h => (by cases h), fun h => absurd h2 h.1.2.1⟩
  ·by_cases h3 : extraF o = true
   ·rw [if_neg h1, if_neg h2, if_pos h3]; exact ⟨fun h => (by cases h), fun h => absurd h3 h.1.2.2⟩
   ·rw [if_neg h1, if_neg h2, if_neg h3, if_neg (by omega), if_neg (by omega)]; exact ⟨fun h => ⟨⟨h1, h2, h3⟩, h⟩, fun h => h.2⟩
theorem check_st {o : GOp} {w : Int} (hk : o.kind = 4) (hw : 0 ≤ w ∧ w ≤ 1048576) : checkF o w = 0 ↔ headF o ∧ rightF o.tc o.tn = true ∧ ¬ (o.tc = o.c ∧ o.tn = o.n) := by
 unfold checkF headF
 rw [if_neg (by omega)]
 by_cases h1 : o.kind < 1 ∨ o.kind > 4
 ·omega
 ·by_cases h2 : (o.c ≠ 0 ∨ o.n ≠ 0) ∧ rightF o.c o.n = false
  ·rw [if_neg h1, if_pos h2]; exact ⟨fun h => (by cases h), fun h => absurd h2 h.1.2.1⟩
  ·by_cases h3 : extraF o = true
   ·rw [if_neg h1, if_neg h2, if_pos h3]; exact ⟨fun h => (by cases h), fun h => absurd h3 h.1.2.2⟩
   ·rw [if_neg h1, if_neg h2, if_neg h3, if_neg (by omega), if_pos hk]
    by_cases h4 : rightF o.tc o.tn = false ∨ (o.tc = o.c ∧ o.tn = o.n)
    ·rw [if_pos h4]
     refine ⟨fun h => (by cases h), fun h => ?_⟩
     rcases h4 with h4 | h4
     ·rw [h4] at h; cases h.2.1
     ·exact absurd h4 h.2.2
    ·rw [if_neg h4]
     refine ⟨fun _ => ⟨⟨h1, h2, h3⟩, ?_, fun h => h4 (.inr h)⟩, fun _ => rfl⟩
     cases hq : rightF o.tc o.tn with
     | true => rfl
     | false => exact absurd (.inl hq) h4
theorem insF_ok {o : GOp} {w : Int} : insF o w = 0 ↔ (utF o.text).2.2 = 0 ∧ (1 ≤ (utF o.text).1 ∧ (utF o.text).1 ≤ 256) ∧ (0 ≤ o.at_ ∧ o.at_ ≤ w) ∧ w + (utF o.text).1 ≤ 1048576 := by
 have h0 := utF_n o.text
 unfold insF
 split
 ·rename_i h; exact ⟨fun h' => absurd h' h, fun h' => absurd h'.1 h⟩
 ·rename_i h
  split
  ·exact ⟨fun h => (by cases h), fun h => (by omega)⟩
  ·split
   ·exact ⟨fun h => (by cases h), fun h => (by omega)⟩
   ·split
    ·exact ⟨fun h => (by cases h), fun h => (by omega)⟩
    ·split
     ·exact ⟨fun h => (by cases h), fun h => (by omega)⟩
     ·exact ⟨fun _ => ⟨by simpa using h, by omega, by omega, by omega⟩, fun _ => rfl⟩
theorem norm_hi : ∀ {b : Int} {xs : List Rg} {r : Rg}, NormB b xs → xs.getLast? = some r → BelowR r.hi xs
 | b, [], r, _, h => by cases h
 | b, [x], r, h, hl => by
  simp at hl; subst hl
  intro y hy; simp only [List.mem_singleton] at hy; subst hy; exact Int.le_refl _
 | b, x :: y :: xs, r, h, hl => by
  have h2 : (y :: xs).getLast? = some r := by simpa [List.getLast?_cons_cons] using hl
  have ih := norm_hi h.2.2 h2
  intro z hz
  rcases List.mem_cons.1 hz with rfl | hz
  ·have h3 := h.2.2.1
   have h4 := h.2.2.2.1
   have := ih y List.mem_cons_self
   omega
  ·exact ih z hz
theorem rangesF_ok {xs : List Rg} {w : Int} (hw : 0 ≤ w ∧ w ≤ 65535) : rangesF xs w = 0 ↔ xs ≠ [] ∧ Pls w xs := by
 unfold rangesF
 cases hl : xs.getLast? with
 | none =>
  simp only
  have : xs = [] := List.getLast?_eq_none_iff.1 hl
  exact ⟨fun h => (by cases h), fun h => absurd this h.1⟩
 | some r =>
  simp only
  have hne : xs ≠ [] := fun e => by rw [e] at hl; cases hl
  split
  ·rename_i h
   refine ⟨fun h' => absurd h' h, fun h' => ?_⟩
   exact absurd (h'.2.ck hw) h
  ·rename_i h
   have h' : (ckF xs).2 = 0 := by simpa using h
   obtain ⟨g1, g2, g3⟩ := ckF_norm.1 h'
   split
   ·refine ⟨fun h => (by cases h), fun h2 => ?_⟩
    have := h2.2.below r (List.mem_of_getLast? hl)
    omega
   ·exact ⟨fun _ => ⟨hne, g2, (norm_hi g2 hl).mono (by omega)⟩, fun _ => rfl⟩
/-- Right in the context of w cells. -/
structure Right (w : Int) (o : GOp) : Prop where
 ck : checkF o w = 0
 kind : o.kind = 1 ∨ o.kind = 2 ∨ o.kind = 4
theorem Right.head {w : Int} {o : GOp} (h : Right w o) (hw : 0 ≤ w ∧ w ≤ 1048576) : headF o := by
 rcases h.kind with hk | hk | hk
 ·exact ((check_ins hk hw).1 h.ck).1
 ·exact ((check_cov (.inl hk) hw).1 h.ck).1
 ·exact ((check_st hk hw).1 h.ck).1
theorem Right.w0 {w : Int} {o : GOp} (h : Right w o) : 0 ≤ w ∧ w ≤ 1048576 := by
 have := h.ck
 unfold checkF at this
 split at this
 ·cases this
 ·omega
theorem Right.width {w : Int} {o : GOp} (h : Right w o) : 0 ≤ widthF o ∧ widthF o ≤ 256 ∧ (o.kind = 1 → 1 ≤ widthF o ∧ widthF o = (utF o.text).1) ∧ (o.kind ≠ 1 → widthF o = 0) := by
 have h1 := check_wid h.ck
 have h2 := widthF_le o
 refine ⟨h2.1, h1, fun hk => ?_, fun hk => by unfold widthF; rw [if_neg hk]⟩
 have h3 := insF_ok.1 ((check_ins hk h.w0).1 h.ck).2
 unfold widthF
 rw [if_pos hk]; omega
theorem Right.ins {w : Int} {o : GOp} (h : Right w o) (hk : o.kind = 1) : 0 ≤ o.at_ ∧ o.at_ ≤ w ∧ w + widthF o ≤ 1048576 := by
 have h3 := insF_ok.1 ((check_ins hk h.w0).1 h.ck).2
 have h4 := (h.width.2.2.1 hk).2
 omega
theorem Right.cov {w : Int} {o : GOp} (h : Right w o) (hk : o.kind = 2) (hw : w ≤ 65535) : o.rs ≠ [] ∧ Pls w o.rs :=
 (rangesF_ok ⟨h.w0.1, hw⟩).1 ((check_cov (.inl hk) h.w0).1 h.ck).2
theorem Right.noRs {w : Int} {o : GOp} (h : Right w o) (hk : o.kind ≠ 2) : o.rs = [] := by
 have hh := (h.head h.w0).2.2
 unfold extraF at hh
 have h3 : o.kind ≠ 3 := by have := h.kind; omega
 cases hr : o.rs with
 | nil => rfl
 | cons r rs =>
  exfalso; apply hh
  simp [hr, hk, h3]
/-- .. at another place; with other ranges. -/
theorem Right.moved {w w' a : Int} {o : GOp} (h : Right w o) (hk : o.kind = 1) (ha : 0 ≤ a ∧ a ≤ w') (hw : w' + widthF o ≤ 1048576) : Right w' { o with at_ := a, rs := [] } := by
 have h0 := h.width
 have h1 := (check_ins hk h.w0).1 h.ck
 have h2 := insF_ok.1 h1.2
 have h4 := (h.width.2.2.1 hk).2
 refine ⟨(check_ins (o := { o with at_ := a, rs := [] }) hk (by omega)).2 ⟨?_, insF_ok.2 ⟨h2.1, h2.2.1, ha, by show w' + (utF o.text).1 ≤ _; omega⟩⟩, .inl hk⟩
 obtain ⟨g1, g2, g3⟩ := h1.1
 refine ⟨g1, g2, fun h5 => g3 ?_⟩
 unfold extraF at h5 ⊢
 simp only [hk] at h5 ⊢
 simp at h5 ⊢
 exact .inr h5
theorem Right.ranged {w w' : Int} {o : GOp} {l : List Rg} (h : Right w o) (hk : o.kind = 2) (hl : l ≠ []) (hp : Pls w' l) (hw : 0 ≤ w' ∧ w' ≤ 65535) : Right w' { o with rs := l } := by
 have h1 := (check_cov (.inl hk) h.w0).1 h.ck
 refine ⟨(check_cov (o := { o with rs := l }) (.inl hk) (by omega)).2 ⟨?_, (rangesF_ok hw).2 ⟨hl, hp⟩⟩, .inr (.inl hk)⟩
 obtain ⟨g1, g2, g3⟩ := h1.1
 refine ⟨g1, g2, fun h5 => g3 ?_⟩
 unfold extraF at h5 ⊢
 simp only [hk] at h5 ⊢
 simpa using h5
theorem Right.wider {w w' : Int} {o : GOp} (h : Right w o) (hw : w ≤ w') (hw' : w' + widthF o ≤ 65535) : Right w' o := by
 have h0 := h.w0
 have h9 := h.width
 refine ⟨?_, h.kind⟩
 rcases h.kind with hk | hk | hk
 ·have h1 := (check_ins hk h0).1 h.ck
  have h2 := insF_ok.1 h1.2
  have h4 := (h.width.2.2.1 hk).2
  exact (check_ins hk (by omega)).2 ⟨h1.1, insF_ok.2 ⟨h2.1, h2.2.1, by omega, by omega⟩⟩
 ·have h1 := h.cov hk (by omega)
  have h2 := (check_cov (.inl hk) h0).1 h.ck
  exact (check_cov (.inl hk) (by omega)).2 ⟨h2.1, (rangesF_ok (by omega)).2 ⟨h1.1, h1.2.norm, h1.2.below.mono hw⟩⟩
 ·have h1 := (check_st hk h0).1 h.ck
  exact (check_st hk (by omega)).2 h1
theorem Right.own {w : Int} {o : GOp} (h : Right w o) (hw : w ≤ 65535) : ownF o = 0 := by
 have h0 := h.w0
 unfold ownF
 rcases h.kind with hk | hk | hk
 ·have h1 := (check_ins hk h0).1 h.ck
  have h2 := insF_ok.1 h1.2
  rw [if_pos (by omega)]
  exact (check_ins hk (by omega)).2 ⟨h1.1, insF_ok.2 ⟨h2.1, h2.2.1, by omega, by omega⟩⟩
 ·have h1 := h.cov hk hw
  have h2 := (check_cov (.inl hk) h0).1 h.ck
  rw [if_neg (by omega)]
  refine (check_cov (.inl hk) (by omega)).2 ⟨h2.1, ?_⟩
  unfold rangesF
  cases hl : o.rs.getLast? with
  | none => exact absurd (List.getLast?_eq_none_iff.1 hl) h1.1
  | some r =>
   simp only
   rw [if_neg (by rw [h1.2.ck (by omega)]; simp), if_neg (by have := h1.2.below r (List.mem_of_getLast? hl); omega)]
 ·have h1 := (check_st hk h0).1 h.ck
  rw [if_neg (by omega)]
  exact (check_st hk (by omega)).2 h1
/-- One carried over one. -/
theorem include_ok {w : Int} {a b : GOp} (e : Bool) (ha : Right w a) (hb : Right w b) (hc : ¬ clashF a b) (hw : w + widthF a + widthF b ≤ 65535) :
  (includeF a b e).2 = 0 ∧ Right (w + widthF b) (includeF a b e).1 := by
 have h0 := ha.w0
 have hwa := ha.width
 have hwb := hb.width
 unfold includeF
 rw [if_neg hc]
 split
 ·rename_i hk
  rw [hwb.2.2.2 hk, Int.add_zero]
  exact ⟨rfl, ha⟩
 ·rename_i hk
  have hk' : b.kind = 1 := by simpa using hk
  have hbi := hb.ins hk'
  split
  ·rename_i hka
   have hai := ha.ins hka
   split
   ·unfold movedF
    rw [if_neg (by omega)]
    exact ⟨rfl, ha.moved hka (by omega) (by omega)⟩
   ·exact ⟨rfl, ha.wider (by omega) (by omega)⟩
  ·rename_i hka
   split
   ·rename_i hk2
    have hk3 : a.kind = 2 := by have := ha.kind; omega
    obtain ⟨g1, g2⟩ := ha.cov hk3 (by omega)
    obtain ⟨t1, t2, t3, t4⟩ := thr_ok g2 h0.1 ⟨hbi.1, hbi.2.1⟩ hwb.1 (by omega)
    unfold rangedF
    rw [if_neg (by rw [t1]; simp)]
    exact ⟨rfl, ha.ranged hk3 (fun h => g1 (t4.2 h)) t2 (by omega)⟩
   ·exact ⟨rfl, ha.wider (by omega) (by omega)⟩
/-- Operations one behind the other, each in the context of those ahead of it. -/
def CtxOk : Int → List GOp → Prop
 | _, [] => True
 | w, o :: r => Right w o ∧ CtxOk (w + widthF o) r
def sumO : List GOp → Int
 | [] => 0
 | o :: r => widthF o + sumO r
theorem sumO_append : ∀ (a b : List GOp), sumO (a ++ b) = sumO a + sumO b
 | [], b => by simp [sumO]
 | o :: a, b => by simp [sumO, sumO_append a b]; omega
theorem CtxOk.append : ∀ {w : Int} {a b : List GOp}, CtxOk w (a ++ b) ↔ CtxOk w a ∧ CtxOk (w + sumO a) b
 | w, [], b => by simp [CtxOk, sumO]
 | w, o :: a, b => by
  simp only [List.cons_append, CtxOk, sumO, CtxOk.append (a := a), and_assoc]
  rw [show w + (widthF o + sumO a) = w + widthF o + sumO a from by omega]
theorem sumO_nonneg : ∀ {w : Int} {l : List GOp}, CtxOk w l → 0 ≤ sumO l
 | _, [], _ => by simp [sumO]
 | w, o :: r, h => by have := sumO_nonneg h.2; have := h.1.width; simp only [sumO]; omega
theorem CtxOk.owns : ∀ {w : Int} {l : List GOp}, CtxOk w l → w + sumO l ≤ 65535 → ownsF l = 0
 | _, [], _, _ => rfl
 | w, o :: r, h, hw => by
  have h1 := sumO_nonneg h.2
  have h2 := h.1.width
  simp only [sumO] at hw
  unfold ownsF
  rw [if_neg (by rw [h.1.own (by omega)]; simp)]
  exact h.2.owns (by omega)
theorem Sames.sumO {a b : List GOp} (h : Sames a b) : Proofs.YtcjbjkbghgjmdaaGreatDoor.sumO b = Proofs.YtcjbjkbghgjmdaaGreatDoor.sumO a := by
 induction h with
 | nil => rfl
 | cons h _ ih => simp only [Proofs.YtcjbjkbghgjmdaaGreatDoor.sumO, ih, h.width]
/-- One carried over a run: its form behind the run, and the run behind it. -/
def carryF (f : GOp) : List GOp → GOp × List GOp
 | [] => (f, [])
 | l :: ls => ((carryF (includeF f l false).1 ls).1, (includeF l f true).1 :: (carryF (includeF f l false).1 ls).2)
theorem clash_same {a a' b b' : GOp} (ha : Same a a') (hb : Same b b') : clashF a' b' ↔ clashF a b := by
 unfold clashF; rw [ha.c, ha.n, hb.c, hb.n]
theorem clash_comm {a b : GOp} : clashF a b ↔ clashF b a := by
 unfold clashF; constructor <;> (rintro ⟨h1, h2, h3⟩; exact ⟨h1.symm, h2.symm, by rw [← h1, ← h2]; exact h3⟩)
theorem carry_ok : ∀ (ls : List GOp) (f : GOp) (w : Int), Right w f → CtxOk w ls → (∀ l ∈ ls, ¬ clashF f l) → w + sumO ls + widthF f ≤ 65535 →
  crossOut [f] ls = .ok ([(carryF f ls).1], (carryF f ls).2) ∧ Right (w + sumO ls) (carryF f ls).1 ∧ CtxOk (w + widthF f) (carryF f ls).2 ∧ Same f (carryF f ls).1 ∧ Sames ls (carryF f ls).2
 | [], f, w, hf, _, _, _ => ⟨rfl, by simpa [sumO, carryF] using hf, trivial, Same.refl f, .nil⟩
 | l :: ls, f, w, hf, hl, hc, hw => by
  simp only [sumO] at hw
  have h1 := sumO_nonneg hl.2
  have hc1 : ¬ clashF f l := hc l List.mem_cons_self
  have hc2 : ¬ clashF l f := fun h => hc1 (clash_comm.1 h)
  obtain ⟨a1, a2⟩ := include_ok false hf hl.1 hc1 (by omega)
  obtain ⟨b1, b2⟩ := include_ok true hl.1 hf hc2 (by omega)
  have s1 := include_same a1
  have s2 := include_same b1
  obtain ⟨c1, c2, c3, c4, c5⟩ := carry_ok ls (includeF f l false).1 (w + widthF l) a2 hl.2 (fun x hx h => hc x (List.mem_cons_of_mem _ hx) ((clash_same s1 (Same.refl x)).1 h)) (by rw [s1.width]; omega)
  refine ⟨?_, ?_, ?_, s1.trans c4, .cons s2 c5⟩
  ·rw [crossOut_cons, crossIn_ok (by simpa using b1) (by simpa using a1)]
   simp only [crossIn, putIn, restOut, List.cons_append, List.nil_append, c1, carryF]
  ·simp only [sumO, carryF]
   rw [show w + (widthF l + sumO ls) = w + widthF l + sumO ls from by omega]
   exact c2
  ·simp only [carryF, CtxOk]
   refine ⟨b2, ?_⟩
   rw [s2.width, show w + widthF f + widthF l = w + widthF l + widthF (includeF f l false).1 from by rw [s1.width]; omega]
   exact c3
theorem cross_ok {ls : List GOp} {f : GOp} {w : Int} (hf : Right w f) (hl : CtxOk w ls) (hc : ∀ l ∈ ls, ¬ clashF f l) (hw : w + sumO ls + widthF f ≤ 65535) : crossF [f] ls = ([(carryF f ls).1], (carryF f ls).2, 0) := by
 have h1 := sumO_nonneg hl
 have h2 := hf.width
 refine crossF_4 ?_ (hl.owns (by omega)) (carry_ok ls f w hf hl hc hw).1
 unfold ownsF
 rw [if_neg (by rw [hf.own (by omega)]; simp)]; rfl
end Go.Proofs.YtcjbjkbghgjmdaaGreatDoor
/- A history and the row of cells that its effects make: what holds all through; a right command keeps it. -/
namespace Go.Proofs.YtcjbjkbghgjmdaaGreatDoor
open Go Go.GW
/-! ### Rows -/
def runesAt (s : ByteArray) (p : Nat) : List Int :=
 if h : p < s.size then (Utf8.decode s p).1 :: runesAt s (p + (Utf8.decode s p).2) else []
 termination_by s.size - p
 decreasing_by
  have := decode_pos s p
  omega
def runesF (s : ByteArray) : List Int := runesAt s 0
theorem utAt_runes (s : ByteArray) : ∀ (m p k : Nat), s.size - p ≤ m → (utAt s p k).2.2 = 0 → (utAt s p k).1 = k + (runesAt s p).length
 | m, p, k, hm, h => by
  by_cases hp : p < s.size
  ·by_cases h1 : begF s p (Utf8.decode s p).1 = false
   ·rw [utAt_utf8 hp h1] at h; cases h
   ·by_cases h2 : letF (Utf8.decode s p).1 = false
    ·rw [utAt_rune hp h1 h2] at h; cases h
    ·rw [utAt_next hp h1 h2] at h ⊢
     have h3 := decode_pos s p
     cases m with
     | zero => omega
     | succ m =>
      have := utAt_runes s m _ _ (by omega) h
      rw [this]
      conv => rhs; rw [runesAt, dif_pos hp]
      simp only [List.length_cons]; omega
  ·rw [utAt_end hp]
   rw [runesAt, dif_neg hp]; simp
theorem utF_runes {s : ByteArray} (h : (utF s).2.2 = 0) : (utF s).1 = (runesF s).length := by
 have := utAt_runes s s.size 0 0 (by omega) h
 unfold utF runesF; rw [this]; simp
def inRb (q : Int) (xs : List Rg) : Bool := xs.any fun r => decide (r.lo ≤ q) && decide (q < r.hi)
theorem inRb_iff {q : Int} {xs : List Rg} : inRb q xs = true ↔ memR q xs := by
 unfold inRb memR; simp
theorem inRb_false {q : Int} {xs : List Rg} : inRb q xs = false ↔ ¬ memR q xs := by
 rw [← inRb_iff]; simp
def bump1 (g : Rg) (k : Int) (row : List Ce) : List Ce := row.take g.lo.toNat ++ (up k ((row.drop g.lo.toNat).take (g.hi - g.lo).toNat) ++ row.drop g.hi.toNat)
def bumpL (rs : List Rg) (k : Int) (row : List Ce) : List Ce := rs.foldl (fun row g => bump1 g k row) row
theorem bump1_get {g : Rg} {k : Int} {row : List Ce} (h0 : 0 ≤ g.lo) (h1 : g.lo < g.hi) (h2 : g.hi ≤ row.length) (q : Nat) :
  (bump1 g k row)[q]? = row[q]?.map fun c => if g.lo ≤ (q : Int) ∧ (q : Int) < g.hi then (c.1, c.2 + k) else c := by
 have e1 : (row.take g.lo.toNat).length = g.lo.toNat := by rw [List.length_take]; omega
 have e2 : (up k ((row.drop g.lo.toNat).take (g.hi - g.lo).toNat)).length = (g.hi - g.lo).toNat := by rw [up_length, List.length_take, List.length_drop]; omega
 unfold bump1
 by_cases c1 : q < g.lo.toNat
 ·rw [List.getElem?_append_left (by omega), List.getElem?_take, if_pos c1]
  cases row[q]? with
  | none => rfl
  | some c => simp only [Option.map_some]; rw [if_neg (by omega)]
 ·rw [List.getElem?_append_right (by omega), e1]
  by_cases c2 : (q : Int) < g.hi
  ·rw [List.getElem?_append_left (by omega)]
   unfold up
   rw [List.getElem?_map, List.getElem?_take, if_pos (by omega), List.getElem?_drop, show g.lo.toNat + (q - g.lo.toNat) = q from by omega]
   cases row[q]? with
   | none => rfl
   | some c => simp only [Option.map_some]; rw [if_pos (by omega)]
  ·rw [List.getElem?_append_right (by omega), e2, List.getElem?_drop, show g.hi.toNat + (q - g.lo.toNat - (g.hi - g.lo).toNat) = q from by omega]
   cases row[q]? with
   | none => rfl
   | some c => simp only [Option.map_some]; rw [if_neg (by omega)]
theorem bump1_length {g : Rg} {k : Int} {row : List Ce} (h0 : 0 ≤ g.lo) (h1 : g.lo < g.hi) (h2 : g.hi ≤ row.length) : (bump1 g k row).length = row.length := by
 unfold bump1
 simp only [List.length_append, up_length, List.length_take, List.length_drop]; omega
theorem bumpL_get {k : Int} : ∀ (rs : List Rg) (b : Int) (row : List Ce), 0 ≤ b → NormB b rs → BelowR row.length rs → (bumpL rs k row).length = row.length ∧ ∀ q : Nat, (bumpL rs k row)[q]? = row[q]?.map fun c => if inRb q rs = true then (c.1, c.2 + k) else c
 | [], b, row, _, _, _ => ⟨rfl, fun q => by simp [bumpL, inRb]⟩
 | g :: rs, b, row, hb, hn, ht => by
  have h1 := hn.1
  have h2 := hn.2.1
  have h3 := ht g List.mem_cons_self
  have hl := bump1_length (k := k) (row := row) (show 0 ≤ g.lo by omega) h2 h3
  obtain ⟨g1, g2⟩ := bumpL_get rs (g.hi + 1) (bump1 g k row) (by omega) hn.2.2 (fun x hx => by rw [hl]; exact ht x (List.mem_cons_of_mem _ hx))
  refine ⟨by show (bumpL rs k (bump1 g k row)).length = _; rw [g1, hl], fun q => ?_⟩
  show (bumpL rs k (bump1 g k row))[q]? = _
  rw [g2 q, bump1_get (show 0 ≤ g.lo by omega) h2 h3 q]
  cases row[q]? with
  | none => rfl
  | some c =>
   simp only [Option.map_some]
   by_cases c1 : g.lo ≤ (q : Int) ∧ (q : Int) < g.hi
   ·have c2 : inRb q rs = false := inRb_false.2 fun hm => by have := hn.2.2.below hm; omega
    have c3 : inRb q (g :: rs) = true := inRb_iff.2 (memR_cons.2 (.inl c1))
    rw [if_pos c1, c2, c3]; simp
   ·rw [if_neg c1]
    have c3 : inRb q (g :: rs) = inRb q rs := by
     rw [Bool.eq_iff_iff, inRb_iff, inRb_iff, memR_cons]
     exact ⟨fun h => h.elim (fun h => absurd h c1) id, .inr⟩
    rw [c3]
/-- What an effect does to a row. -/
def applyRow (x : GOp) (row : List Ce) : List Ce :=
 if x.kind = 1 then row.take x.at_.toNat ++ (cellsOf (runesF x.text) 0 ++ row.drop x.at_.toNat)
 else if x.kind = 2 then bumpL x.rs 1 row
 else if x.kind = 3 then bumpL x.rs (-1) row
 else row
/-! ### Histories -/
structure HV (H : Hist) : Prop where
 ctx : CtxOk 0 H.ops
 tot : H.total = sumO H.ops
 le : H.total ≤ 60000
 pls : ∀ e ∈ H.ents, Pls H.total e.now
 edit : ∀ e ∈ H.ents, e.op.kind = 4 ↔ e.now = []
 idr : ∀ e ∈ H.ents, rightF e.op.c e.op.n = true
 ids : (H.ents.map fun e => (e.op.c, e.op.n)).Nodup
structure Good (H : Hist) (i : Nat) (o : GOp) : Prop where
 le : i ≤ H.ents.length
 right : Right (beforeF H i) o
 fresh : whereId H.ents o.c o.n = none
 idr : rightF o.c o.n = true
 target : o.kind = 4 → ∃ k, whereId H.ents o.tc o.tn = some k ∧ k < i ∧ ∃ e, H.ents[k]? = some e ∧ e.op.kind ≠ 4
 room : H.total + widthF o ≤ 60000
theorem sumW_ops : ∀ (l : List Ent), sumW l = sumO (l.map (·.op))
 | [] => rfl
 | e :: l => by simp [sumW, sumO, sumW_ops l]
theorem before_ops (H : Hist) (i : Nat) : beforeF H i = sumO (H.ops.take i) := by
 unfold beforeF Hist.ops
 rw [sumW_ops, List.map_take]
theorem HV.total0 {H : Hist} (h : HV H) : 0 ≤ H.total := by rw [h.tot]; exact sumO_nonneg h.ctx
theorem HV.split {H : Hist} (h : HV H) (i : Nat) : CtxOk 0 (H.ops.take i) ∧ CtxOk (beforeF H i) (H.ops.drop i) ∧ beforeF H i + sumO (H.ops.drop i) = H.total ∧ 0 ≤ beforeF H i := by
 have h1 := h.ctx
 rw [← List.take_append_drop i H.ops, CtxOk.append, Int.zero_add, ← before_ops] at h1
 refine ⟨h1.1, h1.2, ?_, by rw [before_ops]; exact sumO_nonneg h1.1⟩
 rw [h.tot, before_ops, ← sumO_append, List.take_append_drop]
theorem Good.noclash {H : Hist} {i : Nat} {o : GOp} (g : Good H i o) : ∀ l ∈ H.ops, ¬ clashF o l := fun l hl hc => by
 obtain ⟨e, he, rfl⟩ := List.mem_map.1 hl
 exact whereId_none g.fresh e he ⟨hc.1.symm, hc.2.1.symm⟩
theorem right_ne {c n : Int} (h : rightF c n = true) : ¬ (c = 0 ∧ n = 0) := by
 unfold rightF at h; simp at h; omega
theorem fits_good {H : Hist} {i : Nat} {o : GOp} (g : Good H i o) : fitsF H i o = 0 := by
 have hk := g.right.kind
 have hr := g.room
 unfold fitsF
 rw [if_neg (by have := g.le; omega), if_neg (by rw [Int.toNat_natCast, g.right.ck]; simp), if_neg (by omega), if_neg (right_ne g.idr), if_neg (by rw [g.fresh]; simp)]
 have hrest : fitsRest H o = 0 := by unfold fitsRest; rw [if_neg (by omega)]
 split
 ·rename_i h4
  obtain ⟨k, hk1, hk2, e, he, hek⟩ := g.target h4
  unfold fitsT
  rw [hk1]
  simp only
  rw [if_neg (by omega), he]
  simp only
  rw [if_neg hek]; exact hrest
 ·exact hrest
/-- The carried forms. -/
theorem cross_good {H : Hist} (h : HV H) {i : Nat} {o : GOp} (g : Good H i o) :
  crossF [o] (H.ops.drop i) = ([(carryF o (H.ops.drop i)).1], (carryF o (H.ops.drop i)).2, 0) ∧ Right H.total (carryF o (H.ops.drop i)).1 ∧ CtxOk (beforeF H i + widthF o) (carryF o (H.ops.drop i)).2 ∧ Same o (carryF o (H.ops.drop i)).1 ∧ Sames (H.ops.drop i) (carryF o (H.ops.drop i)).2 := by
 obtain ⟨h1, h2, h3, h4⟩ := h.split i
 have hc : ∀ l ∈ H.ops.drop i, ¬ clashF o l := fun l hl => g.noclash l (List.mem_of_mem_drop hl)
 have hw : beforeF H i + sumO (H.ops.drop i) + widthF o ≤ 65535 := by have := g.room; omega
 obtain ⟨c1, c2, c3, c4, c5⟩ := carry_ok _ o _ g.right h2 hc hw
 exact ⟨cross_ok g.right h2 hc hw, by rw [← h3]; exact c2, c3, c4, c5⟩
def shiftE (at_ n : Int) (e : Ent) : Ent := ⟨e.op, (thrF e.now at_ n).1, e.off⟩
theorem movedAll_ok {T at_ n : Int} : ∀ {es : List Ent}, (∀ e ∈ es, (thrF e.now at_ n).2 = 0) → movedAll es at_ n = .ok (es.map fun e => (thrF e.now at_ n).1)
 | [], _ => rfl
 | e :: es, h => by
  unfold movedAll
  rw [if_neg (by rw [h e List.mem_cons_self]; simp), movedAll_ok (T := T) fun x hx => h x (List.mem_cons_of_mem _ hx)]
  rfl
theorem setNow_map {at_ n : Int} : ∀ (es : List Ent), setNow es (es.map fun e => (thrF e.now at_ n).1) es.length = es.map (shiftE at_ n)
 | [] => rfl
 | e :: es => by simp only [List.map_cons, List.length_cons, setNow, setNow_map es]; rfl
/-- What a put that is taken comes to. -/
structure PutIs (H : Hist) (i : Nat) (o : GOp) (es : List Ent) (nw : List Rg) (eff : GOp) : Prop where
 ins : o.kind = 1 → es = H.ents.map (shiftE (carryF o (H.ops.drop i)).1.at_ (widthF o)) ∧ nw = [⟨(carryF o (H.ops.drop i)).1.at_, (carryF o (H.ops.drop i)).1.at_ + widthF o⟩] ∧ eff = { effF o with at_ := (carryF o (H.ops.drop i)).1.at_, text := o.text }
 hide : o.kind = 2 → es = H.ents ∧ nw = (carryF o (H.ops.drop i)).1.rs ∧ eff = { effF o with rs := (carryF o (H.ops.drop i)).1.rs }
 status : o.kind = 4 → es = (turnedF H i o).1 ∧ nw = [] ∧ eff = (turnedF H i o).2
 put : putF H i o = (⟨newEnts i o nw es (carryF o (H.ops.drop i)).2, H.total + widthF o⟩, eff, 0)
theorem turned_cases (H : Hist) (i : Nat) (o : GOp) : turnedF H i o = (H.ents, zeroOp) ∨ ∃ k e, whereId H.ents o.tc o.tn = some k ∧ H.ents[k]? = some e ∧ e.off = o.on ∧ laterT (H.ents.drop i) o.tc o.tn = false ∧ turnedF H i o = (H.ents.set k (offE e (!o.on)), turnF e o.on) := by
 unfold turnedF
 split
 ·exact .inl rfl
 ·rename_i h1
  cases hw : whereId H.ents o.tc o.tn with
  | none => exact .inl rfl
  | some k =>
   simp only
   cases he : H.ents[k]? with
   | none => exact .inl rfl
   | some e =>
    simp only
    split
    ·exact .inl rfl
    ·rename_i h2
     refine .inr ⟨k, e, rfl, he, ?_, by simpa using h1, rfl⟩
     cases h3 : e.off <;> cases h4 : o.on <;> simp_all
theorem put_good {H : Hist} (h : HV H) {i : Nat} {o : GOp} (g : Good H i o) : ∃ es nw eff, PutIs H i o es nw eff := by
 obtain ⟨c1, c2, c3, c4, c5⟩ := cross_good h g
 have h0 := h.total0
 have hf := fits_good g
 have hroom := g.room
 have hwid := g.right.width
 rcases g.right.kind with hk | hk | hk
 ·have hti := c2.ins (c4.kind.trans hk)
  have hall : ∀ e ∈ H.ents, (thrF e.now (carryF o (H.ops.drop i)).1.at_ (widthF o)).2 = 0 := fun e he => (thr_ok (h.pls e he) h0 ⟨hti.1, hti.2.1⟩ hwid.1 (by omega)).1
  refine ⟨_, _, _, fun _ => ⟨rfl, rfl, rfl⟩, fun e => by omega, fun e => by omega, ?_⟩
  rw [put_4 (t := (carryF o (H.ops.drop i)).1) hf (by rw [Int.toNat_natCast, c1]) (by rw [Int.toNat_natCast, c1]) (es := H.ents.map (shiftE (carryF o (H.ops.drop i)).1.at_ (widthF o))) (nw := [⟨(carryF o (H.ops.drop i)).1.at_, (carryF o (H.ops.drop i)).1.at_ + widthF o⟩]) (eff := { effF o with at_ := (carryF o (H.ops.drop i)).1.at_, text := o.text }) ?_, Int.toNat_natCast, c1]
  unfold midF
  rw [if_pos hk, movedAll_ok (T := H.total) hall]
  simp only
  rw [setNow_map]
 ·refine ⟨_, _, _, fun e => by omega, fun _ => ⟨rfl, rfl, rfl⟩, fun e => by omega, ?_⟩
  rw [put_4 (t := (carryF o (H.ops.drop i)).1) hf (by rw [Int.toNat_natCast, c1]) (by rw [Int.toNat_natCast, c1]) (es := H.ents) (nw := (carryF o (H.ops.drop i)).1.rs) (eff := { effF o with rs := (carryF o (H.ops.drop i)).1.rs }) ?_, Int.toNat_natCast, c1]
  unfold midF
  rw [if_neg (by omega), if_pos hk]
 ·refine ⟨_, _, _, fun e => by omega, fun e => by omega, fun _ => ⟨rfl, rfl, rfl⟩, ?_⟩
  rw [put_4 (t := (carryF o (H.ops.drop i)).1) hf (by rw [Int.toNat_natCast, c1]) (by rw [Int.toNat_natCast, c1]) (es := (turnedF H i o).1) (nw := []) (eff := (turnedF H i o).2) ?_, Int.toNat_natCast, c1]
  unfold midF
  rw [if_neg (by omega), if_neg (by omega), if_pos hk, Int.toNat_natCast]
theorem PutIs.es_ops {H : Hist} {i : Nat} {o : GOp} {es : List Ent} {nw : List Rg} {eff : GOp} (g : Good H i o) (p : PutIs H i o es nw eff) : es.map (·.op) = H.ops := by
 rcases g.right.kind with hk | hk | hk
 ·rw [(p.ins hk).1]; unfold Hist.ops; rw [List.map_map]; rfl
 ·rw [(p.hide hk).1]; rfl
 ·rw [(p.status hk).1]
  rcases turned_cases H i o with e | ⟨k, e, h1, h2, h3, h4, h5⟩
  ·rw [e]; rfl
  ·rw [h5]
   have hk : k < H.ents.length := by
    rcases Nat.lt_or_ge k H.ents.length with h | h
    ·exact h
    ·rw [List.getElem?_eq_none h] at h2; cases h2
   rw [List.getElem?_eq_getElem hk] at h2
   have := hops_set hk (offE e (!o.on)) (by rw [← Option.some.inj h2]; rfl) H.total
   exact this
theorem PutIs.sames {H : Hist} (h : HV H) {i : Nat} {o : GOp} {es : List Ent} {nw : List Rg} {eff : GOp} (g : Good H i o) (p : PutIs H i o es nw eff) : Sames ((es.drop i).map (·.op)) (carryF o (H.ops.drop i)).2 := by
 rw [List.map_drop, p.es_ops g]
 exact (cross_good h g).2.2.2.2
theorem PutIs.len {H : Hist} {i : Nat} {o : GOp} {es : List Ent} {nw : List Rg} {eff : GOp} (g : Good H i o) (p : PutIs H i o es nw eff) : es.length = H.ents.length := by
 have := congrArg List.length (p.es_ops g)
 simpa [Hist.ops] using this
/-- The entries behind a put: what each of the old ones has become. -/
theorem PutIs.old {H : Hist} (h : HV H) {i : Nat} {o : GOp} {es : List Ent} {nw : List Rg} {eff : GOp} (g : Good H i o) (p : PutIs H i o es nw eff) : ∀ e ∈ es, ∃ x ∈ H.ents, e.op = x.op ∧ (e.now = x.now ∨ (o.kind = 1 ∧ e.now = (thrF x.now (carryF o (H.ops.drop i)).1.at_ (widthF o)).1)) := by
 intro e he
 rcases g.right.kind with hk | hk | hk
 ·rw [(p.ins hk).1] at he
  obtain ⟨x, hx, rfl⟩ := List.mem_map.1 he
  exact ⟨x, hx, rfl, .inr ⟨hk, rfl⟩⟩
 ·rw [(p.hide hk).1] at he; exact ⟨e, he, rfl, .inl rfl⟩
 ·rw [(p.status hk).1] at he
  rcases turned_cases H i o with e' | ⟨k, e', h1, h2, h3, h4, h5⟩
  ·rw [e'] at he; exact ⟨e, he, rfl, .inl rfl⟩
  ·rw [h5] at he
   rcases List.mem_or_eq_of_mem_set he with he | rfl
   ·exact ⟨e, he, rfl, .inl rfl⟩
   ·exact ⟨e', List.mem_of_getElem? h2, rfl, .inl rfl⟩
theorem put_hv {H : Hist} (h : HV H) {i : Nat} {o : GOp} {es : List Ent} {nw : List Rg} {eff : GOp} (g : Good H i o) (p : PutIs H i o es nw eff) : HV ⟨newEnts i o nw es (carryF o (H.ops.drop i)).2, H.total + widthF o⟩ := by
 obtain ⟨c1, c2, c3, c4, c5⟩ := cross_good h g
 obtain ⟨s1, s2, s3, s4⟩ := h.split i
 have h0 := h.total0
 have hs := p.sames h g
 have hops : (⟨newEnts i o nw es (carryF o (H.ops.drop i)).2, H.total + widthF o⟩ : Hist).ops = H.ops.take i ++ ([o] ++ (carryF o (H.ops.drop i)).2) := by
  show (newEnts i o nw es (carryF o (H.ops.drop i)).2).map (·.op) = _
  rw [newEnts_ops hs, p.es_ops g]
 have hroom := g.room
 have hwid := g.right.width
 have hpl : ∀ x ∈ H.ents, ∀ e : Ent, e.op = x.op ∧ (e.now = x.now ∨ (o.kind = 1 ∧ e.now = (thrF x.now (carryF o (H.ops.drop i)).1.at_ (widthF o)).1)) → Pls (H.total + widthF o) e.now ∧ (x.op.kind = 4 ↔ e.now = []) := by
  intro x hx e he
  have hpx := h.pls x hx
  rcases he.2 with e1 | ⟨hk, e1⟩
  ·rw [e1]
   refine ⟨⟨hpx.norm, hpx.below.mono (by omega)⟩, h.edit x hx⟩
  ·have hti := c2.ins (c4.kind.trans hk)
   obtain ⟨t1, t2, t3, t4⟩ := thr_ok hpx h0 ⟨hti.1, hti.2.1⟩ hwid.1 (by omega)
   rw [e1]
   exact ⟨t2, (h.edit x hx).trans t4⟩
 have hnew : Pls (H.total + widthF o) nw ∧ (o.kind = 4 ↔ nw = []) := by
  rcases g.right.kind with hk | hk | hk
  ·have hti := c2.ins (c4.kind.trans hk)
   have h1 := (hwid.2.2.1 hk).1
   rw [(p.ins hk).2.1]
   refine ⟨⟨⟨hti.1, by dsimp only; omega, trivial⟩, fun r hr => ?_⟩, by simp [hk]⟩
   simp only [List.mem_singleton] at hr; subst hr
   dsimp only; omega
  ·obtain ⟨t1, t2⟩ := c2.cov (c4.kind.trans hk) (by omega)
   rw [(p.hide hk).2.1]
   refine ⟨⟨t2.norm, t2.below.mono (by omega)⟩, by rw [hk]; exact ⟨fun e => by omega, fun e => absurd e t1⟩⟩
  ·rw [(p.status hk).2.1]
   exact ⟨⟨trivial, fun r hr => by cases hr⟩, by simp [hk]⟩
 refine ⟨?_, ?_, hroom, ?_, ?_, ?_, ?_⟩
 ·rw [hops, CtxOk.append, Int.zero_add, ← before_ops]
  refine ⟨s1, g.right, ?_⟩
  exact c3
 ·rw [hops, sumO_append, ← before_ops, sumO_append]
  simp only [sumO]
  rw [c5.sumO]; omega
 ·intro e he
  show Pls (H.total + widthF o) e.now
  rcases newEnts_mem hs he with he | rfl | ⟨x, hx, y, hy, hsm, rfl⟩
  ·obtain ⟨x, hx, hh⟩ := p.old h g e he
   exact (hpl x hx e hh).1
  ·exact hnew.1
  ·obtain ⟨z, hz, hh⟩ := p.old h g x hx
   exact (hpl z hz x hh).1
 ·intro e he
  rcases newEnts_mem hs he with he | rfl | ⟨x, hx, y, hy, hsm, rfl⟩
  ·obtain ⟨x, hx, hh⟩ := p.old h g e he
   rw [hh.1]; exact (hpl x hx e hh).2
  ·exact hnew.2
  ·obtain ⟨z, hz, hh⟩ := p.old h g x hx
   show y.kind = 4 ↔ x.now = []
   rw [hsm.kind, hh.1]; exact (hpl z hz x hh).2
 ·intro e he
  rcases newEnts_mem hs he with he | rfl | ⟨x, hx, y, hy, hsm, rfl⟩
  ·obtain ⟨x, hx, hh⟩ := p.old h g e he
   rw [hh.1]; exact h.idr x hx
  ·exact g.idr
  ·obtain ⟨z, hz, hh⟩ := p.old h g x hx
   show rightF y.c y.n = true
   rw [hsm.c, hsm.n, hh.1]; exact h.idr z hz
 ·show ((newEnts i o nw es (carryF o (H.ops.drop i)).2).map fun e => (e.op.c, e.op.n)).Nodup
  have e0 : (es.map fun e => (e.op.c, e.op.n)) = H.ents.map fun e => (e.op.c, e.op.n) := by
   have := congrArg (List.map fun x : GOp => (x.c, x.n)) (p.es_ops g)
   unfold Hist.ops at this
   rw [List.map_map, List.map_map] at this
   exact this
  unfold newEnts
  rw [List.map_append, List.map_cons, ids_zipE _ _ hs]
  have e : (es.map fun e => (e.op.c, e.op.n)) = ((es.take i).map fun e => (e.op.c, e.op.n)) ++ ((es.drop i).map fun e => (e.op.c, e.op.n)) := by rw [← List.map_append, List.take_append_drop]
  have hnot : (o.c, o.n) ∉ es.map fun e => (e.op.c, e.op.n) := fun hm => by
   rw [e0] at hm
   obtain ⟨x, hx, hh⟩ := List.mem_map.1 hm
   simp only [Prod.mk.injEq] at hh
   exact whereId_none g.fresh x hx hh
  have pp : (((es.take i).map fun e => (e.op.c, e.op.n)) ++ (o.c, o.n) :: ((es.drop i).map fun e => (e.op.c, e.op.n))).Perm ((o.c, o.n) :: es.map fun e => (e.op.c, e.op.n)) := by
   rw [e]; exact List.perm_middle
  exact pp.nodup_iff.2 (List.nodup_cons.2 ⟨hnot, by rw [e0]; exact h.ids⟩)
end Go.Proofs.YtcjbjkbghgjmdaaGreatDoor
/- Pieces of the rope, plain; how lists of them lie in memory. -/
namespace Go.Proofs.YtcjbjkbghgjmdaaGreatDoor
open Go Go.GW
def ints (k : IntKind) (xs : List Int) : List Value := xs.map (Value.int k)
theorem ints_reps (k : IntKind) (xs : List Int) (Z : Nat → Prop) (w : World) : Reps ((De.int k).rep Z w) xs (xs.map fun x => [Value.int k x]) := by
 induction xs with
 | nil => exact .nil
 | cons x xs ih => exact .cons rfl ih
theorem ints_flat (k : IntKind) (xs : List Int) : (xs.map fun x => [Value.int k x]).flatten = ints k xs := by
 induction xs with
 | nil => rfl
 | cons x xs ih => simp only [List.map_cons, List.flatten_cons, ih]; rfl
theorem ints_append (k : IntKind) (xs ys : List Int) : ints k (xs ++ ys) = ints k xs ++ ints k ys := by unfold ints; simp
theorem reps_int {k : IntKind} {xs : List Int} {css : List (List Value)} {Z : Nat → Prop} {w : World} (h : Reps ((De.int k).rep Z w) xs css) : css.flatten = ints k xs := by
 induction h with
 | nil => rfl
 | cons h _ ih =>
  have h' : _ = [Value.int k _] := h
  rw [List.flatten_cons, h', ih]; rfl
structure Pc where
 rs : List Int
 hid : Int
def pcD : De Pc where
 sz := 2
 rep Z w p cs := ∃ A c, cs = pcC p.rs p.hid A c ∧ RdS runeD Z w A c p.rs
 len h := by obtain ⟨A, c, rfl, _⟩ := h; rfl
 one h := by obtain ⟨A, c, rfl, _⟩ := h; rfl
 stable hz hh h1 h2 h3 h := by
  obtain ⟨A, c, g1, g2⟩ := h
  exact ⟨A, c, g1, (RdF runeD A c _).stable hz hh h1 h2 h3 g2⟩
theorem pc_open (u : Pc) : ∀ Z w cs, pcD.rep Z w u cs → ∃ y : Option Addr × Nat, cs = pcC u.rs u.hid y.1 y.2 ∧ ∀ B ∈ [RdF runeD y.1 y.2 u.rs], B.holds Z w := fun _ _ _ h => by
 obtain ⟨A, c, h1, h2⟩ := h
 exact ⟨(A, c), h1, fun B hB => by simp only [List.mem_singleton] at hB; subst hB; exact h2⟩
def pcsRow (ps : List Pc) : List Ce := ps.flatMap fun p => cellsOf p.rs p.hid
def PcOk (ps : List Pc) : Prop := ∀ p ∈ ps, p.rs ≠ [] ∧ 0 ≤ p.hid ∧ p.hid ≤ 1048576
theorem pcsRow_append (a b : List Pc) : pcsRow (a ++ b) = pcsRow a ++ pcsRow b := by unfold pcsRow; rw [List.flatMap_append]
theorem pcsRow_cons (p : Pc) (b : List Pc) : pcsRow (p :: b) = cellsOf p.rs p.hid ++ pcsRow b := by unfold pcsRow; rw [List.flatMap_cons]
theorem pcsRow_one (p : Pc) : pcsRow [p] = cellsOf p.rs p.hid := by unfold pcsRow; simp
theorem PcOk.append {a b : List Pc} : PcOk (a ++ b) ↔ PcOk a ∧ PcOk b := by
 unfold PcOk; simp only [List.mem_append]
 exact ⟨fun h => ⟨fun p hp => h p (.inl hp), fun p hp => h p (.inr hp)⟩, fun h p hp => hp.elim (h.1 p) (h.2 p)⟩
theorem PcOk.one {p : Pc} (h : p.rs ≠ []) (h2 : 0 ≤ p.hid ∧ p.hid ≤ 1048576) : PcOk [p] := fun q hq => by
 rw [List.mem_singleton] at hq; subst hq; exact ⟨h, h2⟩
theorem PcOk.len : ∀ {ps : List Pc}, PcOk ps → ps.length ≤ (pcsRow ps).length
 | [], _ => by simp
 | p :: ps, h => by
  have h1 := (h p List.mem_cons_self).1
  have h2 := List.length_pos_iff.2 h1
  have h3 := PcOk.len (ps := ps) fun q hq => h q (List.mem_cons_of_mem _ hq)
  rw [pcsRow_cons, List.length_append, cellsOf_length, List.length_cons]; omega
theorem cells_append (a b : List Int) (hid : Int) : cellsOf (a ++ b) hid = cellsOf a hid ++ cellsOf b hid := by unfold cellsOf; rw [List.map_append]
/-- What holds of runesOf's loop. -/
theorem runesAt_end {s : ByteArray} {p : Nat} (h : ¬ p < s.size) : runesAt s p = [] := by rw [runesAt, dif_neg h]
theorem runesAt_next {s : ByteArray} {p : Nat} (h : p < s.size) : runesAt s p = ((Utf8.decode s p).1 : Int) :: runesAt s (p + (Utf8.decode s p).2) := by
 conv => lhs; unfold runesAt
 rw [dif_pos h]
/-- A slice of the list's cuts: from i*n/k to (i+1)*n/k. -/
def cutAt (n k i : Nat) : Nat := i * n / k
theorem cutAt_lt {n k i : Nat} (hk : 0 < k) (hn : k ≤ n) : cutAt n k i < cutAt n k (i + 1) := by
 unfold cutAt
 have h1 : (i + 1) * n = i * n + n := by rw [Nat.add_mul, Nat.one_mul]
 rw [h1]
 have h2 : i * n / k + 1 ≤ (i * n + n) / k := by
  rw [Nat.le_div_iff_mul_le hk, Nat.add_mul, Nat.one_mul]
  have := Nat.div_mul_le_self (i * n) k
  omega
 omega
theorem cutAt_le {n k i : Nat} (hk : 0 < k) (hi : i ≤ k) : cutAt n k i ≤ n := by
 unfold cutAt
 calc i * n / k ≤ k * n / k := Nat.div_le_div_right (Nat.mul_le_mul_right n hi)
  _ = n := Nat.mul_div_cancel_left n hk
theorem cutAt_last {n k : Nat} (hk : 0 < k) : cutAt n k k = n := by unfold cutAt; exact Nat.mul_div_cancel_left n hk
theorem cutAt_zero {n k : Nat} : cutAt n k 0 = 0 := by unfold cutAt; simp
def cutPc (rs : List Int) (hid : Int) (k i : Nat) : Pc := ⟨(rs.take (cutAt rs.length k (i + 1))).drop (cutAt rs.length k i), hid⟩
def cutPcs (rs : List Int) (hid : Int) (k : Nat) : Nat → List Pc
 | 0 => []
 | i + 1 => cutPcs rs hid k i ++ [cutPc rs hid k i]
theorem cutPcs_length (rs : List Int) (hid : Int) (k : Nat) : ∀ i, (cutPcs rs hid k i).length = i
 | 0 => rfl
 | i + 1 => by simp [cutPcs, cutPcs_length rs hid k i]
theorem cutPcs_ok {rs : List Int} {hid : Int} {k : Nat} (hk : 0 < k) (hn : k ≤ rs.length) (hh : 0 ≤ hid ∧ hid ≤ 1048576) : ∀ i, i ≤ k → PcOk (cutPcs rs hid k i) ∧ pcsRow (cutPcs rs hid k i) = cellsOf (rs.take (cutAt rs.length k i)) hid
 | 0, _ => ⟨fun p hp => by simp [cutPcs] at hp, by rw [cutAt_zero]; rfl⟩
 | i + 1, hi => by
  obtain ⟨h1, h2⟩ := cutPcs_ok hk hn hh i (by omega)
  have h3 := cutAt_lt (n := rs.length) (k := k) (i := i) hk hn
  have h4 := cutAt_le (n := rs.length) (k := k) (i := i + 1) hk hi
  refine ⟨PcOk.append.2 ⟨h1, PcOk.one (fun e => ?_) hh⟩, ?_⟩
  ·have := congrArg List.length e
   simp only [cutPc, List.length_drop, List.length_take, List.length_nil] at this
   omega
  ·rw [cutPcs, pcsRow_append, h2, pcsRow_one]
   unfold cutPc
   simp only
   rw [← cells_append]
   congr 1
   have e : rs.take (cutAt rs.length k i) = (rs.take (cutAt rs.length k (i + 1))).take (cutAt rs.length k i) := by rw [List.take_take, Nat.min_eq_left (by omega)]
   rw [e, List.take_append_drop]
theorem WC_ints {P : Program} {n : Nat} {R : Post} {l : Fr} {Ps : List Part} {As : List Fact} {c : Code} {k : IntKind} {xs : List Int} {css : List (List Value)} (hA : RepsF (De.int k) xs css ∈ As) (h : css.flatten = ints k xs → WC P n c R l Ps As) : WC P n c R l Ps As := fun Z w a hs ha => h (reps_int (hs.facts _ hA : Reps ((De.int k).rep Z w) xs css)) Z w a hs ha
/-- evened's inner loop: the run that has been laid together. -/
structure EvJ (ps : List Pc) (i k : Nat) (run : List Int) (hid : Int) : Prop where
 ik : i ≤ k
 le : k ≤ ps.length
 eq : cellsOf run hid = pcsRow ((ps.take k).drop i)
theorem pcsRow_sub (ps : List Pc) (i k : Nat) : (pcsRow ((ps.take k).drop i)).length ≤ (pcsRow ps).length := by
 have e : ps = ps.take k ++ ps.drop k := (List.take_append_drop k ps).symm
 have e2 : ps.take k = (ps.take k).take i ++ (ps.take k).drop i := (List.take_append_drop i _).symm
 have h1 : (pcsRow ps).length = (pcsRow (ps.take k)).length + (pcsRow (ps.drop k)).length := by
  conv => lhs; rw [e]
  rw [pcsRow_append, List.length_append]
 have h2 : (pcsRow (ps.take k)).length = (pcsRow ((ps.take k).take i)).length + (pcsRow ((ps.take k).drop i)).length := by
  conv => lhs; rw [e2]
  rw [pcsRow_append, List.length_append]
 omega
theorem EvJ.len {ps : List Pc} {i k : Nat} {run : List Int} {hid : Int} (h : EvJ ps i k run hid) : run.length ≤ (pcsRow ps).length := by
 have := congrArg List.length h.eq
 rw [cellsOf_length] at this
 have := pcsRow_sub ps i k
 omega
theorem EvJ.next {ps : List Pc} {i k : Nat} {run : List Int} {hid : Int} (h : EvJ ps i k run hid) (hk : k < ps.length) (e : ps[k].hid = hid) : EvJ ps i (k + 1) (run ++ ps[k].rs) hid := by
 have := h.ik
 refine ⟨by omega, hk, ?_⟩
 have e1 : ps.take (k + 1) = ps.take k ++ [ps[k]] := by rw [List.take_succ_eq_append_getElem hk]
 rw [cells_append, h.eq, e1, List.drop_append_of_le_length (by rw [List.length_take]; omega), pcsRow_append, pcsRow_one, e]
theorem EvJ.done {ps : List Pc} {i k : Nat} {run : List Int} {hid : Int} (h : EvJ ps i k run hid) : pcsRow (ps.take i) ++ cellsOf run hid = pcsRow (ps.take k) := by
 have e : ps.take i = (ps.take k).take i := by rw [List.take_take, Nat.min_eq_left h.ik]
 rw [h.eq, e, ← pcsRow_append, List.take_append_drop]
/-- evened's outer loop. -/
structure EvI (ps : List Pc) (i : Nat) (os : List Pc) (v : Value) (p : Part) (css : List (List Value)) : Prop where
 le : i ≤ ps.length
 row : Row 102 2 v os.length css.flatten p
 ok : PcOk os
 eq : pcsRow os = pcsRow (ps.take i)
theorem EvI.len {ps : List Pc} {i : Nat} {os : List Pc} {v : Value} {p : Part} {css : List (List Value)} (h : EvI ps i os v p css) : os.length ≤ (pcsRow ps).length := by
 have h1 := h.ok.len
 have h2 := congrArg List.length h.eq
 have h3 := pcsRow_sub ps 0 i
 rw [List.drop_zero] at h3
 omega
end Go.Proofs.YtcjbjkbghgjmdaaGreatDoor
/- Walks: rope, runesOf. -/
namespace Go.Proofs.YtcjbjkbghgjmdaaGreatDoor
open Go Go.GW
structure RuI (s : ByteArray) (p : Nat) (acc : List Int) (v : Value) (pa : Part) : Prop where
 le : p ≤ s.size
 len : acc.length ≤ p
 eq : runesF s = acc ++ runesAt s p
 row : Row 21 1 v acc.length (ints .i32 acc) pa

set_option maxRecDepth 10000 in
theorem runesOf_s (s : ByteArray) (hs : s.size ≤ 1073741824) : Sp Tryz.prog 52 [.string s] [] [] (fun v Lo fs => ∃ A c, v = .slice A (runesF s).length c ∧ Lo = [] ∧ fs = [RdF runeD A c (runesF s)]) := by
 refine Sp.of (n := 16) ⟨_, Tryz.func52, rfl, rfl, rfl, rfl⟩ (Nat.le_of_ble_eq_true rfl) fun Ps As => WC_seq (WC_region (Lq (q_assign rfl) (WL_nil (thenN (WC_seq (WC_region (Lq (q_assign rfl) (WL_nil (thenN (WC_seq (WC_seq (WC_region (Lq (q_move rfl) (WL_main rfl (OW_rangeS Un9 rfl (by decide) fun b7 => WL_nil (thenN (WC_block (WC_nilPart ?_))))))))))))))))))
 refine WC_loopE (α := Nat × List Int × Value × Part) (fun (p, acc, v, pa) => s.size - p)
  (fun (p, acc, v, pa) => [(3, v), (7, .pointer (some ⟨b7, 0, none⟩))])
  (fun (p, acc, v, pa) => (pa :: [(b7, .stringIter s p)] :: Ps))
  (fun (p, acc, v, pa) => As)
  (fun (p, acc, v, pa) => RuI s p acc v pa)
  (0, [], .slice none 0 0, []) ?_ (.cons rfl (.cons rfl (.nil _))) (Sk (Sk (Sr))) (fun _ h => h) ?_
 ·exact ⟨Nat.zero_le _, Nat.le_refl _, rfl, Row.nil _ _⟩
 ·rintro ⟨p, acc, v, pa⟩ hI
  have hle := hI.le
  have hal := hI.len
  refine WC_seq ?_
  by_cases hp : p < s.size
  ·refine WC_region (WL_main rfl (OW_nextS1 rfl hp (.s (.z)) (by decide) (Lq (q_extract (vs := [_, _, _]) rfl rfl) (WL_nil (thenN (WC_seq (WC_true rfl rfl (WC_skip (thenN (WC_block (WC_seq (WC_region (Lq (q_extract (vs := [_, _, _]) rfl rfl) (Lq (q_assign rfl) (WL_nil (thenN (WC_region (Lq (q_move rfl) (Lq (q_move rfl) ?_)))))))))))))))))))
   refine WL_main rfl (OW_slice1 (cs := [_]) Un100 ti21 (by decide) (by decide) rfl rfl rfl rfl (by decide) fun b13 => WL_main rfl (OW_append1 (news := [_]) Un100 ti21 rfl (by decide) rfl rfl hI.row own0 rfl rfl (by omega) (by unfold maxLen; omega) (by decide) (DelAt.perm (.s (.z))) fun v14 p14 hr14 => Lq (q_assign rfl) (WL_nil (blockN (thenK ?_)))))
   have hd := decode_pos s p
   have hd2 := decode_leP hp
   refine ⟨(p + (Utf8.decode s p).2, acc ++ [((Utf8.decode s p).1 : Int)], v14, p14), ?_, (.cons rfl (.cons rfl (.nil _))), (Sk (Sd (Sk (Sr)))), (fun _ h => h)⟩
   exact ⟨by show s.size - (p + (Utf8.decode s p).2) < s.size - p; omega, by show p + (Utf8.decode s p).2 ≤ s.size; exact hd2, by rw [List.length_append]; show acc.length + 1 ≤ p + (Utf8.decode s p).2; omega, by rw [hI.eq, runesAt_next hp, List.append_assoc]; rfl, by rw [ints_append, List.length_append]; exact hr14⟩
  ·refine WC_region (WL_main rfl (OW_nextS0 rfl (ownS (own0)) hp (by decide) (Lq (q_extract (vs := [_]) rfl rfl) (WL_nil (thenN (WC_seq (WC_false rfl rfl (WC_exit (thenExit (thenExit (blockHit (thenN (WC_seq ?_)))))))))))))
   have hdone : runesF s = acc := by rw [hI.eq, runesAt_end hp, List.append_nil]
   subst hdone
   refine WC_fact (A := RepsF runeD (runesF s) ((runesF s).map fun x => [Value.int .i32 x])) (fun Z w _ => ints_reps _ _ Z w) (WC_freeze (e := runeD) (xs := runesF s) (css := (runesF s).map fun x => [Value.int .i32 x]) (by rw [ints_flat]; exact hI.row) (.z) rfl M0 fun A9 c9 e9 => ?_)
   cases e9
   refine WC_region (Lq (q_move rfl) (Lq (q_assign rfl) (WL_nil (thenN (WC_ret ?_)))))
   refine ⟨_, [], [_], fun Z w hs => .tmp rfl (.nil), ?_, fun Z w hs => hs.out (Sd (Sr)) (memc M0 T2)⟩
   exact ⟨_, _, rfl, rfl, rfl⟩

end Go.Proofs.YtcjbjkbghgjmdaaGreatDoor
/- Walks: rope, cutUp. -/
namespace Go.Proofs.YtcjbjkbghgjmdaaGreatDoor
open Go Go.GW
theorem tdiv_nat (a b : Nat) (h : a ≤ 4611686018427387904) : IntKind.i64.wrap ((a : Int).tdiv (b : Int)) = ((a / b : Nat) : Int) := by
 rw [← Int.ofNat_tdiv]
 have : a / b ≤ a := Nat.div_le_self a b
 generalize a / b = q at this
 exact wr64 (by omega)
theorem mul_nat (a b : Nat) (h : a * b ≤ 4611686018427387904) : IntKind.i64.wrap ((a : Int) * (b : Int)) = ((a * b : Nat) : Int) := by
 rw [← Int.natCast_mul]; exact wr64 (by omega)
def PcsP (row : List Ce) : Value → List Part → List Fact → Prop := fun v Lo fs => ∃ (A : Option Addr) (c : Nat) (ps : List Pc), v = .slice A ps.length c ∧ Lo = [] ∧ fs = [RdF pcD A c ps] ∧ PcOk ps ∧ pcsRow ps = row
def CuI (rs : List Int) (hid : Int) (K i : Nat) (v : Value) (p : Part) (css : List (List Value)) : Prop := i ≤ K ∧ Row 102 2 v (cutPcs rs hid K i).length css.flatten p
theorem bd118_0_1Xw28 (x0_A : Option Addr) (x0_n x0_c : Nat) (x1_ : Int) (w : World) : (Instr.build 102 #[(0, .slice x0_A x0_n x0_c), (1, .int .i64 x1_)]).run Tryz.prog w = .ok (.agg #[.slice x0_A x0_n x0_c, .int .i64 x1_]) w := by kernel_rfl

set_option maxRecDepth 10000 in
theorem cutUp_s (A : Option Addr) (c : Nat) (rs : List Int) (hid : Int) (hb : rs.length ≤ 1073741824) (hh : 0 ≤ hid ∧ hid ≤ 1048576) : Sp Tryz.prog 51 [.slice A rs.length c, .int .i64 hid] [] [RdF runeD A c rs] (PcsP (cellsOf rs hid)) := by
 obtain ⟨K, hK⟩ : ∃ K : Nat, K = (rs.length + 63) / 64 := ⟨_, rfl⟩
 refine Sp.of (n := 39) ⟨_, Tryz.func51, rfl, rfl, rfl, rfl⟩ (Nat.le_of_ble_eq_true rfl) fun Ps As => WC_seq (WC_region (Lq (q_assign rfl) (WL_nil (thenN (WC_seq (WC_region (Lq (q_move rfl) (Lq (q_len Un100 rfl) (Lq (q_add rfl rfl (wr64 (by omega)) (c := ((rs.length + 64 : Nat) : Int))) (Lq (q_sub rfl rfl (by rw [wr64 (by omega)]; omega) (c := ((rs.length + 63 : Nat) : Int))) (Lq (q_quo rfl rfl (by decide) (by rw [hK]; exact tdiv_nat (rs.length + 63) 64 (by omega)) (c := ((K : Nat) : Int))) (Lq (q_assign rfl) ?_))))))))))))
 refine WL_nil (thenN (WC_seq (WC_region (Lq (q_assign rfl) (WL_nil (thenN (WC_seq (WC_seq (WC_region (Lq (q_move rfl) (Lq (q_move rfl) (WL_nil (thenN (WC_block (WC_nilPart (WC_fact (A := RepsF pcD [] []) (fun Z w _ => .nil) ?_))))))))))))))))
 refine WC_loopE (α := Nat × Value × Part × List (List Value)) (fun (i, v, p, css) => K - i)
  (fun (i, v, p, css) => [(0, .slice A rs.length c), (1, .int .i64 hid), (5, .int .i64 (K : Nat)), (6, v), (13, .int .i64 (K : Nat)), (14, .int .i64 i)])
  (fun (i, v, p, css) => (p :: Ps))
  (fun (i, v, p, css) => (RepsF pcD (cutPcs rs hid K i) css :: RdF runeD A c rs :: As))
  (fun (i, v, p, css) => CuI rs hid K i v p css)
  (0, .slice none 0 0, [], []) ?_ (.cons rfl (.cons rfl (.cons rfl (.cons rfl (.cons rfl (.cons rfl (.nil _))))))) (Sk (Sr)) (fun _ h => h) ?_
 ·exact ⟨Nat.zero_le _, Row.nil _ _⟩
 ·rintro ⟨i, v, pa, css⟩ hI
  refine WC_seq (WC_region (Lq (q_lss rfl rfl) (WL_nil (thenN (WC_seq (WC_cond rfl (fun h15 => ?_) (fun h15 => ?_)))))))
  ·refine WC_skip (thenN (WC_seq (WC_block (WC_seq (WC_region (Lq (q_move rfl) (Lq (q_assign rfl) (WL_nil (thenN ?_)))))))))
   try simp only [Bp, Bq] at *
   have hiK : i < K := by omega
   have hK0 : 0 < K := by omega
   have hc1 := cutAt_lt (n := rs.length) (k := K) (i := i) hK0 (by omega)
   have hc2 := cutAt_le (n := rs.length) (k := K) (i := i + 1) hK0 hiK
   have hm1 : i * rs.length ≤ 1073741824 * 1073741824 := Nat.mul_le_mul (by omega) hb
   have hm2 : (i + 1) * rs.length ≤ 1073741824 * 1073741824 := Nat.mul_le_mul (by omega) hb
   have hpl : (cutPc rs hid K i).rs.length = cutAt rs.length K (i + 1) - cutAt rs.length K i := by unfold cutPc; simp only [List.length_drop, List.length_take]; omega
   have hil := cutPcs_length rs hid K i
   refine WC_cap M1 fun hcap => WC_cutLoHi (cutAt rs.length K i) (cutAt rs.length K (i + 1)) M1 (by omega) hc2 (WC_draw _ _ [] (.c 0 0 (.c 1 0 (.c 2 0 (.c 3 0 (.c 4 0 (.c 5 0 (.c 6 0 (.c 7 0 (.c 8 0 (.c 9 0 (.c 10 0 (.c 11 0 (.c 12 0 (.c 13 0 (.c 14 0 (.c 15 0 (.c 16 0 (.c 17 0 (.c 18 2 (.c 19 2 (.c 20 0 .nil))))))))))))))))))))) mixed (fun _ _ _ _ h => h) (Sd (Sr)) (fun _ h => h) (by kernel_rfl) (by decide) fun ws Z0 => Qe rfl (q_move rfl) (Qe rfl (q_move rfl) (Qe rfl (q_move rfl) (Qe rfl (q_move rfl) (Qe rfl (q_len Un100 rfl) (Qe rfl (q_mul rfl rfl (mul_nat i rs.length (by omega))) (Qe rfl (q_move rfl) ?_)))))))
   refine Qe rfl (q_quo rfl rfl (by omega) (tdiv_nat (i * rs.length) K (by omega)) (c := ((cutAt rs.length K i : Nat) : Int))) (Qe rfl (q_move rfl) (Qe rfl (q_add rfl rfl (wr64 (by omega)) (c := ((i + 1 : Nat) : Int))) (Qe rfl (q_move rfl) (Qe rfl (q_len Un100 rfl) (Qe rfl (q_mul rfl rfl (mul_nat (i + 1) rs.length (by omega))) (Qe rfl (q_move rfl) (Qe rfl (q_quo rfl rfl (by omega) (tdiv_nat ((i + 1) * rs.length) K (by omega)) (c := ((cutAt rs.length K (i + 1) : Nat) : Int))) (Qe rfl (q_cutLoHiE (k := cutAt rs.length K i) (m := (cutPc rs hid K i).rs.length) (by omega) (by omega) Un100 ti21 rfl rfl rfl (by omega) (by omega) (by omega)) (Qe rfl (q_move rfl) ?_)))))))))
   refine Qe rfl (q_build (.cons rfl (.cons rfl (.nil))) (bd118_0_1Xw28 _ _ _ _)) (WE_main rfl rfl (OW_slice1 (cs := [_, _]) Un114 ti102 (by decide) (by decide) rfl rfl rfl rfl (by decide) fun b35 => ?_))
   refine ⟨⟨(Sd (Sd (Sr))), M0⟩, ?_⟩
   refine WE_main rfl rfl (OW_append1 (news := [_, _]) Un114 ti102 rfl (by decide) rfl rfl hI.2 own0 rfl rfl (by omega) (by unfold maxLen; omega) (by decide) (DelAt.perm (.s (.z))) fun v36 p36 hr36 => ?_)
   refine ⟨⟨(Sd (Sd (Sr))), M0⟩, ?_⟩
   refine Qe rfl (q_assign rfl) (WE_end (WF_nil (blockN (thenN (WC_repsAdd (xs' := cutPcs rs hid K (i + 1)) (u := cutPc rs hid K i) (cs := pcC (cutPc rs hid K i).rs hid (cutA A (cutAt rs.length K i) c 1) (c - cutAt rs.length K i)) M2 (fun Z w hs => ⟨_, _, rfl, hs.facts _ M1⟩) rfl (WC_region (Lq (q_add rfl rfl (wr64 (by omega)) (c := ((i + 1 : Nat) : Int))) (Lq (q_move rfl) (WL_nil (thenK ?_))))))))))
   refine ⟨(i + 1, v36, p36, css ++ [pcC (cutPc rs hid K i).rs hid (cutA A (cutAt rs.length K i) c 1) (c - cutAt rs.length K i)]), ?_, (.cons rfl (.cons rfl (.cons rfl (.cons rfl (.cons rfl (.cons rfl (.nil _))))))), (Sk (Sd (Sr))), (memc M0 T4)⟩
   refine ⟨by show K - (i + 1) < K - i; omega, hiK, ?_⟩
   have e : (cutPcs rs hid K (i + 1)).length = (cutPcs rs hid K i).length + 1 := by rw [hil, cutPcs_length]
   show Row 102 2 v36 (cutPcs rs hid K (i + 1)).length _ p36
   rw [e, List.flatten_append]; exact hr36
  ·refine WC_exit (thenExit (thenExit (blockHit (thenN (WC_seq ?_)))))
   try simp only [Bp, Bq] at *
   obtain rfl : i = K := by have := hI.1; omega
   refine WC_freeze (e := pcD) (xs := cutPcs rs hid i i) (css := css) hI.2 (.z) rfl M0 fun A9 c9 e9 => ?_
   cases e9
   refine WC_region (Lq (q_move rfl) (Lq (q_assign rfl) (WL_nil (thenN (WC_ret ?_)))))
   refine ⟨_, [], [_], fun Z w hs => .tmp rfl (.nil), ?_, fun Z w hs => hs.out (Sr) (memc M0 T2)⟩
   by_cases hz : rs.length = 0
   ·have h1 : rs = [] := List.length_eq_zero_iff.1 hz
    have h2 : i = 0 := by omega
    subst h2
    exact ⟨_, _, _, rfl, rfl, rfl, (fun p hp => by simp [cutPcs] at hp), by rw [h1]; rfl⟩
   ·obtain ⟨k1, k2⟩ := cutPcs_ok (rs := rs) (hid := hid) (k := i) (by omega) (by omega) hh i (Nat.le_refl _)
    exact ⟨_, _, _, rfl, rfl, rfl, k1, by rw [k2, cutAt_last (by omega), List.take_length]⟩

end Go.Proofs.YtcjbjkbghgjmdaaGreatDoor
/- Walks: rope, evened. -/
namespace Go.Proofs.YtcjbjkbghgjmdaaGreatDoor
open Go Go.GW
set_option maxRecDepth 10000 in
theorem evened_s (A : Option Addr) (c : Nat) (ps : List Pc) (hok : PcOk ps) (hb : (pcsRow ps).length ≤ 1073741824) : Sp Tryz.prog 79 [.slice A ps.length c] [] [RdF pcD A c ps] (PcsP (pcsRow ps)) := by
 have hpl := hok.len
 refine Sp.of (n := 49) ⟨_, Tryz.func79, rfl, rfl, rfl, rfl⟩ (Nat.le_of_ble_eq_true rfl) fun Ps As => WC_seq (WC_region (Lq (q_assign rfl) (WL_nil (thenN (WC_seq (WC_region (Lq (q_assign rfl) (WL_nil (thenN (WC_seq (WC_seq (WC_region (Lq (q_assign rfl) (WL_nil (thenN (WC_block (WC_nilPart (WC_fact (A := RepsF pcD [] []) (fun Z w _ => .nil) ?_))))))))))))))))))
 refine WC_loopE (α := Nat × List Pc × Value × Part × List (List Value)) (fun (i, os, v, p, css) => ps.length - i)
  (fun (i, os, v, p, css) => [(0, .slice A ps.length c), (3, v), (4, .int .i64 i)])
  (fun (i, os, v, p, css) => (p :: Ps))
  (fun (i, os, v, p, css) => (RepsF pcD os css :: RdF pcD A c ps :: As))
  (fun (i, os, v, p, css) => EvI ps i os v p css)
  (0, [], .slice none 0 0, [], []) ?_ (.cons rfl (.cons rfl (.cons rfl (.nil _)))) (Sk (Sr)) (fun _ h => h) ?_
 ·exact ⟨Nat.zero_le _, Row.nil _ _, (fun p hp => by cases hp), rfl⟩
 ·rintro ⟨i, os, v, pa, css⟩ hI
  refine WC_seq (WC_seq (WC_region (Lq (q_move rfl) (Lq (q_move rfl) (Lq (q_len Un114 rfl) (Lq (q_lss rfl rfl) (WL_nil (thenN (WC_cond rfl (fun h10 => ?_) (fun h10 => ?_))))))))))
  ·refine WC_skip (thenN (WC_block (WC_seq ?_)))
   try simp only [Bp, Bq] at *
   have hiL : i < ps.length := by omega
   refine WC_elem (k := i) M1 (List.getElem?_eq_getElem hiL) (pc_open _) fun bi qi yi ei => ?_
   cases ei
   refine WC_region (Lq (q_assign rfl) (WL_nil (thenN (WC_seq (WC_region (Lq (q_move rfl) (Lq (q_assign rfl) (WL_nil (thenN (WC_seq (WC_block (WC_nilPart ?_))))))))))))
   refine WC_loopE (α := Nat × List Int × Value × Part) (fun (k, run, w, p) => ps.length - k)
    (fun (k, run, w, p) => [(0, .slice (some ⟨bi, qi, none⟩) ps.length c), (3, v), (4, .int .i64 i), (5, w), (6, .int .i64 k)])
    (fun (k, run, w, p) => (p :: pa :: Ps))
    (fun (k, run, w, p) => (FzA bi (qi + i * 2) (pcC ps[i].rs ps[i].hid yi.1 yi.2) :: RdF runeD yi.1 yi.2 ps[i].rs :: RepsF pcD os css :: RdF pcD (some ⟨bi, qi, none⟩) c ps :: As))
    (fun (k, run, w, p) => EvJ ps i k run ps[i].hid ∧ Row 21 1 w run.length (ints .i32 run) p)
    (i, [], .slice none 0 0, []) ?_ (.cons rfl (.cons rfl (.cons rfl (.cons rfl (.cons rfl (.nil _)))))) (Sk (Sk (Sr))) (fun _ h => h) ?_
   ·exact ⟨⟨Nat.le_refl _, by omega, by rw [List.drop_eq_nil_of_le (by rw [List.length_take]; omega)]; rfl⟩, Row.nil _ _⟩
   ·rintro ⟨k, run, w, pr⟩ ⟨hJ, hR⟩
    have hkle := hJ.le
    refine WC_seq (WC_seq ?_)
    by_cases hkL : k < ps.length
    ·refine WC_elemK (k := k) M3 (List.getElem?_eq_getElem hkL) (pc_open _) fun yk => ?_
     refine WC_draw _ _ [] (.c 0 0 (.c 1 0 (.c 2 0 (.c 3 0 (.c 4 0 (.c 5 0 (.c 6 0 (.c 7 0 (.c 8 0 (.c 9 0 (.c 10 0 (.c 11 0 (.c 12 0 (.c 13 0 (.c 14 0 (.c 15 0 (.c 16 0 .nil))))))))))))))))) mixed (fun _ _ _ _ h => h) (Sk (Sk (Sr))) (fun _ h => h) (by kernel_rfl) (by decide) fun ws Z0 => Qe rfl (q_move rfl) (Qe rfl (q_move rfl) (Qe rfl (q_len Un114 rfl) (Qe rfl (q_lss rfl rfl) (Qe rfl (q_move rfl) (WE_gq rfl rfl rfl rfl (by simpa using hkL) (q_move rfl) (by decide) (WE_gq rfl rfl rfl rfl (by simpa using hkL) (q_move rfl) (by decide) (WE_gq rfl rfl rfl rfl (by simpa using hkL) (q_idxRd Un114 ti102 rfl rfl (by omega) (by omega)) (by decide) (WE_gq rfl rfl rfl rfl (by simpa using hkL) (q_field (o' := _ + 1) Un102 rfl ti3 rfl rfl) (by decide) ?_))))))))
     refine WE_gq rfl rfl rfl rfl (by simpa using hkL) (q_loadF1 (j := 1) Un3 rfl rfl M0 rfl rfl) (by decide) (WE_gq rfl rfl rfl rfl (by simpa using hkL) (q_move rfl) (by decide) (WE_gq rfl rfl rfl rfl (by simpa using hkL) (q_move rfl) (by decide) (WE_gq rfl rfl rfl rfl (by simpa using hkL) (q_idxRd Un114 ti102 rfl rfl (by omega) (by omega)) (by decide) (WE_gq rfl rfl rfl rfl (by simpa using hkL) (q_field (o' := _ + 1) Un102 rfl ti3 rfl rfl) (by decide) (WE_gq rfl rfl rfl rfl (by simpa using hkL) (q_loadF1 (j := 1) Un3 rfl rfl M2 rfl rfl) (by decide) (WE_gq rfl rfl rfl rfl (by simpa using hkL) (q_eql rfl rfl) (by decide) (Qe rfl (q_pickT rfl (by simpa using hkL) rfl) (WE_end (WF_nil (thenN ?_))))))))))
     refine WC_cond rfl (fun h28 => ?_) (fun h28 => ?_)
     ·refine WC_skip (thenN (WC_block (WC_seq ?_)))
      try simp only [Bp, Bq] at *
      have hJn := hJ.next hkL h28
      have hJl := hJn.len
      rw [List.length_append] at hJl
      refine WC_region (Lq (q_move rfl) (Lq (q_move rfl) (Lq (q_move rfl) (Lq (q_idxRd Un114 ti102 rfl rfl (by omega) (by omega)) (Lq (q_field (o' := _ + 0) Un102 rfl ti100 rfl rfl) (Lq (q_loadF1 (j := 0) Un100 rfl rfl M1 rfl rfl) (WL_main rfl (OW_appendS (e := runeD) (ys := (ps[k]).rs) Un100 ti21 rfl (by decide) rfl rfl hR M2 (by omega) (by unfold maxLen; omega) (by decide) (List.Perm.refl _) fun v35 p35 cs35 hr35 => Lq (q_assign rfl) (WL_nil (thenN ?_))))))))))
      refine WC_ints M0 fun hcs => WC_region (Lq (q_move rfl) (Lq (q_add rfl rfl (wr64 (by omega)) (c := ((k + 1 : Nat) : Int))) (Lq (q_assign rfl) (WL_nil (blockN (thenK ?_))))))
      refine ⟨(k + 1, run ++ ps[k].rs, v35, p35), ?_, (.cons rfl (.cons rfl (.cons rfl (.cons rfl (.cons rfl (.nil _)))))), (Sk (Sk (Sr))), T4⟩
      refine ⟨by show ps.length - (k + 1) < ps.length - k; omega, hJn, ?_⟩
      rw [List.length_append, ints_append, ← hcs]; exact hr35
     ·refine WC_exit (thenExit (thenExit (blockHit (thenN (WC_seq ?_)))))
      try simp only [Bp, Bq] at *
      have hik : i < k := by
       rcases Nat.lt_or_ge i k with h | h
       ·exact h
       ·exfalso
        have e : k = i := by have := hJ.ik; omega
        first | (exact hkL (by omega)) | (subst e; exact h28 rfl)
      have hJl := hJ.len
      have hIl := hI.len
      refine WC_fact (A := RepsF runeD run (run.map fun x => [Value.int .i32 x])) (fun Z w _ => ints_reps _ _ Z w) (WC_freeze (e := runeD) (xs := run) (css := run.map fun x => [Value.int .i32 x]) (by rw [ints_flat]; exact hR) (.z) rfl M0 fun A9 c9 e9 => ?_)
      cases e9
      refine WC_region (Lq (q_move rfl) (Lq (q_move rfl) (Lq (q_move rfl) (Lq (q_move rfl) (Lq (q_idxRd Un114 ti102 rfl rfl (by omega) (by omega)) (Lq (q_field (o' := _ + 1) Un102 rfl ti3 rfl rfl) (Lq (q_loadF1 (j := 1) Un3 rfl rfl M5 rfl rfl) (WL_main rfl (OW_call0 (cutUp_s A9 c9 run ps[i].hid (by omega) (hok _ (List.getElem_mem hiL)).2) (.cons rfl (.cons rfl (.nil))) (by decide) (memc M0 mem0) fun u9_7 Lo fs hres => ?_)))))))))
      obtain ⟨A0, c0, qs, rfl, rfl, rfl, hqok, hqs⟩ := hres
      have hql := hqok.len
      rw [hqs, cellsOf_length] at hql
      refine WL_main rfl (OW_appendS (e := pcD) (ys := qs) Un114 ti102 rfl (by decide) rfl rfl hI.row M0 (by omega) (by unfold maxLen; omega) (by decide) (List.Perm.refl _) fun v46 p46 cs46 hr46 => Lq (q_assign rfl) (WL_nil (thenN (WC_repsApp M9 M0 (WC_region (Lq (q_move rfl) (Lq (q_assign rfl) (WL_nil (blockN (thenK ?_))))))))))
      refine ⟨(k, os ++ qs, v46, p46, css ++ cs46), ?_, (.cons rfl (.cons rfl (.cons rfl (.nil _)))), (Sk (Sr)), (memc M0 T11)⟩
      refine ⟨by show ps.length - k < ps.length - i; omega, hJ.le, by rw [List.length_append, List.flatten_append]; exact hr46, PcOk.append.2 ⟨hI.ok, hqok⟩, ?_⟩
      rw [pcsRow_append, hqs, hI.eq, hJ.done]
    ·refine WC_draw _ _ [] (.c 0 0 (.c 1 0 (.c 2 0 (.c 3 0 (.c 4 0 (.c 5 0 (.c 6 0 (.c 7 0 (.c 8 0 (.c 9 0 (.c 10 0 (.c 11 0 (.c 12 0 (.c 13 0 (.c 14 0 (.c 15 0 (.c 16 0 .nil))))))))))))))))) mixed (fun _ _ _ _ h => h) (Sk (Sk (Sr))) (fun _ h => h) (by kernel_rfl) (by decide) fun ws Z0 => Qe rfl (q_move rfl) (Qe rfl (q_move rfl) (Qe rfl (q_len Un114 rfl) (Qe rfl (q_lss rfl rfl) (Qe rfl (q_move rfl) (WE_gno rfl rfl rfl rfl (by simpa using hkL) (by decide) (WE_gno rfl rfl rfl rfl (by simpa using hkL) (by decide) (WE_gno rfl rfl rfl rfl (by simpa using hkL) (by decide) (WE_gno rfl rfl rfl rfl (by simpa using hkL) (by decide) ?_))))))))
     refine WE_gno rfl rfl rfl rfl (by simpa using hkL) (by decide) (WE_gno rfl rfl rfl rfl (by simpa using hkL) (by decide) (WE_gno rfl rfl rfl rfl (by simpa using hkL) (by decide) (WE_gno rfl rfl rfl rfl (by simpa using hkL) (by decide) (WE_gno rfl rfl rfl rfl (by simpa using hkL) (by decide) (WE_gno rfl rfl rfl rfl (by simpa using hkL) (by decide) (WE_gno rfl rfl rfl rfl (by simpa using hkL) (by decide) (Qe rfl (q_pickF rfl (by simpa using hkL) rfl) (WE_end (WF_nil (thenN (WC_false rfl rfl (WC_exit (thenExit (thenExit (blockHit (thenN (WC_seq ?_)))))))))))))))))
     try simp only [Bp, Bq] at *
     have hik : i < k := by
      rcases Nat.lt_or_ge i k with h | h
      ·exact h
      ·exfalso
       have e : k = i := by have := hJ.ik; omega
       first | (exact hkL (by omega)) | (subst e; exact h28 rfl)
     have hJl := hJ.len
     have hIl := hI.len
     refine WC_fact (A := RepsF runeD run (run.map fun x => [Value.int .i32 x])) (fun Z w _ => ints_reps _ _ Z w) (WC_freeze (e := runeD) (xs := run) (css := run.map fun x => [Value.int .i32 x]) (by rw [ints_flat]; exact hR) (.z) rfl M0 fun A9 c9 e9 => ?_)
     cases e9
     refine WC_region (Lq (q_move rfl) (Lq (q_move rfl) (Lq (q_move rfl) (Lq (q_move rfl) (Lq (q_idxRd Un114 ti102 rfl rfl (by omega) (by omega)) (Lq (q_field (o' := _ + 1) Un102 rfl ti3 rfl rfl) (Lq (q_loadF1 (j := 1) Un3 rfl rfl M3 rfl rfl) (WL_main rfl (OW_call0 (cutUp_s A9 c9 run ps[i].hid (by omega) (hok _ (List.getElem_mem hiL)).2) (.cons rfl (.cons rfl (.nil))) (by decide) (memc M0 mem0) fun u9_7 Lo fs hres => ?_)))))))))
     obtain ⟨A0, c0, qs, rfl, rfl, rfl, hqok, hqs⟩ := hres
     have hql := hqok.len
     rw [hqs, cellsOf_length] at hql
     refine WL_main rfl (OW_appendS (e := pcD) (ys := qs) Un114 ti102 rfl (by decide) rfl rfl hI.row M0 (by omega) (by unfold maxLen; omega) (by decide) (List.Perm.refl _) fun v46 p46 cs46 hr46 => Lq (q_assign rfl) (WL_nil (thenN (WC_repsApp M7 M0 (WC_region (Lq (q_move rfl) (Lq (q_assign rfl) (WL_nil (blockN (thenK ?_))))))))))
     refine ⟨(k, os ++ qs, v46, p46, css ++ cs46), ?_, (.cons rfl (.cons rfl (.cons rfl (.nil _)))), (Sk (Sr)), (memc M0 T9)⟩
     refine ⟨by show ps.length - k < ps.length - i; omega, hJ.le, by rw [List.length_append, List.flatten_append]; exact hr46, PcOk.append.2 ⟨hI.ok, hqok⟩, ?_⟩
     rw [pcsRow_append, hqs, hI.eq, hJ.done]
  ·refine WC_exit (thenExit (thenExit (blockHit (thenN (WC_seq ?_)))))
   try simp only [Bp, Bq] at *
   have hfin : i = ps.length := by have := hI.le; omega
   refine WC_freeze (e := pcD) (xs := os) (css := css) hI.row (.z) rfl M0 fun A8 c8 e8 => ?_
   cases e8
   refine WC_region (Lq (q_move rfl) (Lq (q_assign rfl) (WL_nil (thenN (WC_ret ?_)))))
   refine ⟨_, [], [_], fun Z w hs => .tmp rfl (.nil), ?_, fun Z w hs => hs.out (Sr) (memc M0 T2)⟩
   exact ⟨_, _, _, rfl, rfl, rfl, hI.ok, by rw [hI.eq, hfin, List.take_length]⟩

end Go.Proofs.YtcjbjkbghgjmdaaGreatDoor
/- Walks: rope, build. -/
namespace Go.Proofs.YtcjbjkbghgjmdaaGreatDoor
open Go Go.GW
theorem PcOk.take {ps : List Pc} (h : PcOk ps) (k : Nat) : PcOk (ps.take k) := fun p hp => h p (List.mem_of_mem_take hp)
theorem PcOk.drop {ps : List Pc} (h : PcOk ps) (k : Nat) : PcOk (ps.drop k) := fun p hp => h p (List.mem_of_mem_drop hp)
theorem pcsRow_at {ps : List Pc} {k : Nat} (hk : k < ps.length) : pcsRow ps = pcsRow (ps.take k) ++ (cellsOf ps[k].rs ps[k].hid ++ pcsRow (ps.drop (k + 1))) := by
 conv => lhs; rw [← List.take_append_drop k ps, List.drop_eq_getElem_cons hk]
 rw [pcsRow_append, pcsRow_cons]

set_option maxRecDepth 10000 in
theorem build_n (N : Nat) : ∀ (A : Option Addr) (c : Nat) (ps : List Pc) (hok : PcOk ps) (hb : (pcsRow ps).length ≤ 1073741824), ps.length ≤ N → Sp Tryz.prog 50 [.slice A ps.length c] [] [RdF pcD A c ps] (NP (pcsRow ps)) := by
 induction N using Nat.strongRecOn
 rename_i N ih
 intro A c ps hok hb hN
 have hpl := hok.len
 obtain ⟨k0, hk0⟩ : ∃ k0 : Nat, k0 = ps.length / 2 := ⟨_, rfl⟩
 refine Sp.of (n := 24) ⟨_, Tryz.func50, rfl, rfl, rfl, rfl⟩ (Nat.le_of_ble_eq_true rfl) fun Ps As => WC_seq (WC_region (Lq (q_assign rfl) (WL_nil (thenN (WC_seq (WC_seq (WC_region (Lq (q_move rfl) (Lq (q_len Un114 rfl) (Lq (q_eql rfl rfl) (WL_nil (thenN (WC_cond rfl (fun h6 => ?_) (fun h6 => ?_))))))))))))))
 ·refine WC_seq (WC_fact (A := TrF none .nil) (fun _ _ _ => rfl) (WC_region (Lq (q_assign rfl) (WL_nil (thenN (WC_ret (thenRet ?_)))))))
  refine ⟨_, [], [_], fun Z w hs => .tmp rfl (.nil), ?_, fun Z w hs => hs.out (Sr) (fun _ h => h)⟩
  try simp only [Bp, Bq] at *
  have hz : ps = [] := List.length_eq_zero_iff.1 (by omega)
  exact ⟨_, _, rfl, rfl, rfl, wnilT, by rw [hz]; rfl⟩
 ·refine WC_skip (thenN (WC_seq (WC_region (Lq (q_move rfl) (Lq (q_len Un114 rfl) (Lq (q_quo rfl rfl (by decide) (by rw [hk0]; exact tdiv_nat ps.length 2 (by omega)) (c := (k0 : Int))) (Lq (q_assign rfl) (WL_nil (thenN (WC_seq ?_))))))))))
  try simp only [Bp, Bq] at *
  have hkl : k0 < ps.length := by omega
  have r0 := pcsRow_at hkl
  have e0 := congrArg List.length r0
  simp only [List.length_append, cellsOf_length] at e0
  have ht1 : (ps.take k0).length = k0 := by rw [List.length_take]; omega
  have hd1 : (ps.drop (k0 + 1)).length = ps.length - (k0 + 1) := by rw [List.length_drop]
  refine WC_cap M0 fun hcap => WC_elem (k := k0) M0 (List.getElem?_eq_getElem hkl) (pc_open _) fun bk qk yk ek => ?_
  cases ek
  refine WC_cutHi k0 M2 (by omega) (WC_cutLo (k0 + 1) M3 (by omega) (WC_draw _ _ [] (.c 0 0 (.c 1 0 (.c 2 0 (.c 4 0 (.c 5 0 (.c 6 0 (.c 7 0 (.c 8 0 (.c 9 0 (.c 10 0 (.c 11 0 (.c 3 2 (.c 12 2 (.c 13 2 (.c 14 0 .nil))))))))))))))) mixed (fun _ _ _ _ h => h) (Sr) (fun _ h => h) (by kernel_rfl) (by decide) fun ws Z0 => Qe rfl (q_move rfl) (Qe rfl (q_move rfl) (Qe rfl (q_cutHiE (m := (ps.take k0).length) (by omega) Un114 ti102 rfl rfl (by omega) (by omega)) (Qe rfl (q_move rfl) (Qe rfl (q_move rfl) (Qe rfl (q_idxRd Un114 ti102 rfl rfl (by omega) (by omega)) (Qe rfl (q_loadFN (k := 0) (vs := [_, _]) Un102 rfl ti102 rfl M2 rfl rfl rfl) ?_))))))))
  refine Qe rfl (q_move rfl) (Qe rfl (q_move rfl) (Qe rfl (q_add rfl rfl (wr64 (by omega)) (c := ((k0 + 1 : Nat) : Int))) (Qe rfl (q_cutLoE (j := k0 + 1) (m := (ps.drop (k0 + 1)).length) (by omega) (by omega) Un114 ti102 rfl rfl (by omega) (by omega)) (WE_main rfl rfl (OW_call0 (ih (ps.take k0).length (by omega) (cutA (some ⟨bk, qk, none⟩) 0 c 2) c (ps.take k0) (hok.take k0) (by omega) (Nat.le_refl _)) (.cons rfl (.nil)) (by decide) (memc M2 mem0) fun u4_3 Lo fs hres => ?_)))))
  obtain ⟨T1, t1, rfl, rfl, rfl, wt1, r1⟩ := hres
  have e1 := congrArg List.length r1
  refine ⟨⟨(Sr), M1⟩, ?_⟩
  refine WE_main rfl rfl (OW_call0 (ih (ps.drop (k0 + 1)).length (by omega) (cutA (some ⟨bk, qk, none⟩) (k0 + 1) c 2) (c - (k0 + 1)) (ps.drop (k0 + 1)) (hok.drop (k0 + 1)) (by omega) (Nat.le_refl _)) (.cons rfl (.nil)) (by decide) (memc M2 mem0) fun u4_12 Lo fs hres => ?_)
  obtain ⟨T2, t2, rfl, rfl, rfl, wt2, r2⟩ := hres
  have e2 := congrArg List.length r2
  refine ⟨⟨(Sr), M2⟩, ?_⟩
  refine WE_main rfl rfl (OW_call0 (knot_r T1 T2 yk.1 yk.2 t1 t2 (ps[k0]).rs (ps[k0]).hid wt1 wt2 (hok _ (List.getElem_mem hkl)).1 (hok _ (List.getElem_mem hkl)).2 (by omega)) (.cons rfl (.cons rfl (.cons rfl (.nil)))) (by decide) (memc M1 (memc M0 (memc M6 mem0))) fun u4_13 Lo fs hres => ?_)
  obtain ⟨T3, t3, rfl, rfl, rfl, wt3, r3⟩ := hres
  have e3 := congrArg List.length r3
  simp only [List.length_append, cellsOf_length, Tr.row, List.length_nil, List.length_take, List.length_drop] at e3
  refine ⟨⟨(Sr), M3⟩, ?_⟩
  refine Qe rfl (q_assign rfl) (WE_end (WF_nil (thenN (WC_fr [(2, _)] (.cons rfl (.nil _)) (WC_ret ?_)))))
  refine ⟨_, [], [_], fun Z w hs => .tmp rfl (.nil), ?_, fun Z w hs => hs.out (Sr) (memc M0 T8)⟩
  exact ⟨_, _, rfl, rfl, rfl, wt3, by rw [r0]; simp only [r1, r2, r3, List.append_assoc]⟩

theorem build_r (A : Option Addr) (c : Nat) (ps : List Pc) (hok : PcOk ps) (hb : (pcsRow ps).length ≤ 1073741824) : Sp Tryz.prog 50 [.slice A ps.length c] [] [RdF pcD A c ps] (NP (pcsRow ps)) := build_n _ A c ps hok hb (Nat.le_refl _)
end Go.Proofs.YtcjbjkbghgjmdaaGreatDoor
/- Walks: rope, mend. -/
namespace Go.Proofs.YtcjbjkbghgjmdaaGreatDoor
open Go Go.GW
theorem Row.single {T : TypeId} {sz b : Nat} {cs : List Value} (hl : cs.length = sz) : Row T sz (.slice (some ⟨b, 0, none⟩) 1 1) 1 cs [(b, cellsO cs T)] :=
 ⟨by rw [hl, Nat.one_mul], .inr ⟨b, 1, [], rfl, by simp, by simp [hl], Nat.le_refl _, by simp [maxLen]⟩⟩
structure MeL (X : List Ce) (j : Nat) (t : Tr) (S : List Pc) (v : Value) (p : Part) (css : List (List Value)) : Prop where
 le : j ≤ 2
 wf : Wf t
 ok : PcOk S
 eq : t.row ++ pcsRow S = X
 row : Row 102 2 v S.length css.flatten p
structure MeR (X : List Ce) (l : Tr) (j : Nat) (t : Tr) (S : List Pc) (v : Value) (p : Part) (css : List (List Value)) : Prop where
 le : j ≤ 2
 wf : Wf t
 ok : PcOk S
 eq : l.row ++ (pcsRow S ++ t.row) = X
 row : Row 102 2 v S.length css.flatten p
structure MeJ (X : List Ce) (qs : List Pc) (i : Nat) (t : Tr) : Prop where
 le : i ≤ qs.length
 wf : Wf t
 eq : t.row = X ++ pcsRow (qs.take i)

set_option maxRecDepth 10000 in
theorem mend_r (Al Ar : Option Addr) (l r : Tr) (wl : Wf l) (wr : Wf r) (hb : l.row.length + r.row.length ≤ 1073741824) : Sp Tryz.prog 49 [.pointer Al, .pointer Ar] [] [TrF Al l, TrF Ar r] (NP (l.row ++ r.row)) := by
 refine Sp.of (n := 67) ⟨_, Tryz.func49, rfl, rfl, rfl, rfl⟩ (Nat.le_of_ble_eq_true rfl) fun Ps As => WC_fact (A := TrF none .nil) (fun _ _ _ => rfl) (WC_seq (WC_region (Lq (q_assign rfl) (WL_nil (thenN (WC_seq (WC_region (Lq (q_assign rfl) (WL_nil (thenN (WC_seq (WC_seq (WC_region (Lq (q_move rfl) (WL_nil (thenN (WC_block (WC_nilPart ?_))))))))))))))))))
 refine WC_fact (A := RepsF pcD [] []) (fun Z w _ => .nil) ?_
 refine WC_loopE (α := Nat × Option Addr × Tr × Value × Part × List Pc × List (List Value)) (fun (j, A, t, v, p, S, css) => 2 - j)
  (fun (j, A, t, v, p, S, css) => [(0, .pointer A), (1, .pointer Ar), (5, v), (14, .int .i64 j)])
  (fun (j, A, t, v, p, S, css) => (p :: Ps))
  (fun (j, A, t, v, p, S, css) => (TrF A t :: RepsF pcD S css :: TrF none .nil :: TrF Al l :: TrF Ar r :: As))
  (fun (j, A, t, v, p, S, css) => MeL l.row j t S v p css)
  (0, Al, l, .slice none 0 0, [], [], []) ?_ (.cons rfl (.cons rfl (.cons rfl (.cons rfl (.nil _))))) (Sk (Sr)) (memc M2 (fun _ h => h)) ?_
 ·exact ⟨Nat.zero_le _, wl, (fun p hp => by cases hp), by simp [pcsRow], Row.nil _ _⟩
 ·rintro ⟨j, AL, tL, v, pa, S, css⟩ hI
  have wtL := hI.wf
  have eI := congrArg List.length hI.eq
  simp only [List.length_append] at eI
  have okl := hI.ok.len
  refine WC_seq (WC_region (Lq (q_lss rfl rfl) (WL_nil (thenN (WC_seq (WC_cond rfl (fun h15 => ?_) (fun h15 => ?_)))))))
  ·have hj2 : j < 2 := by simp only [decide_eq_true_eq] at h15; omega
   refine WC_skip (thenN (WC_seq (WC_block (WC_seq ?_))))
   by_cases hztL : tL = .nil
   ·rw [hztL]
    refine WC_nilT M0 fun e => ?_
    subst e
    refine WC_region (Lq (q_move rfl) (Lq (q_pneq Un70 rfl rfl (by simp)) (WL_nil (thenN (WC_false rfl rfl (WC_skip (blockN (thenN (WC_region (Lq (q_add rfl rfl (wr64 (by omega)) (c := ((j + 1 : Nat) : Int))) (Lq (q_move rfl) (WL_nil (thenK ?_)))))))))))))
    refine ⟨(j + 1, none, .nil, v, pa, S, css), ?_, (.cons rfl (.cons rfl (.cons rfl (.cons rfl (.nil _))))), (Sk (Sr)), (fun _ h => h)⟩
    exact ⟨by show 2 - (j + 1) < 2 - j; omega, by omega, wnilT, hI.ok, by rw [← hztL]; exact hI.eq, hI.row⟩
   ·refine WC_some M0 hztL fun _ e => ?_
    subst e
    refine WC_region (Lq (q_move rfl) (Lq (q_pneq Un70 rfl rfl (by simp)) (WL_nil (thenN (WC_true rfl rfl (WC_seq (WC_region (Lq (q_move rfl) (WL_main rfl (OW_call0 (popLast_r _ tL wtL hztL (by omega)) (.cons rfl (.nil)) (by decide) (memc M0 mem0) fun u5_1 Lo fs hres => ?_))))))))))
    obtain ⟨A1, t1, s1, k1, C1, d1, rfl, rfl, rfl, wt1, n1, h1, r1⟩ := hres
    have e1 := congrArg List.length r1
    simp only [List.length_append, cellsOf_length] at e1
    have g1 := List.length_pos_iff.2 n1
    refine Lq (q_move rfl) (Lq (q_extract (vs := [_, _]) rfl rfl) (Lq (q_extract (vs := [_, _]) rfl rfl) (WL_main rfl (OW_alloc (cs := [_, _]) ti102 rfl (by decide) fun b7 => Lq (q_assign rfl) (WL_main rfl (OW_storeN (cs' := [_, _]) (vs := [_, _]) ti102 rfl rfl rfl rfl rfl (Nat.le_of_ble_eq_true rfl) (.z) (WL_nil (thenN (WC_freeze (e := pcD) (xs := S) (css := css) hI.row (.s (.z)) rfl M3 fun A6 c6 e6 => ?_)))))))))
    cases e6
    refine WC_region (Lq (q_move rfl) (Lq (q_loadN (vs := [_, _]) Un102 rfl ti102 rfl own0 rfl rfl) (WL_main rfl (OW_slice1 (cs := [_, _]) Un114 ti102 (by decide) (by decide) rfl rfl rfl rfl (by decide) fun b25 => Lq (q_move rfl) (WL_main rfl (OW_appendS (e := pcD) (ys := S) Un114 ti102 rfl (by decide) rfl rfl (Row.single rfl) M0 (by omega) (by unfold maxLen; omega) (by decide) (List.Perm.refl _) fun v27 p27 cs27 hr27 => Lq (q_assign rfl) (Lq (q_assign rfl) (WL_nil (blockN (thenN (WC_fact (A := RepsF pcD (⟨s1, k1⟩ :: S) (pcC s1 k1 C1 d1 :: cs27)) (fun Z w hs => .cons ⟨_, _, rfl, hs.facts _ M3⟩ (hs.facts _ M0)) ?_)))))))))))
    refine WC_region (Lq (q_add rfl rfl (wr64 (by omega)) (c := ((j + 1 : Nat) : Int))) (Lq (q_move rfl) (WL_nil (thenK ?_))))
    refine ⟨(j + 1, A1, t1, v27, p27, ⟨s1, k1⟩ :: S, pcC s1 k1 C1 d1 :: cs27), ?_, (.cons rfl (.cons rfl (.cons rfl (.cons rfl (.nil _))))), (Sk (Sd (Sr))), (memc M3 (memc M0 T7))⟩
    refine ⟨by show 2 - (j + 1) < 2 - j; omega, by omega, wt1, fun p hp => ?_, by rw [pcsRow_cons, ← List.append_assoc, ← r1]; exact hI.eq, ?_⟩
    ·rcases List.mem_cons.1 hp with rfl | hp
     ·exact ⟨n1, h1⟩
     ·exact hI.ok p hp
    ·rw [List.length_cons, Nat.add_comm, List.flatten_cons]; exact hr27
  ·refine WC_exit (thenExit (thenExit (blockHit (thenN (WC_seq (WC_seq (WC_region (Lq (q_move rfl) (WL_nil (thenN (WC_block ?_)))))))))))
   have hL := hI
   clear hI
   have wtL := hL.wf
   refine WC_loopE (α := Nat × Option Addr × Tr × Value × Part × List Pc × List (List Value)) (fun (j, A, t, v, p, S, css) => 2 - j)
    (fun (j, A, t, v, p, S, css) => [(1, .pointer A), (0, .pointer AL), (5, v), (29, .int .i64 j)])
    (fun (j, A, t, v, p, S, css) => (p :: Ps))
    (fun (j, A, t, v, p, S, css) => (TrF A t :: RepsF pcD S css :: TrF AL tL :: TrF none .nil :: TrF Al l :: TrF Ar r :: As))
    (fun (j, A, t, v, p, S, css) => MeR (l.row ++ r.row) tL j t S v p css)
    (0, Ar, r, v, pa, S, css) ?_ (.cons rfl (.cons rfl (.cons rfl (.cons rfl (.nil _))))) (Sk (Sr)) (memc M4 (memc M1 (memc M0 T2))) ?_
   ·exact ⟨Nat.zero_le _, wr, hL.ok, by rw [← List.append_assoc, hL.eq], hL.row⟩
   ·rintro ⟨j, AR, tR, v, pa, S, css⟩ hI
    have wtR := hI.wf
    have eI := congrArg List.length hI.eq
    simp only [List.length_append] at eI
    have okl := hI.ok.len
    refine WC_seq (WC_region (Lq (q_lss rfl rfl) (WL_nil (thenN (WC_seq (WC_cond rfl (fun h30 => ?_) (fun h30 => ?_)))))))
    ·have hj2 : j < 2 := by simp only [decide_eq_true_eq] at h30; omega
     refine WC_skip (thenN (WC_seq (WC_block (WC_seq ?_))))
     by_cases hztR : tR = .nil
     ·rw [hztR]
      refine WC_nilT M0 fun e => ?_
      subst e
      refine WC_region (Lq (q_move rfl) (Lq (q_pneq Un70 rfl rfl (by simp)) (WL_nil (thenN (WC_false rfl rfl (WC_skip (blockN (thenN (WC_region (Lq (q_add rfl rfl (wr64 (by omega)) (c := ((j + 1 : Nat) : Int))) (Lq (q_move rfl) (WL_nil (thenK ?_)))))))))))))
      refine ⟨(j + 1, none, .nil, v, pa, S, css), ?_, (.cons rfl (.cons rfl (.cons rfl (.cons rfl (.nil _))))), (Sk (Sr)), (fun _ h => h)⟩
      exact ⟨by show 2 - (j + 1) < 2 - j; omega, by omega, wnilT, hI.ok, by rw [← hztR]; exact hI.eq, hI.row⟩
     ·refine WC_some M0 hztR fun _ e => ?_
      subst e
      refine WC_region (Lq (q_move rfl) (Lq (q_pneq Un70 rfl rfl (by simp)) (WL_nil (thenN (WC_true rfl rfl (WC_seq (WC_region (Lq (q_move rfl) (WL_main rfl (OW_call0 (popFirst_r _ tR wtR hztR (by omega)) (.cons rfl (.nil)) (by decide) (memc M0 mem0) fun u11_1 Lo fs hres => ?_))))))))))
      obtain ⟨A2, t2, s2, k2, C2, d2, rfl, rfl, rfl, wt2, n2, h2, r2⟩ := hres
      have e2 := congrArg List.length r2
      simp only [List.length_append, cellsOf_length] at e2
      have g2 := List.length_pos_iff.2 n2
      refine Lq (q_move rfl) (Lq (q_extract (vs := [_, _]) rfl rfl) (Lq (q_extract (vs := [_, _]) rfl rfl) (WL_main rfl (OW_alloc (cs := [_, _]) ti102 rfl (by decide) fun b8 => WL_main rfl (OW_storeN (cs' := [_, _]) (vs := [_, _]) ti102 rfl rfl rfl rfl rfl (Nat.le_of_ble_eq_true rfl) (.z) (Lq (q_assign rfl) (WL_nil (thenN (WC_region (Lq (q_move rfl) (Lq (q_move rfl) (Lq (q_loadN (vs := [_, _]) Un102 rfl ti102 rfl own0 rfl rfl) ?_))))))))))))
      refine WL_main rfl (OW_slice1 (cs := [_, _]) Un114 ti102 (by decide) (by decide) rfl rfl rfl rfl (by decide) fun b41 => WL_main rfl (OW_append1 (news := [_, _]) Un114 ti102 rfl (by decide) rfl rfl hI.row own0 rfl rfl (by omega) (by unfold maxLen; omega) (by decide) (DelAt.perm (.s (.s (.z)))) fun v42 p42 hr42 => Lq (q_assign rfl) (Lq (q_assign rfl) (WL_nil (blockN (thenN (WC_repsAdd (u := (⟨s2, k2⟩ : Pc)) (cs := pcC s2 k2 C2 d2) M3 (fun Z w hs => ⟨_, _, rfl, hs.facts _ M1⟩) rfl (WC_region (Lq (q_add rfl rfl (wr64 (by omega)) (c := ((j + 1 : Nat) : Int))) (Lq (q_move rfl) (WL_nil (thenK ?_))))))))))))
      refine ⟨(j + 1, A2, t2, v42, p42, S ++ [⟨s2, k2⟩], css ++ [pcC s2 k2 C2 d2]), ?_, (.cons rfl (.cons rfl (.cons rfl (.cons rfl (.nil _))))), (Sk (Sd (Sd (Sr)))), (memc M1 (memc M0 T5))⟩
      refine ⟨by show 2 - (j + 1) < 2 - j; omega, by omega, wt2, PcOk.append.2 ⟨hI.ok, PcOk.one n2 h2⟩, ?_, ?_⟩
      ·rw [pcsRow_append, pcsRow_one, List.append_assoc, ← r2]; exact hI.eq
      ·rw [List.length_append, List.flatten_append]; exact hr42
    ·refine WC_exit (thenExit (thenExit (blockHit (thenN (WC_seq (WC_seq (WC_freeze (e := pcD) (xs := S) (css := css) hI.row (.z) rfl M1 fun A14 c14 e14 => ?_)))))))
     cases e14
     refine WC_region (Lq (q_move rfl) (WL_main rfl (OW_call0 (evened_s A14 c14 S hI.ok (by omega)) (.cons rfl (.nil)) (by decide) (memc M0 mem0) fun u14_1 Lo fs hres => ?_)))
     obtain ⟨Aq, cq, qs, rfl, rfl, rfl, hqok, hqs⟩ := hres
     have eq0 := congrArg List.length hqs
     have hql := hqok.len
     refine Lq (q_len Un114 rfl) (Lq (q_move rfl) (WL_nil (thenN (WC_block ?_))))
     refine WC_loopE (α := Nat × Option Addr × Tr) (fun (i, A, t) => qs.length - i)
      (fun (i, A, t) => [(0, .pointer A), (1, .pointer AR), (45, .slice Aq qs.length cq), (46, .int .i64 qs.length), (47, .int .i64 i)])
      (fun (i, A, t) => Ps)
      (fun (i, A, t) => (TrF A t :: RdF pcD Aq cq qs :: TrF AR tR :: TrF none .nil :: TrF Al l :: TrF Ar r :: As))
      (fun (i, A, t) => MeJ tL.row qs i t)
      (0, AL, tL) ?_ (.cons rfl (.cons rfl (.cons rfl (.cons rfl (.cons rfl (.nil _)))))) (Sr) (memc M4 (memc M0 (memc M2 T5))) ?_
     ·exact ⟨Nat.zero_le _, wtL, by simp [pcsRow]⟩
     ·rintro ⟨i, AJ, tJ⟩ hJ
      have wtJ := hJ.wf
      refine WC_seq (WC_region (Lq (q_lss rfl rfl) (WL_nil (thenN (WC_seq (WC_cond rfl (fun h48 => ?_) (fun h48 => ?_)))))))
      ·refine WC_skip (thenN (WC_seq (WC_block (WC_seq ?_))))
       try simp only [Bp, Bq] at *
       have hiq : i < qs.length := by omega
       have hsub := pcsRow_sub qs 0 i
       have hsub2 := pcsRow_sub qs 0 (i + 1)
       rw [List.drop_zero] at hsub hsub2
       have ht1 : qs.take (i + 1) = qs.take i ++ [qs[i]] := by rw [List.take_succ_eq_append_getElem hiq]
       rw [ht1, pcsRow_append, pcsRow_one, List.length_append, cellsOf_length] at hsub2
       have eJ := congrArg List.length hJ.eq
       rw [List.length_append] at eJ
       refine WC_elem (k := i) M1 (List.getElem?_eq_getElem hiq) (pc_open _) fun bk qk yk ek => ?_
       cases ek
       refine WC_region (Lq (q_idxRd Un114 ti102 rfl rfl (by omega) (by omega)) (Lq (q_loadFN (k := 0) (vs := [_, _]) Un102 rfl ti102 rfl M0 rfl rfl rfl) (WL_main rfl (OW_alloc (cs := [_, _]) ti102 rfl (by decide) fun b11 => WL_main rfl (OW_storeN (cs' := [_, _]) (vs := [_, _]) ti102 rfl rfl rfl rfl rfl (Nat.le_of_ble_eq_true rfl) (.z) (WL_nil (thenN (WC_region (Lq (q_move rfl) (Lq (q_loadN (vs := [_, _]) Un102 rfl ti102 rfl own0 rfl rfl) ?_))))))))))
       refine WL_main rfl (OW_call0 (join_r AJ none yk.1 yk.2 tJ Tr.nil (qs[i]).rs (qs[i]).hid wtJ wnilT (hqok _ (List.getElem_mem hiq)).1 (hqok _ (List.getElem_mem hiq)).2 (by simp only [Tr.row, List.length_nil]; omega)) (.cons rfl (.cons rfl (.cons rfl (.nil)))) (by decide) (memc M2 (memc M5 (memc M1 mem0))) fun u17_2 Lo fs hres => ?_)
       obtain ⟨T3, t3, rfl, rfl, rfl, wt3, r3⟩ := hres
       have e3 := congrArg List.length r3
       simp only [List.length_append, cellsOf_length, Tr.row, List.length_nil, List.length_take, List.length_drop] at e3
       refine Lq (q_assign rfl) (WL_nil (blockN (thenN (WC_region (Lq (q_add rfl rfl (wr64 (by omega)) (c := ((i + 1 : Nat) : Int))) (Lq (q_move rfl) (WL_nil (thenK ?_))))))))
       refine ⟨(i + 1, T3, t3), ?_, (.cons rfl (.cons rfl (.cons rfl (.cons rfl (.cons rfl (.nil _)))))), (Sd (Sr)), (memc M0 T4)⟩
       exact ⟨by show qs.length - (i + 1) < qs.length - i; omega, hiq, wt3, by rw [r3, hJ.eq, ht1, pcsRow_append, pcsRow_one]; simp [Tr.row]⟩
      ·refine WC_exit (thenExit (thenExit (blockHit (thenN (WC_seq (WC_seq ?_))))))
       try simp only [Bp, Bq] at *
       have hfin : i = qs.length := by have := hJ.le; omega
       have rJ : tJ.row ++ tR.row = l.row ++ r.row := by rw [hJ.eq, hfin, List.take_length, hqs, List.append_assoc]; exact hI.eq
       have eJ := congrArg List.length rJ
       simp only [List.length_append] at eJ
       by_cases hztR : tR = .nil
       ·rw [hztR]
        refine WC_nilT M2 fun e => ?_
        subst e
        refine WC_region (Lq (q_move rfl) (Lq (q_peql Un70 rfl rfl (by simp)) (WL_nil (thenN (WC_true rfl rfl (WC_seq (WC_region (Lq (q_move rfl) (Lq (q_assign rfl) (WL_nil (thenN (WC_ret (thenRet ?_)))))))))))))
        refine ⟨_, [], [_], fun Z w hs => .tmp rfl (.nil), ?_, fun Z w hs => hs.out (Sr) (memc M0 T4)⟩
        exact ⟨_, _, rfl, rfl, rfl, wtJ, by rw [← rJ, hztR]; simp [Tr.row]⟩
       ·refine WC_some M2 hztR fun _ e => ?_
        subst e
        refine WC_region (Lq (q_move rfl) (Lq (q_peql Un70 rfl rfl (by simp)) (WL_nil (thenN (WC_false rfl rfl (WC_skip (thenN (WC_seq (WC_region (Lq (q_move rfl) (WL_main rfl (OW_call0 (popFirst_r _ tR wtR hztR (by omega)) (.cons rfl (.nil)) (by decide) (memc M2 mem0) fun u21_1 Lo fs hres => ?_))))))))))))
        obtain ⟨A4, t4, s4, k4, C4, d4, rfl, rfl, rfl, wt4, n4, h4, r4⟩ := hres
        have e4 := congrArg List.length r4
        simp only [List.length_append, cellsOf_length] at e4
        have g4 := List.length_pos_iff.2 n4
        refine Lq (q_move rfl) (Lq (q_extract (vs := [_, _]) rfl rfl) (Lq (q_extract (vs := [_, _]) rfl rfl) (WL_main rfl (OW_alloc (cs := [_, _]) ti102 rfl (by decide) fun b12 => WL_main rfl (OW_storeN (cs' := [_, _]) (vs := [_, _]) ti102 rfl rfl rfl rfl rfl (Nat.le_of_ble_eq_true rfl) (.z) (Lq (q_assign rfl) (WL_nil (thenN (WC_seq (WC_region (Lq (q_move rfl) (Lq (q_loadN (vs := [_, _]) Un102 rfl ti102 rfl own0 rfl rfl) (Lq (q_move rfl) ?_)))))))))))))
        refine WL_main rfl (OW_call0 (join_r AJ A4 C4 d4 tJ t4 s4 k4 wtJ wt4 n4 h4 (by omega)) (.cons rfl (.cons rfl (.cons rfl (.nil)))) (by decide) (memc M2 (memc M0 (memc M1 mem0))) fun u22_3 Lo fs hres => ?_)
        obtain ⟨T5, t5, rfl, rfl, rfl, wt5, r5⟩ := hres
        have e5 := congrArg List.length r5
        simp only [List.length_append, cellsOf_length, Tr.row, List.length_nil, List.length_take, List.length_drop] at e5
        refine Lq (q_assign rfl) (WL_nil (thenN (WC_ret ?_)))
        refine ⟨_, [], [_], fun Z w hs => .tmp rfl (.nil), ?_, fun Z w hs => hs.out (Sd (Sr)) (memc M0 T7)⟩
        exact ⟨_, _, rfl, rfl, rfl, wt5, by rw [r5, ← rJ, r4]⟩

end Go.Proofs.YtcjbjkbghgjmdaaGreatDoor
/- The counters' rule: each cell's counter is the number of inserts that are off and of deletes that are on that have it; a right command keeps it. -/
namespace Go.Proofs.YtcjbjkbghgjmdaaGreatDoor
open Go Go.GW
def hidE (e : Ent) : Bool := (decide (e.op.kind = 1) && e.off) || (decide (e.op.kind = 2) && !e.off)
def cnt (es : List Ent) (q : Int) : Nat := es.countP fun e => hidE e && inRb q e.now
structure Rule (H : Hist) (row : List Ce) : Prop where
 len : (row.length : Int) = H.total
 cnt : ∀ (q : Nat) c, row[q]? = some c → c.2 = cnt H.ents q
structure EffOk (x : GOp) (row : List Ce) : Prop where
 ck : checkF x row.length = 0
 kind : x.kind = 1 ∨ x.kind = 2 ∨ x.kind = 3
 up : x.kind = 2 → ∀ (q : Nat) c, row[q]? = some c → inRb q x.rs = true → c.2 < 1048576
 dn : x.kind = 3 → ∀ (q : Nat) c, row[q]? = some c → inRb q x.rs = true → 1 ≤ c.2
theorem hidE_off (e : Ent) (b : Bool) : hidE (offE e b) = ((decide (e.op.kind = 1) && b) || (decide (e.op.kind = 2) && !b)) := rfl
theorem emptyB : ((⟨#[]⟩ : ByteArray) == ⟨#[]⟩) = true := by decide
theorem cnt_append (a b : List Ent) (q : Int) : cnt (a ++ b) q = cnt a q + cnt b q := by unfold cnt; rw [List.countP_append]
theorem cnt_cons (e : Ent) (b : List Ent) (q : Int) : cnt (e :: b) q = cnt b q + (if (hidE e && inRb q e.now) = true then 1 else 0) := by unfold cnt; rw [List.countP_cons]
theorem cnt_zipE (q : Int) : ∀ (xs : List GOp) (es : List Ent), Sames (es.map (·.op)) xs → cnt (zipE xs es) q = cnt es q
 | [], [], _ => rfl
 | x :: xs, e :: es, h => by
  cases h with
  | cons h hr =>
   unfold zipE
   rw [cnt_cons, cnt_cons, cnt_zipE q xs es hr]
   have : hidE ⟨x, e.now, e.off⟩ = hidE e := by unfold hidE; simp only [h.kind]
   rw [this]
 | [], e :: es, h => by cases h
 | x :: xs, [], h => by cases h
theorem cnt_new (q : Int) {i : Nat} {o : GOp} {nw : List Rg} {es : List Ent} {later : List GOp} (h : Sames ((es.drop i).map (·.op)) later) : cnt (newEnts i o nw es later) q = cnt es q + (if (decide (o.kind = 2) && inRb q nw) = true then 1 else 0) := by
 unfold newEnts
 rw [cnt_append, cnt_cons, cnt_zipE q _ _ h]
 have e1 : hidE ⟨o, nw, false⟩ = decide (o.kind = 2) := by unfold hidE; simp
 rw [e1]
 conv => rhs; rw [← List.take_append_drop i es, cnt_append]
 simp only
 omega
theorem cnt_le (es : List Ent) (q : Int) : cnt es q ≤ es.length := List.countP_le_length
theorem cnt_shift {T at_ n : Int} (q : Int) (ha : 0 ≤ at_ ∧ at_ ≤ T) (hn : 0 ≤ n) (hs : T + n ≤ 65535) : ∀ (es : List Ent), (∀ e ∈ es, Pls T e.now) → cnt (es.map (shiftE at_ n)) q = if q < at_ then cnt es q else if q < at_ + n then 0 else cnt es (q - n)
 | [], _ => by simp [cnt]
 | e :: es, h => by
  have ih := cnt_shift q ha hn hs es fun x hx => h x (List.mem_cons_of_mem _ hx)
  obtain ⟨t1, t2, t3, t4⟩ := thr_ok (h e List.mem_cons_self) (by omega) ha hn hs
  rw [List.map_cons, cnt_cons, ih]
  have e1 : hidE (shiftE at_ n e) = hidE e := rfl
  have e2 : inRb q (shiftE at_ n e).now = if q < at_ then inRb q e.now else if q < at_ + n then false else inRb (q - n) e.now := by
   rw [Bool.eq_iff_iff]
   have := t3 q
   rw [show (inRb q (shiftE at_ n e).now = true) ↔ memR q (thrF e.now at_ n).1 from inRb_iff, this]
   by_cases c1 : q < at_
   ·rw [if_pos c1, inRb_iff]
    constructor
    ·rintro (h | h)
     ·exact h.2
     ·omega
    ·intro h; exact .inl ⟨c1, h⟩
   ·rw [if_neg c1]
    by_cases c2 : q < at_ + n
    ·rw [if_pos c2]
     constructor
     ·rintro (h | h) <;> omega
     ·intro h; cases h
    ·rw [if_neg c2, inRb_iff]
     constructor
     ·rintro (h | h)
      ·omega
      ·exact h.2
     ·intro h; exact .inr ⟨by omega, h⟩
  rw [e1, e2]
  by_cases c1 : q < at_
  ·simp only [if_pos c1]; rw [cnt_cons]
  ·by_cases c2 : q < at_ + n
   ·simp only [if_neg c1, if_pos c2]; simp
   ·simp only [if_neg c1, if_neg c2]; rw [cnt_cons]
theorem effHead {x : GOp} (hk : x.kind = 1 ∨ x.kind = 2 ∨ x.kind = 3) (hc : x.c = 0) (hn : x.n = 0) (he : extraF x = false) : headF x := by
 refine ⟨by omega, fun h => ?_, by rw [he]; simp⟩
 omega
theorem runes_width {w : Int} {o : GOp} (h : Right w o) (hk : o.kind = 1) : ((runesF o.text).length : Int) = widthF o := by
 have h3 := insF_ok.1 ((check_ins hk h.w0).1 h.ck).2
 rw [(h.width.2.2.1 hk).2, utF_runes h3.1]
theorem put_row {H : Hist} (h : HV H) {i : Nat} {o : GOp} {es : List Ent} {nw : List Rg} {eff : GOp} (g : Good H i o) (p : PutIs H i o es nw eff) {row : List Ce} (hr : Rule H row) (hl : H.ents.length ≤ 1000) :
  (eff.kind ≠ 0 → EffOk eff row) ∧ (eff.kind = 0 → eff = zeroOp ∧ o.kind = 4) ∧ Rule ⟨newEnts i o nw es (carryF o (H.ops.drop i)).2, H.total + widthF o⟩ (applyRow eff row) := by
 obtain ⟨c1, c2, c3, c4, c5⟩ := cross_good h g
 have h0 := h.total0
 have hs := p.sames h g
 have hroom := g.room
 have hwid := g.right.width
 have hlen := hr.len
 rcases g.right.kind with hk | hk | hk
 ·obtain ⟨e1, e2, e3⟩ := p.ins hk
  have hti := c2.ins (c4.kind.trans hk)
  have hw2 : widthF (carryF o (H.ops.drop i)).1 = widthF o := c4.width
  have hins := insF_ok.1 ((check_ins hk g.right.w0).1 g.right.ck).2
  have hwk := (hwid.2.2.1 hk).2
  have hrun := runes_width g.right hk
  generalize hta : (carryF o (H.ops.drop i)).1.at_ = ta at *
  have hek : eff.kind = 1 := by rw [e3]; exact hk
  refine ⟨fun _ => ⟨?_, .inl hek, fun e => by omega, fun e => by omega⟩, fun e => by omega, ?_, ?_⟩
  ·rw [e3]
   refine (check_ins (o := { effF o with at_ := ta, text := o.text }) hk (by omega)).2 ⟨effHead (.inl hk) rfl rfl ?_, insF_ok.2 ⟨hins.1, hins.2.1, by show 0 ≤ ta ∧ ta ≤ _; omega, by show _ + (utF o.text).1 ≤ _; omega⟩⟩
   simp [extraF, effF, zeroOp, hk, emptyB]
  ·unfold applyRow
   rw [if_pos hek, e3]
   simp only [List.length_append, List.length_take, List.length_drop, cellsOf_length]
   omega
  ·intro q c hq
   show c.2 = (cnt (newEnts i o nw es (carryF o (H.ops.drop i)).2) q : Nat)
   rw [cnt_new q hs, e1, cnt_shift (T := H.total) q ⟨hti.1, hti.2.1⟩ hwid.1 (by omega) H.ents h.pls]
   simp only [hk, show ((1 : Int) = 2) = False from by simp, decide_false, Bool.false_and, Bool.false_eq_true, if_false, Nat.add_zero]
   unfold applyRow at hq
   rw [if_pos hek, e3] at hq
   simp only at hq
   have el1 : (row.take ta.toNat).length = ta.toNat := by rw [List.length_take]; omega
   by_cases d1 : (q : Int) < ta
   ·rw [List.getElem?_append_left (by omega), List.getElem?_take, if_pos (by omega)] at hq
    rw [if_pos d1]; exact hr.cnt q c hq
   ·rw [List.getElem?_append_right (by omega), el1] at hq
    rw [if_neg d1]
    by_cases d2 : (q : Int) < ta + widthF o
    ·rw [List.getElem?_append_left (by rw [cellsOf_length]; omega)] at hq
     rw [if_pos d2]
     unfold cellsOf at hq
     rw [List.getElem?_map] at hq
     cases hx : (runesF o.text)[q - ta.toNat]? with
     | none => rw [hx] at hq; cases hq
     | some x => rw [hx] at hq; simp only [Option.map_some, Option.some.injEq] at hq; subst hq; rfl
    ·rw [List.getElem?_append_right (by rw [cellsOf_length]; omega), cellsOf_length, List.getElem?_drop] at hq
     rw [if_neg d2]
     have := hr.cnt _ c hq
     rw [this]
     congr 2
     omega
 ·obtain ⟨e1, e2, e3⟩ := p.hide hk
  obtain ⟨t1, t2⟩ := c2.cov (c4.kind.trans hk) (by omega)
  generalize htr : (carryF o (H.ops.drop i)).1.rs = tr at *
  have hek : eff.kind = 2 := by rw [e3]; exact hk
  have hers : eff.rs = tr := by rw [e3]
  have hget := bumpL_get (k := 1) tr 0 row (Int.le_refl _) t2.norm (by rw [hlen]; exact t2.below)
  have happ : applyRow eff row = bumpL tr 1 row := by unfold applyRow; rw [if_neg (by omega), if_pos hek, hers]
  refine ⟨fun _ => ⟨?_, .inr (.inl hek), fun _ q c hq _ => ?_, fun e => by omega⟩, fun e => by omega, ?_, ?_⟩
  ·rw [e3]
   refine (check_cov (o := { effF o with rs := tr }) (.inl hk) (by omega)).2 ⟨effHead (.inr (.inl hk)) rfl rfl ?_, (rangesF_ok (by omega)).2 ⟨t1, by rw [hlen]; exact t2⟩⟩
   simp [extraF, effF, zeroOp, hk, emptyB]
  ·have := hr.cnt q c hq
   have := cnt_le H.ents q
   omega
  ·rw [happ, hget.1, hlen, hwid.2.2.2 (by omega)]; simp
  ·intro q c hq
   show c.2 = (cnt (newEnts i o nw es (carryF o (H.ops.drop i)).2) q : Nat)
   rw [cnt_new q hs, e1, e2]
   rw [happ, hget.2 q] at hq
   cases hx : row[q]? with
   | none => rw [hx] at hq; cases hq
   | some d =>
    rw [hx] at hq
    simp only [Option.map_some, Option.some.injEq] at hq
    have := hr.cnt q d hx
    subst hq
    simp only [hk, decide_true, Bool.true_and]
    by_cases hb : inRb q tr = true
    ·simp only [hb, if_true]; omega
    ·simp only [hb]; simpa using this
 ·obtain ⟨e1, e2, e3⟩ := p.status hk
  have hw0 := hwid.2.2.2 (by omega)
  obtain ⟨k0, hk0, hk1, e0, he0, hek0⟩ := g.target hk
  have hcn : ∀ q, cnt (newEnts i o nw es (carryF o (H.ops.drop i)).2) q = cnt es q := fun q => by
   rw [cnt_new q hs]; simp [hk]
  rcases turned_cases H i o with e | ⟨k, e, g1, g2, g3, g4, g5⟩
  ·rw [e] at e1 e3
   simp only at e1 e3
   have happ : applyRow eff row = row := by rw [e3]; rfl
   refine ⟨fun hh => absurd (by rw [e3]; rfl) hh, fun _ => ⟨e3, hk⟩, ?_, ?_⟩
   ·rw [happ, hlen, hw0]; simp
   ·intro q c hq
    rw [happ] at hq
    show c.2 = (cnt (newEnts i o nw es (carryF o (H.ops.drop i)).2) q : Nat)
    rw [hcn, e1]; exact hr.cnt q c hq
  ·rw [g5] at e1 e3
   simp only at e1 e3
   have hkk : k < H.ents.length := by
    rcases Nat.lt_or_ge k H.ents.length with h | h
    ·exact h
    ·rw [List.getElem?_eq_none h] at g2; cases g2
   have hge : H.ents[k] = e := by rw [List.getElem?_eq_getElem hkk] at g2; exact Option.some.inj g2
   obtain rfl : k0 = k := Option.some.inj (hk0.symm.trans g1)
   obtain rfl : e0 = e := Option.some.inj (he0.symm.trans g2)
   have hem : e0 ∈ H.ents := List.mem_of_getElem? g2
   have hpe := h.pls e0 hem
   have hne : e0.now ≠ [] := fun hh => hek0 ((h.edit e0 hem).2 hh)
   have hek : e0.op.kind = 1 ∨ e0.op.kind = 2 := by
    have h1 := h.ctx
    have h2 : ∀ (l : List GOp) (w : Int), CtxOk w l → ∀ x ∈ l, x.kind = 1 ∨ x.kind = 2 ∨ x.kind = 4 := by
     intro l
     induction l with
     | nil => intro w _ x hx; cases hx
     | cons y l ih =>
      intro w hc x hx
      rcases List.mem_cons.1 hx with rfl | hx
      ·exact hc.1.kind
      ·exact ih _ hc.2 x hx
    have := h2 _ _ h1 e0.op (List.mem_map.2 ⟨e0, hem, rfl⟩)
    omega
   have hcs : ∀ q, cnt es q + (if (hidE e0 && inRb q e0.now) = true then 1 else 0) = cnt H.ents q + (if (hidE (offE e0 (!o.on)) && inRb q e0.now) = true then 1 else 0) := by
    intro q
    rw [e1]
    unfold cnt
    rw [List.countP_set hkk]
    simp only [hge]
    have hpos : (if (hidE e0 && inRb q e0.now) = true then 1 else 0) ≤ H.ents.countP fun e => hidE e && inRb q e.now := by
     split
     ·rename_i hh
      exact List.countP_pos_iff.2 ⟨e0, hem, hh⟩
     ·omega
    have : (offE e0 (!o.on)).now = e0.now := rfl
    rw [this]
    omega
   have hcheck : ∀ kd : Int, (kd = 2 ∨ kd = 3) → eff.kind = kd → checkF eff row.length = 0 := by
    intro kd hkd hekd
    refine (check_cov (by omega) (by omega)).2 ⟨effHead (by omega) (by rw [e3]; rfl) (by rw [e3]; rfl) ?_, (rangesF_ok (by omega)).2 ⟨by rw [e3]; exact hne, by rw [hlen, e3]; exact hpe⟩⟩
    have h1 : eff.at_ = 0 := by rw [e3]; rfl
    have h2 : eff.text = ⟨#[]⟩ := by rw [e3]; rfl
    have h3 : eff.tc = 0 := by rw [e3]; rfl
    have h4 : eff.tn = 0 := by rw [e3]; rfl
    have h5 : eff.on = false := by rw [e3]; rfl
    have h6 : (⟨#[]⟩ : ByteArray) == ⟨#[]⟩ := by decide
    unfold extraF
    rw [h1, h2, h3, h4, h5]
    rcases hkd with rfl | rfl <;> simp [hekd, h6]
   have hers : eff.rs = e0.now := by rw [e3]; rfl
   have hon : o.on = e0.off := g3.symm
   by_cases hcase : (decide (e0.op.kind = 2) == o.on) = true
   ·have hekd : eff.kind = 2 := by rw [e3]; unfold turnF; simp only; rw [if_pos hcase]
    have happ : applyRow eff row = bumpL e0.now 1 row := by unfold applyRow; rw [if_neg (by omega), if_pos hekd, hers]
    have hget := bumpL_get (k := 1) e0.now 0 row (Int.le_refl _) hpe.norm (by rw [hlen]; exact hpe.below)
    have hh1 : hidE e0 = false ∧ hidE (offE e0 (!o.on)) = true := by
     rw [hidE_off]
     unfold hidE
     rw [hon] at hcase ⊢
     rcases hek with hh | hh <;> (rw [hh] at hcase ⊢; revert hcase; cases e0.off <;> decide)
    refine ⟨fun _ => ⟨hcheck 2 (.inl rfl) hekd, .inr (.inl hekd), fun _ q c hq _ => ?_, fun e => by omega⟩, fun e => by omega, ?_, ?_⟩
    ·have := hr.cnt q c hq
     have := cnt_le H.ents q
     omega
    ·rw [happ, hget.1, hlen, hw0]; simp
    ·intro q c hq
     show c.2 = (cnt (newEnts i o nw es (carryF o (H.ops.drop i)).2) q : Nat)
     rw [hcn]
     have hc := hcs q
     rw [hh1.1, hh1.2] at hc
     simp only [Bool.false_and, Bool.false_eq_true, if_false, Nat.add_zero, Bool.true_and] at hc
     rw [happ, hget.2 q] at hq
     cases hx : row[q]? with
     | none => rw [hx] at hq; cases hq
     | some d =>
      rw [hx] at hq
      simp only [Option.map_some, Option.some.injEq] at hq
      have := hr.cnt q d hx
      subst hq
      by_cases hb : inRb q e0.now = true
      ·rw [if_pos hb] at hc ⊢; simp only; omega
      ·rw [if_neg hb] at hc ⊢; omega
   ·have hekd : eff.kind = 3 := by rw [e3]; unfold turnF; simp only; rw [if_neg hcase]
    have happ : applyRow eff row = bumpL e0.now (-1) row := by unfold applyRow; rw [if_neg (by omega), if_neg (by omega), if_pos hekd, hers]
    have hget := bumpL_get (k := -1) e0.now 0 row (Int.le_refl _) hpe.norm (by rw [hlen]; exact hpe.below)
    have hh1 : hidE e0 = true ∧ hidE (offE e0 (!o.on)) = false := by
     rw [hidE_off]
     unfold hidE
     rw [hon] at hcase ⊢
     rcases hek with hh | hh <;> (rw [hh] at hcase ⊢; revert hcase; cases e0.off <;> decide)
    refine ⟨fun _ => ⟨hcheck 3 (.inr rfl) hekd, .inr (.inr hekd), fun e => by omega, fun _ q c hq hb => ?_⟩, fun e => by omega, ?_, ?_⟩
    ·have h1 := hr.cnt q c hq
     rw [hers] at hb
     have h2 : 0 < cnt H.ents q := by
      unfold cnt
      exact List.countP_pos_iff.2 ⟨e0, hem, by rw [hh1.1, hb]; rfl⟩
     omega
    ·rw [happ, hget.1, hlen, hw0]; simp
    ·intro q c hq
     show c.2 = (cnt (newEnts i o nw es (carryF o (H.ops.drop i)).2) q : Nat)
     rw [hcn]
     have hc := hcs q
     rw [hh1.1, hh1.2] at hc
     simp only [Bool.false_and, Bool.false_eq_true, if_false, Nat.add_zero, Bool.true_and] at hc
     rw [happ, hget.2 q] at hq
     cases hx : row[q]? with
     | none => rw [hx] at hq; cases hq
     | some d =>
      rw [hx] at hq
      simp only [Option.map_some, Option.some.injEq] at hq
      have := hr.cnt q d hx
      subst hq
      by_cases hb : inRb q e0.now = true
      ·rw [if_pos hb] at hc ⊢; simp only; omega
      ·rw [if_neg hb] at hc ⊢; omega
end Go.Proofs.YtcjbjkbghgjmdaaGreatDoor
/- Bump's loop, plain. -/
namespace Go.Proofs.YtcjbjkbghgjmdaaGreatDoor
open Go Go.GW
abbrev rpP (b : Nat) (A : Option Addr) : Part := [(b, cellsO [.pointer A] 72)]
def RpP (b : Nat) (X : List Ce) : Value → List Part → List Fact → Prop := fun v Lo fs => ∃ (A : Option Addr) (t : Tr), v = .int .i64 0 ∧ Lo = [rpP b A] ∧ fs = [TrF A t] ∧ Wf t ∧ t.row = X
/-- What a bump asks of the row. -/
structure BuOk (rs : List Rg) (k : Int) (row : List Ce) : Prop where
 ck : (ckF rs).2 = 0
 below : BelowR row.length rs
 cells : ∀ (q : Nat) c, row[q]? = some c → inRb q rs = true → 0 ≤ c.2 + k ∧ c.2 + k ≤ 1048576
structure BuI (rs : List Rg) (k : Int) (row : List Ce) (i : Nat) (t : Tr) : Prop where
 le : i ≤ rs.length
 wf : Wf t
 eq : t.row = bumpL (rs.take i) k row
theorem norm_take {b : Int} {rs : List Rg} (h : NormB b rs) (i : Nat) : NormB b (rs.take i) := by
 rw [← List.take_append_drop i rs] at h
 exact (normB_append.1 h).1
theorem BuOk.norm {rs : List Rg} {k : Int} {row : List Ce} (h : BuOk rs k row) : NormB 0 rs := (ckF_norm.1 h.ck).2.1
theorem BuI.len {rs : List Rg} {k : Int} {row : List Ce} {i : Nat} {t : Tr} (h : BuI rs k row i t) (ho : BuOk rs k row) : t.row.length = row.length := by
 rw [h.eq]
 exact (bumpL_get (k := k) _ 0 row (Int.le_refl _) (norm_take ho.norm i) (fun r hr => ho.below r (List.mem_of_mem_take hr))).1
theorem bumpL_succ {rs : List Rg} {k : Int} {row : List Ce} {i : Nat} (hi : i < rs.length) : bumpL (rs.take (i + 1)) k row = bump1 rs[i] k (bumpL (rs.take i) k row) := by
 unfold bumpL
 rw [List.take_succ_eq_append_getElem hi, List.foldl_append]; rfl
theorem BuI.slice {rs : List Rg} {k : Int} {row : List Ce} {i : Nat} {t : Tr} (h : BuI rs k row i t) (ho : BuOk rs k row) (hi : i < rs.length) : InR (up k ((t.row.drop rs[i].lo.toNat).take (rs[i].hi - rs[i].lo).toNat)) := by
 intro c hc
 obtain ⟨d, hd, rfl⟩ := mem_up.1 hc
 obtain ⟨j, hj, rfl⟩ := List.mem_iff_getElem.1 hd
 have hm := ho.norm.mem _ (List.getElem_mem hi)
 have hget := (bumpL_get (k := k) _ 0 row (Int.le_refl _) (norm_take ho.norm i) (fun r hr => ho.below r (List.mem_of_mem_take hr))).2
 rw [List.length_take, List.length_drop] at hj
 have e1 : ((t.row.drop rs[i].lo.toNat).take (rs[i].hi - rs[i].lo).toNat)[j]? = (bumpL (rs.take i) k row)[rs[i].lo.toNat + j]? := by
  rw [List.getElem?_take, if_pos (by omega), List.getElem?_drop, h.eq]
 rw [List.getElem?_eq_getElem (by rw [List.length_take, List.length_drop]; omega), hget] at e1
 have hnot : inRb ((rs[i].lo.toNat + j : Nat) : Int) (rs.take i) = false := inRb_false.2 fun hmem => by
  have hn := ho.norm
  rw [← List.take_append_drop i rs, List.drop_eq_getElem_cons hi] at hn
  have h2 := (normB_append.1 hn).2
  obtain ⟨r, hr, hq⟩ := hmem
  have h3 : ∀ (xs : List Rg) (b : Int), NormB b xs → ∀ r ∈ xs, r.hi + 1 ≤ endB b xs := by
   intro xs
   induction xs with
   | nil => intro b _ r hr; cases hr
   | cons x xs ih =>
    intro b hb r hr
    have h4 : ∀ (ys : List Rg) (b : Int), NormB b ys → b ≤ endB b ys := by
     intro ys
     induction ys with
     | nil => intro b _; exact Int.le_refl _
     | cons y ys ih2 => intro b hb; have := ih2 _ hb.2.2; have := hb.1; have := hb.2.1; simp only [endB]; omega
    rcases List.mem_cons.1 hr with rfl | hr
    ·exact h4 xs _ hb.2.2
    ·exact ih _ hb.2.2 r hr
  have h5 := h3 _ _ (normB_append.1 hn).1 r hr
  have h6 := h2.1
  omega
 have hin : inRb ((rs[i].lo.toNat + j : Nat) : Int) rs = true := inRb_iff.2 ⟨_, List.getElem_mem hi, by omega⟩
 cases hx : row[rs[i].lo.toNat + j]? with
 | none => rw [hx] at e1; cases e1
 | some c =>
  rw [hx, hnot] at e1
  simp only [Bool.false_eq_true, if_false, Option.map_some, Option.some.injEq] at e1
  have := ho.cells _ c hx hin
  rw [e1]
  exact this
theorem BuI.next {rs : List Rg} {k : Int} {row : List Ce} {i : Nat} {t t' : Tr} (h : BuI rs k row i t) (hi : i < rs.length) (hw : Wf t') (he : t'.row = bump1 rs[i] k t.row) : BuI rs k row (i + 1) t' := ⟨hi, hw, by rw [he, bumpL_succ hi, h.eq]⟩
theorem BuI.done {rs : List Rg} {k : Int} {row : List Ce} {i : Nat} {t : Tr} (h : BuI rs k row i t) (hi : ¬ i < rs.length) : t.row = bumpL rs k row := by
 have e : i = rs.length := by have := h.le; omega
 rw [h.eq, e, List.take_length]
theorem wf_mn {t : Tr} (h : Wf t) (hn : t.row ≠ []) : (∃ c ∈ t.row, c.2 = (allF t).mn) ∧ ∃ c ∈ t.row, c.2 = (allF t).mx := by
 cases t with
 | nil => exact absurd rfl hn
 | nd s l rs hid r plus => have := wf_sum h (by simp); exact ⟨this.mnI, this.mxI⟩
end Go.Proofs.YtcjbjkbghgjmdaaGreatDoor
/- Walks: add. -/
namespace Go.Proofs.YtcjbjkbghgjmdaaGreatDoor
open Go Go.GW
set_option maxRecDepth 10000 in
theorem add_1 (v : Value) (xs : List Rg) (p : Part) (lo hi : Int) (hr : Row 119 2 v xs.length (rgs xs) p) (h : hi ≤ lo) : Sp Tryz.prog 61 [v, .int .i64 lo, .int .i64 hi] [p] [] (fun v' Lo fs => ∃ p', Row 119 2 v' (addF xs lo hi).length (rgs (addF xs lo hi)) p' ∧ Lo = [p'] ∧ fs = []) := by
 refine Sp.of (n := 46) ⟨_, Tryz.func61, rfl, rfl, rfl, rfl⟩ (Nat.le_of_ble_eq_true rfl) fun Ps As => WC_seq (WC_region (Lq (q_assign rfl) (WL_nil (thenN (WC_seq (WC_seq (WC_region (Lq (q_move rfl) (Lq (q_move rfl) (Lq (q_geq rfl rfl) (WL_nil (thenN (WC_true rfl (by simpa using h) (WC_seq (WC_region ?_)))))))))))))))
 refine Lq (q_move rfl) (Lq (q_assign rfl) (WL_nil (thenN (WC_ret (thenRet ?_)))))
 refine ⟨_, [p], [], fun Z w hs => .tmp rfl (.nil), ?_, fun Z w hs => hs.out (Sk (Sr)) (fun _ h => h)⟩
 exact ⟨p, by rw [addF_skip h]; exact hr, rfl, rfl⟩

theorem bd37_0_1Xw3 (x0_ : Int) (x1_ : Int) (w : World) : (Instr.build 119 #[(0, .int .i64 x0_), (1, .int .i64 x1_)]).run Tryz.prog w = .ok (.agg #[.int .i64 x0_, .int .i64 x1_]) w := by kernel_rfl

set_option maxRecDepth 10000 in
theorem add_2 (v : Value) (p : Part) (lo hi : Int) (hr : Row 119 2 v 0 (rgs []) p) (h : ¬ hi ≤ lo) : Sp Tryz.prog 61 [v, .int .i64 lo, .int .i64 hi] [p] [] (fun v' Lo fs => ∃ p', Row 119 2 v' (addF [] lo hi).length (rgs (addF [] lo hi)) p' ∧ Lo = [p'] ∧ fs = []) := by
 obtain ⟨A, cap, rfl⟩ := hr.slice
 refine Sp.of (n := 46) ⟨_, Tryz.func61, rfl, rfl, rfl, rfl⟩ (Nat.le_of_ble_eq_true rfl) fun Ps As => WC_seq (WC_region (Lq (q_assign rfl) (WL_nil (thenN (WC_seq (WC_seq (WC_region (Lq (q_move rfl) (Lq (q_move rfl) (Lq (q_geq rfl rfl) (WL_nil (thenN (WC_false rfl (by simpa using h) (WC_skip (thenN (WC_seq (WC_seq (WC_region ?_))))))))))))))))))
 refine Lq (q_move rfl) (Lq (q_len Un45 rfl) (Lq (q_assign rfl) (WL_nil (thenN (WC_seq (WC_region (Lq (q_move rfl) (Lq (q_gtr rfl rfl) (Lq (q_move rfl) (Ln rfl rfl rfl (by simp) (Ln rfl rfl rfl (by simp) (Ln rfl rfl rfl (by simp) ?_))))))))))))
 refine Ln rfl rfl rfl (by simp) (Ln rfl rfl rfl (by simp) (Ln rfl rfl rfl (by simp) (Ln rfl rfl rfl (by simp) (Ln rfl rfl rfl (by simp) (Lq (q_pickF rfl (by simp) rfl) (WL_nil (thenN (WC_fr [(25, _), (7, _), (6, _), (0, _), (1, _), (2, _)] (.cons rfl (.cons rfl (.cons rfl (.cons rfl (.cons rfl (.cons rfl (.nil _))))))) (WC_false rfl rfl (WC_skip (thenN (WC_seq (WC_region (Lq (q_move rfl) ?_))))))))))))))
 refine Lq (q_move rfl) (Lq (q_move rfl) (Lq (q_build (.cons rfl (.cons rfl (.nil))) (bd37_0_1Xw3 _ _)) (WL_main rfl (OW_slice1 (cs := [_, _]) Un45 ti119 (by decide) (by decide) rfl rfl rfl rfl (by decide) fun b44 => WL_main rfl (OW_append1 (news := [_, _]) Un45 ti119 rfl (by decide) rfl rfl hr own0 rfl rfl (by omega) (by unfold maxLen; omega) (by decide) (DelAt.perm (.s (.z))) fun v45 p45 hr45 => Lq (q_assign rfl) (WL_nil (thenN (WC_ret ?_))))))))
 refine ⟨_, [p45], [], fun Z w hs => .tmp rfl (.nil), ?_, fun Z w hs => hs.out (Sk (Sd (Sr))) (fun _ h => h)⟩
 exact ⟨p45, by rw [addF_nil h, rgs_one]; exact hr45, rfl, rfl⟩


set_option maxRecDepth 10000 in
theorem add_3 (v : Value) (ys : List Rg) (r : Rg) (p : Part) (lo hi : Int) (hr : Row 119 2 v (ys ++ [r]).length (rgs (ys ++ [r])) p) (hb : ys.length ≤ 1000000) (h : ¬ hi ≤ lo) (hj : lo ≤ r.hi) : Sp Tryz.prog 61 [v, .int .i64 lo, .int .i64 hi] [p] [] (fun v' Lo fs => ∃ p', Row 119 2 v' (addF (ys ++ [r]) lo hi).length (rgs (addF (ys ++ [r]) lo hi)) p' ∧ Lo = [p'] ∧ fs = []) := by
 have hn : (ys ++ [r]).length = ys.length + 1 := by simp
 obtain ⟨hlen, ⟨_, h0, _⟩ | ⟨b, cap, jk, rfl, rfl, h1, h2, h3⟩⟩ := hr
 ·omega
 have hcs : (rgs (ys ++ [r]) ++ jk).length = ((ys ++ [r]).length) * 2 + jk.length := by rw [List.length_append, hlen]
 have hix : ((((ys ++ [r]).length : Nat) : Int) - 1).toNat = ys.length := by omega
 refine Sp.of (n := 46) ⟨_, Tryz.func61, rfl, rfl, rfl, rfl⟩ (Nat.le_of_ble_eq_true rfl) fun Ps As => WC_seq (WC_region (Lq (q_assign rfl) (WL_nil (thenN (WC_seq (WC_seq (WC_region (Lq (q_move rfl) (Lq (q_move rfl) (Lq (q_geq rfl rfl) (WL_nil (thenN (WC_false rfl (by simpa using h) (WC_skip (thenN (WC_seq (WC_seq (WC_region ?_))))))))))))))))))
 refine Lq (q_move rfl) (Lq (q_len Un45 rfl) (Lq (q_assign rfl) (WL_nil (thenN (WC_seq (WC_region (Lq (q_move rfl) (Lq (q_gtr rfl rfl) (Lq (q_move rfl) (Lg rfl rfl rfl (by simp) (q_move rfl) (Lg rfl rfl rfl (by simp) (q_move rfl) (Lg rfl rfl rfl (by simp) (q_sub rfl rfl (wr64 (by omega))) ?_))))))))))))
 refine Lg rfl rfl rfl (by simp) (q_idxOwn Un45 ti119 rfl rfl (by omega) (by omega)) (Lg rfl rfl rfl (by simp) (q_field (o' := _ + 1) Un119 rfl ti3 rfl rfl) (Lg rfl rfl rfl (by simp) (q_load1 Un3 rfl rfl own0 (by rw [hix]; exact rgs_last ys r jk)) (Lg rfl rfl rfl (by simp) (q_move rfl) (Lg rfl rfl rfl (by simp) (q_geq rfl rfl) (Lq (q_pickT rfl (by simp) rfl) (WL_nil (thenN (WC_fr [(25, _), (7, _), (6, _), (0, _), (1, _), (2, _)] (.cons rfl (.cons rfl (.cons rfl (.cons rfl (.cons rfl (.cons rfl (.nil _))))))) (WC_true rfl (by simpa using hj) (WC_seq (WC_region ?_)))))))))))
 refine Lq (q_move rfl) (Lq (q_move rfl) (Lq (q_sub rfl rfl (wr64 (by omega))) (Lq (q_move rfl) (Lq (q_move rfl) (Lq (q_sub rfl rfl (wr64 (by omega))) (Lq (q_idxOwn Un45 ti119 rfl rfl (by omega) (by omega)) (Lq (q_field (o' := _ + 1) Un119 rfl ti3 rfl rfl) (Lq (q_load1 Un3 rfl rfl own0 (by rw [hix]; exact rgs_last ys r jk)) (Lq (q_move rfl) ?_)))))))))
 refine Lq (q_max rfl rfl) (Lq (q_idxOwn Un45 ti119 rfl rfl (by omega) (by omega)) (Lq (q_field (o' := _ + 1) Un119 rfl ti3 rfl rfl) (WL_main rfl (OW_storeC ti3 rfl rfl rfl (by rw [hcs, hix]; omega) (.z) (WL_nil (thenN (WC_fr [(6, _), (0, _), (1, _), (2, _)] (.cons rfl (.cons rfl (.cons rfl (.cons rfl (.nil _))))) (WC_seq (WC_region (Lq (q_move rfl) (Lq (q_assign rfl) (WL_nil (thenN (WC_ret (thenRet ?_)))))))))))))))
 refine ⟨_, [_], [], fun Z w hs => .tmp rfl (.nil), ?_, fun Z w hs => hs.out (Sk (Sr)) (fun _ h => h)⟩
 refine ⟨_, ?_, rfl, rfl⟩
 rw [addF_join h hj, hix, rgs_set, show (ys ++ [r]).length = (ys ++ [(⟨r.lo, max r.hi hi⟩ : Rg)]).length from by simp]
 refine ⟨rgs_length _, .inr ⟨b, cap, jk, rfl, rfl, ?_, by simpa using h2, h3⟩⟩
 rw [List.length_append, rgs_length] at h1 ⊢
 simpa using h1


set_option maxRecDepth 10000 in
theorem add_4 (v : Value) (ys : List Rg) (r : Rg) (p : Part) (lo hi : Int) (hr : Row 119 2 v (ys ++ [r]).length (rgs (ys ++ [r])) p) (hb : ys.length ≤ 1000000) (h : ¬ hi ≤ lo) (hj : ¬ lo ≤ r.hi) : Sp Tryz.prog 61 [v, .int .i64 lo, .int .i64 hi] [p] [] (fun v' Lo fs => ∃ p', Row 119 2 v' (addF (ys ++ [r]) lo hi).length (rgs (addF (ys ++ [r]) lo hi)) p' ∧ Lo = [p'] ∧ fs = []) := by
 have hr0 := hr
 have hn : (ys ++ [r]).length = ys.length + 1 := by simp
 obtain ⟨hlen, ⟨_, h0, _⟩ | ⟨b, cap, jk, rfl, rfl, h1, h2, h3⟩⟩ := hr
 ·omega
 have hcs : (rgs (ys ++ [r]) ++ jk).length = ((ys ++ [r]).length) * 2 + jk.length := by rw [List.length_append, hlen]
 have hix : ((((ys ++ [r]).length : Nat) : Int) - 1).toNat = ys.length := by omega
 refine Sp.of (n := 46) ⟨_, Tryz.func61, rfl, rfl, rfl, rfl⟩ (Nat.le_of_ble_eq_true rfl) fun Ps As => WC_seq (WC_region (Lq (q_assign rfl) (WL_nil (thenN (WC_seq (WC_seq (WC_region (Lq (q_move rfl) (Lq (q_move rfl) (Lq (q_geq rfl rfl) (WL_nil (thenN (WC_false rfl (by simpa using h) (WC_skip (thenN (WC_seq (WC_seq (WC_region ?_))))))))))))))))))
 refine Lq (q_move rfl) (Lq (q_len Un45 rfl) (Lq (q_assign rfl) (WL_nil (thenN (WC_seq (WC_region (Lq (q_move rfl) (Lq (q_gtr rfl rfl) (Lq (q_move rfl) (Lg rfl rfl rfl (by simp) (q_move rfl) (Lg rfl rfl rfl (by simp) (q_move rfl) (Lg rfl rfl rfl (by simp) (q_sub rfl rfl (wr64 (by omega))) ?_))))))))))))
 refine Lg rfl rfl rfl (by simp) (q_idxOwn Un45 ti119 rfl rfl (by omega) (by omega)) (Lg rfl rfl rfl (by simp) (q_field (o' := _ + 1) Un119 rfl ti3 rfl rfl) (Lg rfl rfl rfl (by simp) (q_load1 Un3 rfl rfl own0 (by rw [hix]; exact rgs_last ys r jk)) (Lg rfl rfl rfl (by simp) (q_move rfl) (Lg rfl rfl rfl (by simp) (q_geq rfl rfl) (Lq (q_pickT rfl (by simp) rfl) (WL_nil (thenN (WC_fr [(25, _), (7, _), (6, _), (0, _), (1, _), (2, _)] (.cons rfl (.cons rfl (.cons rfl (.cons rfl (.cons rfl (.cons rfl (.nil _))))))) (WC_false rfl (by simpa using hj) (WC_skip (thenN (WC_seq (WC_region ?_)))))))))))))
 refine Lq (q_move rfl) (Lq (q_move rfl) (Lq (q_move rfl) (Lq (q_build (.cons rfl (.cons rfl (.nil))) (bd37_0_1Xw3 _ _)) (WL_main rfl (OW_slice1 (cs := [_, _]) Un45 ti119 (by decide) (by decide) rfl rfl rfl rfl (by decide) fun b44 => WL_main rfl (OW_append1 (news := [_, _]) Un45 ti119 rfl (by decide) rfl rfl hr0 own0 rfl rfl (by omega) (by unfold maxLen; omega) (by decide) (DelAt.perm (.s (.z))) fun v45 p45 hr45 => Lq (q_assign rfl) (WL_nil (thenN (WC_ret ?_)))))))))
 refine ⟨_, [p45], [], fun Z w hs => .tmp rfl (.nil), ?_, fun Z w hs => hs.out (Sk (Sd (Sr))) (fun _ h => h)⟩
 exact ⟨p45, by rw [addF_more h hj, rgs_append (ys ++ [r]), rgs_one, List.length_append]; exact hr45, rfl, rfl⟩

theorem add_s (v : Value) (xs : List Rg) (p : Part) (lo hi : Int) (hr : Row 119 2 v xs.length (rgs xs) p) (hb : xs.length ≤ 1000000) : Sp Tryz.prog 61 [v, .int .i64 lo, .int .i64 hi] [p] [] (fun v' Lo fs => ∃ p', Row 119 2 v' (addF xs lo hi).length (rgs (addF xs lo hi)) p' ∧ Lo = [p'] ∧ fs = []) := by
 by_cases h : hi ≤ lo
 ·exact add_1 v xs p lo hi hr h
 ·rcases List.eq_nil_or_concat xs with rfl | ⟨ys, r, rfl⟩
  ·exact add_2 v p lo hi hr h
  ·rw [List.concat_eq_append] at *
   have hb' : ys.length ≤ 1000000 := by simp at hb; omega
   by_cases hj : lo ≤ r.hi
   ·exact add_3 v ys r p lo hi hr hb' h hj
   ·exact add_4 v ys r p lo hi hr hb' h hj
theorem bounded_1 (A : Option Addr) (c : Nat) (xs : List Rg) (h : xs.length > 32768) : Sp Tryz.prog 62 [.slice A xs.length c] [] [] (Is (.tuple #[.slice none 0 0, .int .i64 21])) := by
 have := bounded_s A c xs
 unfold bndV at this
 rwa [if_pos h] at this
theorem bounded_2 (A : Option Addr) (c : Nat) (xs : List Rg) (h : ¬ xs.length > 32768) : Sp Tryz.prog 62 [.slice A xs.length c] [] [] (Is (.tuple #[.slice A xs.length c, .int .i64 0])) := by
 have := bounded_s A c xs
 unfold bndV at this
 rwa [if_neg h] at this
end Go.Proofs.YtcjbjkbghgjmdaaGreatDoor
/- Walks: span.Check. -/
namespace Go.Proofs.YtcjbjkbghgjmdaaGreatDoor
open Go Go.GW
set_option maxRecDepth 10000 in
theorem check_s (A : Option Addr) (c : Nat) (xs : List Rg) (hl : xs.length ≤ 4398046511104) : Sp Tryz.prog 53 [.slice A xs.length c] [] [RdF rgD A c xs] (Is (.tuple #[.int .i64 (ckF xs).1, .int .i64 (ckF xs).2])) := by
 refine Sp.of (n := 47) ⟨_, Tryz.func53, rfl, rfl, rfl, rfl⟩ (Nat.le_of_ble_eq_true rfl) fun Ps As => WC_seq (WC_region (Lq (q_assign rfl) (Lq (q_assign rfl) (WL_nil (thenN (WC_seq (WC_seq (WC_region (Lq (q_move rfl) (Lq (q_len Un45 rfl) (Lq (q_gtr rfl rfl) (WL_nil (thenN (WC_cond rfl (fun h8 => ?_) (fun h8 => ?_)))))))))))))))
 ·refine WC_seq (WC_region (Lq (q_assign rfl) (Lq (q_assign rfl) (WL_nil (thenN (WC_ret (thenRet ?_)))))))
  refine ⟨_, [], [], fun Z w hs => .tmp rfl (.tmp rfl (.nil)), ?_, fun Z w hs => hs.out (Sr) (fun _ h => h)⟩
  try simp only [Bp, Bq] at *
  exact ⟨by unfold ckF; rw [if_pos (by omega)]; rfl, rfl, rfl⟩
 ·refine WC_skip (thenN (WC_seq (WC_seq (WC_region (Lq (q_move rfl) (Lq (q_len Un45 rfl) (Lq (q_move rfl) (WL_nil (thenN (WC_block ?_))))))))))
  refine WC_loopE (α := Nat) (fun k => xs.length - k)
   (fun k => [(0, .slice A xs.length c), (9, .slice A xs.length c), (10, .int .i64 xs.length), (11, .int .i64 k)])
   (fun k => Ps)
   (fun k => (RdF rgD A c xs :: As))
   (fun k => CkI xs k)
   0 ?_ (.cons rfl (.cons rfl (.cons rfl (.cons rfl (.nil _))))) (Sr) (fun _ h => h) ?_
  ·simp only [decide_eq_false_iff_not] at h8
   exact CkI.zero (by omega)
  ·rintro k hI
   refine WC_seq (WC_region (Lq (q_lss rfl rfl) (WL_nil (thenN (WC_seq (WC_cond rfl (fun h12 => ?_) (fun h12 => ?_)))))))
   ·refine WC_skip (thenN (WC_seq (WC_block (WC_seq ?_))))
    have hk : k < xs.length := by simpa using h12
    refine WC_elem (k := k) M0 (List.getElem?_eq_getElem hk) (rg_open _) fun b5 q5 y5 e5 => ?_
    cases e5
    refine WC_region (Lq (q_move rfl) (Lq (q_idxRd Un45 ti119 rfl rfl (by omega) (by omega)) (Lq (q_loadFN (k := 0) (vs := [_, _]) Un119 rfl ti119 rfl M0 rfl rfl rfl) (WL_main rfl (OW_alloc (cs := [_, _]) ti119 rfl (by decide) fun b5 => Lq (q_assign rfl) (WL_main rfl (OW_storeN (cs' := [_, _]) (vs := [_, _]) ti119 rfl rfl rfl rfl rfl (Nat.le_of_ble_eq_true rfl) (.z) (WL_nil (thenN (WC_seq (WC_seq (WC_region (Lq (q_field (o' := 0) Un119 rfl ti3 rfl rfl) (Lq (q_load1 Un3 rfl rfl own0 rfl) ?_))))))))))))))
    refine Lq (q_lss rfl rfl) (Lq (q_move rfl) (WL_guard (t := 19) rfl (fun g19 => ?_) (fun g19 => ?_)))
    ·refine Ln rfl rfl rfl g19 (Ln rfl rfl rfl g19 (Ln rfl rfl rfl g19 (Lq (q_pickT rfl g19 rfl) (Lq (q_move rfl) (Ln rfl rfl rfl rfl (Ln rfl rfl rfl rfl (Ln rfl rfl rfl rfl (Ln rfl rfl rfl rfl (Ln rfl rfl rfl rfl ?_)))))))))
     refine Lq (q_pickT rfl rfl rfl) (WL_nil (thenN (WC_true rfl rfl (WC_seq (WC_region (Lq (q_move rfl) (Lq (q_assign rfl) (Lq (q_assign rfl) (WL_nil (thenN (WC_ret (thenRet (blockRet (thenRet (thenRet (blockRet (thenRet ?_)))))))))))))))))
     refine ⟨_, [], [], fun Z w hs => .tmp rfl (.tmp rfl (.nil)), ?_, fun Z w hs => hs.out (Sd (Sr)) T1⟩
     try simp only [Bp, Bq] at *
     first
      | (have hF := CkI.bad hI hk (by omega); exact ⟨by rw [hF]; rfl, rfl, rfl⟩)
      | (have hF := CkI.ord hI hk (by omega) (by omega); exact ⟨by rw [hF]; rfl, rfl, rfl⟩)
      | (have hF := CkI.done hI (by omega); exact ⟨by rw [hF]; rfl, rfl, rfl⟩)
    ·refine Lg rfl rfl rfl g19 (q_field (o' := 1) Un119 rfl ti3 rfl rfl) (Lg rfl rfl rfl g19 (q_load1 Un3 rfl rfl own0 rfl) (Lg rfl rfl rfl g19 (q_gtr rfl rfl) (Lq (q_pickF rfl g19 rfl) (Lq (q_move rfl) (WL_guard (t := 24) rfl (fun g24 => ?_) (fun g24 => ?_))))))
     ·refine Ln rfl rfl rfl g24 (Ln rfl rfl rfl g24 (Ln rfl rfl rfl g24 (Ln rfl rfl rfl g24 (Ln rfl rfl rfl g24 (Lq (q_pickT rfl g24 rfl) (WL_nil (thenN (WC_true rfl rfl (WC_seq (WC_region (Lq (q_move rfl) (Lq (q_assign rfl) (Lq (q_assign rfl) ?_)))))))))))))
      refine WL_nil (thenN (WC_ret (thenRet (blockRet (thenRet (thenRet (blockRet (thenRet ?_))))))))
      refine ⟨_, [], [], fun Z w hs => .tmp rfl (.tmp rfl (.nil)), ?_, fun Z w hs => hs.out (Sd (Sr)) T1⟩
      try simp only [Bp, Bq] at *
      first
       | (have hF := CkI.bad hI hk (by omega); exact ⟨by rw [hF]; rfl, rfl, rfl⟩)
       | (have hF := CkI.ord hI hk (by omega) (by omega); exact ⟨by rw [hF]; rfl, rfl, rfl⟩)
       | (have hF := CkI.done hI (by omega); exact ⟨by rw [hF]; rfl, rfl, rfl⟩)
     ·refine Lg rfl rfl rfl g24 (q_field (o' := 0) Un119 rfl ti3 rfl rfl) (Lg rfl rfl rfl g24 (q_load1 Un3 rfl rfl own0 rfl) (Lg rfl rfl rfl g24 (q_field (o' := 1) Un119 rfl ti3 rfl rfl) (Lg rfl rfl rfl g24 (q_load1 Un3 rfl rfl own0 rfl) (Lg rfl rfl rfl g24 (q_geq rfl rfl) (Lq (q_pickF rfl g24 rfl) (WL_nil (thenN (WC_cond rfl (fun h30 => ?_) (fun h30 => ?_)))))))))
      ·refine WC_seq (WC_region (Lq (q_move rfl) (Lq (q_assign rfl) (Lq (q_assign rfl) (WL_nil (thenN (WC_ret (thenRet (blockRet (thenRet (thenRet (blockRet (thenRet ?_)))))))))))))
       refine ⟨_, [], [], fun Z w hs => .tmp rfl (.tmp rfl (.nil)), ?_, fun Z w hs => hs.out (Sd (Sr)) T1⟩
       try simp only [Bp, Bq] at *
       first
        | (have hF := CkI.bad hI hk (by omega); exact ⟨by rw [hF]; rfl, rfl, rfl⟩)
        | (have hF := CkI.ord hI hk (by omega) (by omega); exact ⟨by rw [hF]; rfl, rfl, rfl⟩)
        | (have hF := CkI.done hI (by omega); exact ⟨by rw [hF]; rfl, rfl, rfl⟩)
      ·refine WC_skip (thenN (WC_seq ?_))
       rcases k with _ | k
       ·refine WC_draw _ _ [] (.c 0 0 (.c 1 0 (.c 2 0 (.c 3 0 (.c 4 0 (.c 5 0 (.c 6 0 (.c 7 0 (.c 8 0 (.c 9 0 (.c 10 0 (.c 11 0 (.c 12 0 .nil))))))))))))) mixed (fun _ _ _ _ h => h) (Sk (Sr)) (fun _ h => h) (by kernel_rfl) (by decide) fun ws Z0 => Qe rfl (q_move rfl) (Qe rfl (q_gtr rfl rfl) (Qe rfl (q_move rfl) (WE_gno rfl rfl rfl rfl (by simp) (by decide) (WE_gno rfl rfl rfl rfl (by simp) (by decide) (WE_gno rfl rfl rfl rfl (by simp) (by decide) (WE_gno rfl rfl rfl rfl (by simp) (by decide) (WE_gno rfl rfl rfl rfl (by simp) (by decide) (WE_gno rfl rfl rfl rfl (by simp) (by decide) ?_))))))))
        refine WE_gno rfl rfl rfl rfl (by simp) (by decide) (WE_gno rfl rfl rfl rfl (by simp) (by decide) (WE_gno rfl rfl rfl rfl (by simp) (by decide) (Qe rfl (q_pickF rfl (by simp) rfl) (WE_end (WF_nil (thenN (WC_false rfl rfl (WC_skip (blockN (thenN (WC_region (Lq (q_add rfl rfl (wr64 (by omega))) (Lq (q_move rfl) (WL_nil (thenK ?_)))))))))))))))
        refine ⟨0 + 1, ?_, (.cons rfl (.cons rfl (.cons rfl (.cons rfl (.nil _))))), (Sd (Sr)), T2⟩
        try simp only [Bp, Bq] at *
        exact ⟨by omega, by first | exact CkI.first hI hk (by omega) | exact CkI.next hI hk (by omega) (by omega)⟩
       ·refine WC_elem (k := k) M1 (List.getElem?_eq_getElem (by omega : k < xs.length)) (rg_open _) fun b7 q7 y7 e7 => ?_
        cases e7
        refine WC_draw _ _ [] (.c 0 0 (.c 1 0 (.c 2 0 (.c 3 0 (.c 4 0 (.c 5 0 (.c 6 0 (.c 7 0 (.c 8 0 (.c 9 0 (.c 10 0 (.c 11 0 (.c 12 0 .nil))))))))))))) mixed (fun _ _ _ _ h => h) (Sk (Sr)) (fun _ h => h) (by kernel_rfl) (by decide) fun ws Z0 => Qe rfl (q_move rfl) (Qe rfl (q_gtr rfl rfl) (Qe rfl (q_move rfl) (WE_gq rfl rfl rfl rfl (by first | (simp; done) | (simp; omega)) (q_field (o' := 0) Un119 rfl ti3 rfl rfl) (by decide) (WE_gq rfl rfl rfl rfl (by first | (simp; done) | (simp; omega)) (q_load1 Un3 rfl rfl own0 rfl) (by decide) (WE_gq rfl rfl rfl rfl (by first | (simp; done) | (simp; omega)) (q_move rfl) (by decide) (WE_gq rfl rfl rfl rfl (by first | (simp; done) | (simp; omega)) (q_move rfl) (by decide) ?_))))))
        refine WE_gq rfl rfl rfl rfl (by first | (simp; done) | (simp; omega)) (q_sub rfl rfl (by rw [wr64 (by omega)]; omega) (c := (k : Int))) (by decide) (WE_gq rfl rfl rfl rfl (by first | (simp; done) | (simp; omega)) (q_idxRd Un45 ti119 rfl rfl (by omega) (by omega)) (by decide) (WE_gq rfl rfl rfl rfl (by first | (simp; done) | (simp; omega)) (q_field (o' := _ + 1) Un119 rfl ti3 rfl rfl) (by decide) (WE_gq rfl rfl rfl rfl (by first | (simp; done) | (simp; omega)) (q_loadF1 (j := 1) Un3 rfl rfl M0 rfl rfl) (by decide) (WE_gq rfl rfl rfl rfl (by first | (simp; done) | (simp; omega)) (q_leq rfl rfl) (by decide) (Qe rfl (q_pickT rfl (by first | (simp; done) | (simp; omega)) rfl) (WE_end (WF_nil (thenN (WC_cond rfl (fun h44 => ?_) (fun h44 => ?_))))))))))
        ·refine WC_seq (WC_region (Lq (q_move rfl) (Lq (q_assign rfl) (Lq (q_assign rfl) (WL_nil (thenN (WC_ret (blockRet (thenRet (thenRet (blockRet (thenRet ?_))))))))))))
         refine ⟨_, [], [], fun Z w hs => .tmp rfl (.tmp rfl (.nil)), ?_, fun Z w hs => hs.out (Sd (Sr)) T3⟩
         try simp only [Bp, Bq] at *
         first
          | (have hF := CkI.bad hI hk (by omega); exact ⟨by rw [hF]; rfl, rfl, rfl⟩)
          | (have hF := CkI.ord hI hk (by omega) (by omega); exact ⟨by rw [hF]; rfl, rfl, rfl⟩)
          | (have hF := CkI.done hI (by omega); exact ⟨by rw [hF]; rfl, rfl, rfl⟩)
        ·refine WC_skip (blockN (thenN (WC_region (Lq (q_add rfl rfl (wr64 (by omega))) (Lq (q_move rfl) (WL_nil (thenK ?_)))))))
         refine ⟨(k + 1) + 1, ?_, (.cons rfl (.cons rfl (.cons rfl (.cons rfl (.nil _))))), (Sd (Sr)), T3⟩
         try simp only [Bp, Bq] at *
         exact ⟨by omega, by first | exact CkI.first hI hk (by omega) | exact CkI.next hI hk (by omega) (by omega)⟩
   ·refine WC_exit (thenExit (thenExit (blockHit (thenN (WC_seq (WC_region (Lq (q_assign rfl) (Lq (q_assign rfl) (WL_nil (thenN (WC_ret ?_)))))))))))
    refine ⟨_, [], [], fun Z w hs => .tmp rfl (.tmp rfl (.nil)), ?_, fun Z w hs => hs.out (Sr) (fun _ h => h)⟩
    try simp only [Bp, Bq] at *
    first
     | (have hF := CkI.bad hI hk (by omega); exact ⟨by rw [hF]; rfl, rfl, rfl⟩)
     | (have hF := CkI.ord hI hk (by omega) (by omega); exact ⟨by rw [hF]; rfl, rfl, rfl⟩)
     | (have hF := CkI.done hI (by omega); exact ⟨by rw [hF]; rfl, rfl, rfl⟩)

end Go.Proofs.YtcjbjkbghgjmdaaGreatDoor
/- Walks: span.Through. -/
namespace Go.Proofs.YtcjbjkbghgjmdaaGreatDoor
open Go Go.GW
def ThrP (xs : List Rg) (at_ n : Int) : Value → List Part → List Fact → Prop := fun v Lo fs =>
 ∃ (A' : Option Addr) (c' : Nat), v = .tuple #[.slice A' (thrF xs at_ n).1.length c', .int .i64 (thrF xs at_ n).2] ∧ Lo = [] ∧ fs = [RdF rgD A' c' (thrF xs at_ n).1]

set_option maxRecDepth 10000 in
theorem through_s (A : Option Addr) (c : Nat) (xs : List Rg) (at_ n : Int) (hl : xs.length ≤ 4398046511104) : Sp Tryz.prog 28 [.slice A xs.length c, .int .i64 at_, .int .i64 n] [] [RdF rgD A c xs] (ThrP xs at_ n) := by
 refine Sp.of (n := 78) ⟨_, Tryz.func28, rfl, rfl, rfl, rfl⟩ (Nat.le_of_ble_eq_true rfl) fun Ps As => WC_seq (WC_region (Lq (q_assign rfl) (Lq (q_assign rfl) (WL_nil (thenN (WC_seq (WC_seq (WC_region (Lq (q_move rfl) (WL_main rfl (OW_call0 (check_s A c xs hl) (.cons rfl (.nil)) (by decide) (memc M0 mem0) fun u1_1 Lo fs hres => ?_)))))))))))
 obtain ⟨rfl, rfl, rfl⟩ := hres
 refine Lq (q_move rfl) (Lq (q_extract (vs := [_, _]) rfl rfl) (Lq (q_extract (vs := [_, _]) rfl rfl) (Lq (q_assign rfl) (Lq (q_assign rfl) (WL_nil (thenN (WC_seq (WC_region (Lq (q_move rfl) (Lq (q_neq rfl rfl) (WL_nil (thenN (WC_fr [(20, _), (9, _), (7, _), (6, _), (0, _), (1, _), (2, _)] (.cons rfl (.cons rfl (.cons rfl (.cons rfl (.cons rfl (.cons rfl (.cons rfl (.nil _)))))))) ?_)))))))))))))
 refine WC_cond rfl (fun h20 => ?_) (fun h20 => ?_)
 ·refine WC_seq (WC_region (Lq (q_move rfl) (Lq (q_assign rfl) (Lq (q_assign rfl) (WL_nil (thenN (WC_ret (thenRet ?_))))))))
  refine ⟨_, [], [RdF rgD none 0 []], fun Z w hs => .tmp rfl (.tmp rfl (.nil)), ?_, fun Z w hs => ⟨Z, ((hs.subParts (Sr)).subFacts (fun _ h => h)).addFact (A := RdF rgD none 0 []) (RdS.nil _ _ _)⟩⟩
  try simp only [Bp, Bq] at *
  have hF : thrF xs at_ n = _ := thrF_ck (by omega)
  exact ⟨none, 0, by rw [hF]; rfl, rfl, by rw [hF]⟩
 ·refine WC_skip (thenN (WC_seq (WC_seq (WC_region (Lq (q_move rfl) (WL_main rfl (OW_call0 (outside_s at_) (.cons rfl (.nil)) (by decide) mem0 fun u4_1 Lo fs hres => ?_)))))))
  obtain ⟨rfl, rfl, rfl⟩ := hres
  refine Lq (q_move rfl) (WL_guard (t := 24) rfl (fun g24 => ?_) (fun g24 => ?_))
  ·refine Ln rfl rfl rfl g24 (Ln rfl rfl rfl g24 (Lq (q_pickT rfl g24 rfl) (WL_nil (thenN (WC_true rfl rfl (WC_seq (WC_region (Lq (q_assign rfl) (Lq (q_assign rfl) (WL_nil (thenN (WC_ret (thenRet ?_)))))))))))))
   refine ⟨_, [], [RdF rgD none 0 []], fun Z w hs => .tmp rfl (.tmp rfl (.nil)), ?_, fun Z w hs => ⟨Z, ((hs.subParts (Sr)).subFacts (fun _ h => h)).addFact (A := RdF rgD none 0 []) (RdS.nil _ _ _)⟩⟩
   try simp only [Bp, Bq] at *
   have hF : thrF xs at_ n = _ := thrF_out (by omega) (by omega)
   exact ⟨none, 0, by rw [hF]; rfl, rfl, by rw [hF]⟩
  ·refine Lg rfl rfl rfl g24 (q_move rfl) (WL_gmain rfl rfl rfl g24 (OW_call0 (outside_s n) (.cons rfl (.nil)) (by decide) mem0 fun u4_4 Lo fs hres => ?_))
   obtain ⟨rfl, rfl, rfl⟩ := hres
   refine Lq (q_pickF rfl g24 rfl) (WL_nil (thenN (WC_cond rfl (fun h27 => ?_) (fun h27 => ?_))))
   ·refine WC_seq (WC_region (Lq (q_assign rfl) (Lq (q_assign rfl) (WL_nil (thenN (WC_ret (thenRet ?_)))))))
    refine ⟨_, [], [RdF rgD none 0 []], fun Z w hs => .tmp rfl (.tmp rfl (.nil)), ?_, fun Z w hs => ⟨Z, ((hs.subParts (Sr)).subFacts (fun _ h => h)).addFact (A := RdF rgD none 0 []) (RdS.nil _ _ _)⟩⟩
    try simp only [Bp, Bq] at *
    have hF : thrF xs at_ n = _ := thrF_out (by omega) (by omega)
    exact ⟨none, 0, by rw [hF]; rfl, rfl, by rw [hF]⟩
   ·refine WC_skip (thenN (WC_seq (WC_seq (WC_region (Lq (q_move rfl) (Lq (q_len Un45 rfl) (Lq (q_gtr rfl rfl) (WL_nil (thenN (WC_fr [(30, _), (7, _), (6, _), (0, _), (1, _), (2, _)] (.cons rfl (.cons rfl (.cons rfl (.cons rfl (.cons rfl (.cons rfl (.nil _))))))) (WC_cond rfl (fun h30 => ?_) (fun h30 => ?_))))))))))))
    ·refine WC_seq ?_
     try simp only [Bp, Bq] at *
     have hk0 : xs.length - 1 < xs.length := by omega
     have hg := ckF_at (by omega) hk0
     refine WC_elem (k := (xs.length - 1)) M0 (List.getElem?_eq_getElem hk0) (rg_open _) fun b7 q7 y7 e7 => ?_
     cases e7
     refine WC_region (Lq (q_move rfl) (Lq (q_move rfl) (Lq (q_len Un45 rfl) (Lq (q_sub rfl rfl (by rw [wr64 (by omega)]; omega) (c := ((xs.length - 1 : Nat) : Int))) (Lq (q_idxRd Un45 ti119 rfl rfl (by omega) (by omega)) (Lq (q_field (o' := _ + 1) Un119 rfl ti3 rfl rfl) (Lq (q_loadF1 (j := 1) Un3 rfl rfl M0 rfl rfl) (Lq (q_assign rfl) (WL_nil (thenN ?_))))))))))
     refine WC_fr [(10, _), (7, _), (6, _), (0, _), (1, _), (2, _)] (.cons rfl (.cons rfl (.cons rfl (.cons rfl (.cons rfl (.cons rfl (.nil _))))))) (WC_seq (WC_region (Lq (q_move rfl) (Lq (q_move rfl) (Lq (q_gtr rfl rfl) (Lq (q_move rfl) (WL_guard (t := 41) rfl (fun g41 => ?_) (fun g41 => ?_))))))))
     ·refine Lg rfl rfl rfl g41 (q_move rfl) (Lg rfl rfl rfl g41 (q_move rfl) (Lg rfl rfl rfl g41 (q_add rfl rfl (wr64 (by omega))) (Lg rfl rfl rfl g41 (q_gtr rfl rfl) (Lq (q_pickT rfl g41 rfl) (WL_nil (thenN (WC_fr [(46, _), (7, _), (6, _), (0, _), (1, _), (2, _)] (.cons rfl (.cons rfl (.cons rfl (.cons rfl (.cons rfl (.cons rfl (.nil _))))))) (WC_cond rfl (fun h46 => ?_) (fun h46 => ?_)))))))))
      ·refine WC_seq (WC_region (Lq (q_assign rfl) (Lq (q_assign rfl) (WL_nil (thenN (WC_ret (thenRet ?_)))))))
       refine ⟨_, [], [RdF rgD none 0 []], fun Z w hs => .tmp rfl (.tmp rfl (.nil)), ?_, fun Z w hs => ⟨Z, ((hs.subParts (Sr)).subFacts T1).addFact (A := RdF rgD none 0 []) (RdS.nil _ _ _)⟩⟩
       try simp only [Bp, Bq] at *
       have hF : thrF xs at_ n = _ := thrF_grow (by omega) (by omega) (by omega) ⟨by omega, by omega⟩
       exact ⟨none, 0, by rw [hF]; rfl, rfl, by rw [hF]⟩
      ·refine WC_skip (thenN (WC_seq (WC_region (Lq (q_assign rfl) (WL_nil (thenN (WC_seq (WC_seq (WC_region (Lq (q_move rfl) (Lq (q_len Un45 rfl) (Lq (q_move rfl) (WL_nil (thenN (WC_block ?_)))))))))))))))
       try simp only [Bp, Bq] at *
       have hC : (ckF xs).2 = 0 := by omega
       have hl2 := (ckF_good hC).1
       have hOK : thrF xs at_ n = boundF (thrL at_ n [] xs) := by
        first
        | exact thrF_ok (by omega) (by omega) hk0 (by omega)
        | (obtain rfl : xs = [] := List.length_eq_zero_iff.1 (by omega); exact thrF_nil (by omega))
       refine WC_nilPart ?_
       refine WC_loopE (α := Nat × List Rg × Value × Part) (fun (k, acc, v, p) => xs.length - k)
        (fun (k, acc, v, p) => [(1, .int .i64 at_), (2, .int .i64 n), (11, v), (47, .slice (some ⟨b7, q7, none⟩) xs.length c), (48, .int .i64 xs.length), (49, .int .i64 k)])
        (fun (k, acc, v, p) => p :: Ps)
        (fun (k, acc, v, p) => (RdF rgD (some ⟨b7, q7, none⟩) c xs :: As))
        (fun (k, acc, v, p) => ThI xs at_ n k acc v p)
        (0, [], .slice none 0 0, []) ?_ (.cons rfl (.cons rfl (.cons rfl (.cons rfl (.cons rfl (.cons rfl (.nil _))))))) (Sk (Sr)) T1 ?_
       ·exact ⟨Nat.zero_le _, Row.nil _ _, by simp, rfl⟩
       ·rintro ⟨k, acc, v, p⟩ hI
        refine WC_seq (WC_region (Lq (q_lss rfl rfl) (WL_nil (thenN (WC_seq (WC_cond rfl (fun h50 => ?_) (fun h50 => ?_)))))))
        ·refine WC_skip (thenN (WC_seq (WC_block (WC_seq ?_))))
         have hk : k < xs.length := by simpa using h50
         have hg2 := ckF_at hC hk
         refine WC_elem (k := k) M0 (List.getElem?_eq_getElem hk) (rg_open _) fun b13 q13 y13 e13 => ?_
         cases e13
         refine WC_region (Lq (q_idxRd Un45 ti119 rfl rfl (by omega) (by omega)) (Lq (q_loadFN (k := 0) (vs := [_, _]) Un119 rfl ti119 rfl M0 rfl rfl rfl) (WL_main rfl (OW_alloc (cs := [_, _]) ti119 rfl (by decide) fun b13 => WL_main rfl (OW_storeN (cs' := [_, _]) (vs := [_, _]) ti119 rfl rfl rfl rfl rfl (Nat.le_of_ble_eq_true rfl) (.z) (WL_nil (thenN (WC_seq (WC_region (Lq (q_move rfl) (Lq (q_field (o' := 0) Un119 rfl ti3 rfl rfl) (Lq (q_load1 Un3 rfl rfl own0 rfl) (Lq (q_field (o' := 1) Un119 rfl ti3 rfl rfl) ?_)))))))))))))
         refine Lq (q_load1 Un3 rfl rfl own0 rfl) (Lq (q_move rfl) (Lq (q_min rfl rfl) (WL_main rfl (OW_call1 (add_s v acc p xs[k].lo (min xs[k].hi at_) hI.row (by have := hI.len; have := hI.le; omega)) (.cons rfl (.cons rfl (.cons rfl (.nil)))) (by decide) (.s (.z)) mem0 fun va Lo fs hres => ?_))))
         obtain ⟨pa, hra, rfl, rfl⟩ := hres
         refine Lq (q_assign rfl) (WL_nil (thenN (WC_region (Lq (q_move rfl) (Lq (q_field (o' := 0) Un119 rfl ti3 rfl rfl) (Lq (q_load1 Un3 rfl rfl (ownS (own0)) rfl) (Lq (q_move rfl) (Lq (q_max rfl rfl) (Lq (q_move rfl) (Lq (q_add rfl rfl (wr64 (by omega))) (Lq (q_field (o' := 1) Un119 rfl ti3 rfl rfl) ?_)))))))))))
         refine Lq (q_load1 Un3 rfl rfl (ownS (own0)) rfl) (Lq (q_move rfl) (Lq (q_add rfl rfl (wr64 (by omega))) (WL_main rfl (OW_call1 (add_s va (addF acc xs[k].lo (min xs[k].hi at_)) pa (max xs[k].lo at_ + n) (xs[k].hi + n) hra (by have := hI.len; have := hI.le; have := addF_len acc xs[k].lo (min xs[k].hi at_); omega)) (.cons rfl (.cons rfl (.cons rfl (.nil)))) (by decide) (.z) mem0 fun vb Lo fs hres => ?_))))
         obtain ⟨pb, hrb, rfl, rfl⟩ := hres
         refine Lq (q_assign rfl) (WL_nil (blockN (thenN (WC_region (Lq (q_add rfl rfl (wr64 (by omega))) (Lq (q_move rfl) (WL_nil (thenK ?_))))))))
         refine ⟨(k + 1, addF (addF acc xs[k].lo (min xs[k].hi at_)) (max xs[k].lo at_ + n) (xs[k].hi + n), vb, pb), ?_, (.cons rfl (.cons rfl (.cons rfl (.cons rfl (.cons rfl (.cons rfl (.nil _))))))), (Sk (Sd (Sr))), T1⟩
         exact ⟨by show xs.length - (k + 1) < xs.length - k; omega, hI.next hk hrb⟩
        ·refine WC_exit (thenExit (thenExit (blockHit (thenN (WC_seq ?_)))))
         have hD := hI.done (by simpa using h50)
         refine WC_fact (A := RepsF rgD acc (acc.map rgC)) (fun Z w _ => rgs_reps acc Z w) (WC_freeze (e := rgD) (css := acc.map rgC) hI.row .z rfl M0 fun Af cf ef => ?_)
         subst ef
         by_cases hb : acc.length > 32768
         ·refine WC_region (Lq (q_move rfl) (WL_main rfl (OW_call0 (bounded_1 Af cf acc hb) (.cons rfl (.nil)) (by decide) mem0 fun u17_1 Lo fs hres => ?_)))
          obtain ⟨rfl, rfl, rfl⟩ := hres
          refine Lq (q_extract (vs := [_, _]) rfl rfl) (Lq (q_extract (vs := [_, _]) rfl rfl) (Lq (q_assign rfl) (Lq (q_assign rfl) (WL_nil (thenN (WC_ret ?_))))))
          refine ⟨_, [], [RdF rgD none 0 []], fun Z w hs => .tmp rfl (.tmp rfl (.nil)), ?_, fun Z w hs => ⟨Z, ((hs.subParts (Sr)).subFacts T2).addFact (A := RdF rgD none 0 []) (RdS.nil _ _ _)⟩⟩
          have hF : thrF xs at_ n = ([], 21) := by rw [hOK, hD]; unfold boundF; rw [if_pos hb]
          exact ⟨none, 0, by rw [hF]; rfl, rfl, by rw [hF]⟩
         ·refine WC_region (Lq (q_move rfl) (WL_main rfl (OW_call0 (bounded_2 Af cf acc hb) (.cons rfl (.nil)) (by decide) mem0 fun u17_1 Lo fs hres => ?_)))
          obtain ⟨rfl, rfl, rfl⟩ := hres
          refine Lq (q_extract (vs := [_, _]) rfl rfl) (Lq (q_extract (vs := [_, _]) rfl rfl) (Lq (q_assign rfl) (Lq (q_assign rfl) (WL_nil (thenN (WC_ret ?_))))))
          refine ⟨_, [], [RdF rgD Af cf acc], fun Z w hs => .tmp rfl (.tmp rfl (.nil)), ?_, fun Z w hs => hs.out (Sr) (memc M0 T2)⟩
          have hF : thrF xs at_ n = (acc, 0) := by rw [hOK, hD]; unfold boundF; rw [if_neg hb]
          exact ⟨Af, cf, by rw [hF]; rfl, rfl, by rw [hF]⟩
     ·refine Ln rfl rfl rfl g41 (Ln rfl rfl rfl g41 (Ln rfl rfl rfl g41 (Ln rfl rfl rfl g41 (Lq (q_pickF rfl g41 rfl) (WL_nil (thenN (WC_fr [(46, _), (7, _), (6, _), (0, _), (1, _), (2, _)] (.cons rfl (.cons rfl (.cons rfl (.cons rfl (.cons rfl (.cons rfl (.nil _))))))) (WC_false rfl rfl (WC_skip (thenN (WC_seq (WC_region (Lq (q_assign rfl) (WL_nil (thenN (WC_seq (WC_seq (WC_region ?_))))))))))))))))))
      refine Lq (q_move rfl) (Lq (q_len Un45 rfl) (Lq (q_move rfl) (WL_nil (thenN (WC_block ?_)))))
      try simp only [Bp, Bq] at *
      have hC : (ckF xs).2 = 0 := by omega
      have hl2 := (ckF_good hC).1
      have hOK : thrF xs at_ n = boundF (thrL at_ n [] xs) := by
       first
       | exact thrF_ok (by omega) (by omega) hk0 (by omega)
       | (obtain rfl : xs = [] := List.length_eq_zero_iff.1 (by omega); exact thrF_nil (by omega))
      refine WC_nilPart ?_
      refine WC_loopE (α := Nat × List Rg × Value × Part) (fun (k, acc, v, p) => xs.length - k)
       (fun (k, acc, v, p) => [(1, .int .i64 at_), (2, .int .i64 n), (11, v), (47, .slice (some ⟨b7, q7, none⟩) xs.length c), (48, .int .i64 xs.length), (49, .int .i64 k)])
       (fun (k, acc, v, p) => p :: Ps)
       (fun (k, acc, v, p) => (RdF rgD (some ⟨b7, q7, none⟩) c xs :: As))
       (fun (k, acc, v, p) => ThI xs at_ n k acc v p)
       (0, [], .slice none 0 0, []) ?_ (.cons rfl (.cons rfl (.cons rfl (.cons rfl (.cons rfl (.cons rfl (.nil _))))))) (Sk (Sr)) T1 ?_
      ·exact ⟨Nat.zero_le _, Row.nil _ _, by simp, rfl⟩
      ·rintro ⟨k, acc, v, p⟩ hI
       refine WC_seq (WC_region (Lq (q_lss rfl rfl) (WL_nil (thenN (WC_seq (WC_cond rfl (fun h50 => ?_) (fun h50 => ?_)))))))
       ·refine WC_skip (thenN (WC_seq (WC_block (WC_seq ?_))))
        have hk : k < xs.length := by simpa using h50
        have hg2 := ckF_at hC hk
        refine WC_elem (k := k) M0 (List.getElem?_eq_getElem hk) (rg_open _) fun b13 q13 y13 e13 => ?_
        cases e13
        refine WC_region (Lq (q_idxRd Un45 ti119 rfl rfl (by omega) (by omega)) (Lq (q_loadFN (k := 0) (vs := [_, _]) Un119 rfl ti119 rfl M0 rfl rfl rfl) (WL_main rfl (OW_alloc (cs := [_, _]) ti119 rfl (by decide) fun b13 => WL_main rfl (OW_storeN (cs' := [_, _]) (vs := [_, _]) ti119 rfl rfl rfl rfl rfl (Nat.le_of_ble_eq_true rfl) (.z) (WL_nil (thenN (WC_seq (WC_region (Lq (q_move rfl) (Lq (q_field (o' := 0) Un119 rfl ti3 rfl rfl) (Lq (q_load1 Un3 rfl rfl own0 rfl) (Lq (q_field (o' := 1) Un119 rfl ti3 rfl rfl) ?_)))))))))))))
        refine Lq (q_load1 Un3 rfl rfl own0 rfl) (Lq (q_move rfl) (Lq (q_min rfl rfl) (WL_main rfl (OW_call1 (add_s v acc p xs[k].lo (min xs[k].hi at_) hI.row (by have := hI.len; have := hI.le; omega)) (.cons rfl (.cons rfl (.cons rfl (.nil)))) (by decide) (.s (.z)) mem0 fun va Lo fs hres => ?_))))
        obtain ⟨pa, hra, rfl, rfl⟩ := hres
        refine Lq (q_assign rfl) (WL_nil (thenN (WC_region (Lq (q_move rfl) (Lq (q_field (o' := 0) Un119 rfl ti3 rfl rfl) (Lq (q_load1 Un3 rfl rfl (ownS (own0)) rfl) (Lq (q_move rfl) (Lq (q_max rfl rfl) (Lq (q_move rfl) (Lq (q_add rfl rfl (wr64 (by omega))) (Lq (q_field (o' := 1) Un119 rfl ti3 rfl rfl) ?_)))))))))))
        refine Lq (q_load1 Un3 rfl rfl (ownS (own0)) rfl) (Lq (q_move rfl) (Lq (q_add rfl rfl (wr64 (by omega))) (WL_main rfl (OW_call1 (add_s va (addF acc xs[k].lo (min xs[k].hi at_)) pa (max xs[k].lo at_ + n) (xs[k].hi + n) hra (by have := hI.len; have := hI.le; have := addF_len acc xs[k].lo (min xs[k].hi at_); omega)) (.cons rfl (.cons rfl (.cons rfl (.nil)))) (by decide) (.z) mem0 fun vb Lo fs hres => ?_))))
        obtain ⟨pb, hrb, rfl, rfl⟩ := hres
        refine Lq (q_assign rfl) (WL_nil (blockN (thenN (WC_region (Lq (q_add rfl rfl (wr64 (by omega))) (Lq (q_move rfl) (WL_nil (thenK ?_))))))))
        refine ⟨(k + 1, addF (addF acc xs[k].lo (min xs[k].hi at_)) (max xs[k].lo at_ + n) (xs[k].hi + n), vb, pb), ?_, (.cons rfl (.cons rfl (.cons rfl (.cons rfl (.cons rfl (.cons rfl (.nil _))))))), (Sk (Sd (Sr))), T1⟩
        exact ⟨by show xs.length - (k + 1) < xs.length - k; omega, hI.next hk hrb⟩
       ·refine WC_exit (thenExit (thenExit (blockHit (thenN (WC_seq ?_)))))
        have hD := hI.done (by simpa using h50)
        refine WC_fact (A := RepsF rgD acc (acc.map rgC)) (fun Z w _ => rgs_reps acc Z w) (WC_freeze (e := rgD) (css := acc.map rgC) hI.row .z rfl M0 fun Af cf ef => ?_)
        subst ef
        by_cases hb : acc.length > 32768
        ·refine WC_region (Lq (q_move rfl) (WL_main rfl (OW_call0 (bounded_1 Af cf acc hb) (.cons rfl (.nil)) (by decide) mem0 fun u17_1 Lo fs hres => ?_)))
         obtain ⟨rfl, rfl, rfl⟩ := hres
         refine Lq (q_extract (vs := [_, _]) rfl rfl) (Lq (q_extract (vs := [_, _]) rfl rfl) (Lq (q_assign rfl) (Lq (q_assign rfl) (WL_nil (thenN (WC_ret ?_))))))
         refine ⟨_, [], [RdF rgD none 0 []], fun Z w hs => .tmp rfl (.tmp rfl (.nil)), ?_, fun Z w hs => ⟨Z, ((hs.subParts (Sr)).subFacts T2).addFact (A := RdF rgD none 0 []) (RdS.nil _ _ _)⟩⟩
         have hF : thrF xs at_ n = ([], 21) := by rw [hOK, hD]; unfold boundF; rw [if_pos hb]
         exact ⟨none, 0, by rw [hF]; rfl, rfl, by rw [hF]⟩
        ·refine WC_region (Lq (q_move rfl) (WL_main rfl (OW_call0 (bounded_2 Af cf acc hb) (.cons rfl (.nil)) (by decide) mem0 fun u17_1 Lo fs hres => ?_)))
         obtain ⟨rfl, rfl, rfl⟩ := hres
         refine Lq (q_extract (vs := [_, _]) rfl rfl) (Lq (q_extract (vs := [_, _]) rfl rfl) (Lq (q_assign rfl) (Lq (q_assign rfl) (WL_nil (thenN (WC_ret ?_))))))
         refine ⟨_, [], [RdF rgD Af cf acc], fun Z w hs => .tmp rfl (.tmp rfl (.nil)), ?_, fun Z w hs => hs.out (Sr) (memc M0 T2)⟩
         have hF : thrF xs at_ n = (acc, 0) := by rw [hOK, hD]; unfold boundF; rw [if_neg hb]
         exact ⟨Af, cf, by rw [hF]; rfl, rfl, by rw [hF]⟩
    ·refine WC_skip (thenN (WC_seq (WC_region (Lq (q_assign rfl) (WL_nil (thenN (WC_seq (WC_seq (WC_region (Lq (q_move rfl) (Lq (q_len Un45 rfl) (Lq (q_move rfl) (WL_nil (thenN (WC_block ?_)))))))))))))))
     try simp only [Bp, Bq] at *
     have hC : (ckF xs).2 = 0 := by omega
     have hl2 := (ckF_good hC).1
     have hOK : thrF xs at_ n = boundF (thrL at_ n [] xs) := by
      first
      | exact thrF_ok (by omega) (by omega) hk0 (by omega)
      | (obtain rfl : xs = [] := List.length_eq_zero_iff.1 (by omega); exact thrF_nil (by omega))
     refine WC_nilPart ?_
     refine WC_loopE (α := Nat × List Rg × Value × Part) (fun (k, acc, v, p) => xs.length - k)
      (fun (k, acc, v, p) => [(1, .int .i64 at_), (2, .int .i64 n), (11, v), (47, .slice A xs.length c), (48, .int .i64 xs.length), (49, .int .i64 k)])
      (fun (k, acc, v, p) => p :: Ps)
      (fun (k, acc, v, p) => (RdF rgD A c xs :: As))
      (fun (k, acc, v, p) => ThI xs at_ n k acc v p)
      (0, [], .slice none 0 0, []) ?_ (.cons rfl (.cons rfl (.cons rfl (.cons rfl (.cons rfl (.cons rfl (.nil _))))))) (Sk (Sr)) (fun _ h => h) ?_
     ·exact ⟨Nat.zero_le _, Row.nil _ _, by simp, rfl⟩
     ·rintro ⟨k, acc, v, p⟩ hI
      refine WC_seq (WC_region (Lq (q_lss rfl rfl) (WL_nil (thenN (WC_seq (WC_cond rfl (fun h50 => ?_) (fun h50 => ?_)))))))
      ·refine WC_skip (thenN (WC_seq (WC_block (WC_seq ?_))))
       have hk : k < xs.length := by simpa using h50
       have hg2 := ckF_at hC hk
       refine WC_elem (k := k) M0 (List.getElem?_eq_getElem hk) (rg_open _) fun b13 q13 y13 e13 => ?_
       cases e13
       refine WC_region (Lq (q_idxRd Un45 ti119 rfl rfl (by omega) (by omega)) (Lq (q_loadFN (k := 0) (vs := [_, _]) Un119 rfl ti119 rfl M0 rfl rfl rfl) (WL_main rfl (OW_alloc (cs := [_, _]) ti119 rfl (by decide) fun b13 => WL_main rfl (OW_storeN (cs' := [_, _]) (vs := [_, _]) ti119 rfl rfl rfl rfl rfl (Nat.le_of_ble_eq_true rfl) (.z) (WL_nil (thenN (WC_seq (WC_region (Lq (q_move rfl) (Lq (q_field (o' := 0) Un119 rfl ti3 rfl rfl) (Lq (q_load1 Un3 rfl rfl own0 rfl) (Lq (q_field (o' := 1) Un119 rfl ti3 rfl rfl) ?_)))))))))))))
       refine Lq (q_load1 Un3 rfl rfl own0 rfl) (Lq (q_move rfl) (Lq (q_min rfl rfl) (WL_main rfl (OW_call1 (add_s v acc p xs[k].lo (min xs[k].hi at_) hI.row (by have := hI.len; have := hI.le; omega)) (.cons rfl (.cons rfl (.cons rfl (.nil)))) (by decide) (.s (.z)) mem0 fun va Lo fs hres => ?_))))
       obtain ⟨pa, hra, rfl, rfl⟩ := hres
       refine Lq (q_assign rfl) (WL_nil (thenN (WC_region (Lq (q_move rfl) (Lq (q_field (o' := 0) Un119 rfl ti3 rfl rfl) (Lq (q_load1 Un3 rfl rfl (ownS (own0)) rfl) (Lq (q_move rfl) (Lq (q_max rfl rfl) (Lq (q_move rfl) (Lq (q_add rfl rfl (wr64 (by omega))) (Lq (q_field (o' := 1) Un119 rfl ti3 rfl rfl) ?_)))))))))))
       refine Lq (q_load1 Un3 rfl rfl (ownS (own0)) rfl) (Lq (q_move rfl) (Lq (q_add rfl rfl (wr64 (by omega))) (WL_main rfl (OW_call1 (add_s va (addF acc xs[k].lo (min xs[k].hi at_)) pa (max xs[k].lo at_ + n) (xs[k].hi + n) hra (by have := hI.len; have := hI.le; have := addF_len acc xs[k].lo (min xs[k].hi at_); omega)) (.cons rfl (.cons rfl (.cons rfl (.nil)))) (by decide) (.z) mem0 fun vb Lo fs hres => ?_))))
       obtain ⟨pb, hrb, rfl, rfl⟩ := hres
       refine Lq (q_assign rfl) (WL_nil (blockN (thenN (WC_region (Lq (q_add rfl rfl (wr64 (by omega))) (Lq (q_move rfl) (WL_nil (thenK ?_))))))))
       refine ⟨(k + 1, addF (addF acc xs[k].lo (min xs[k].hi at_)) (max xs[k].lo at_ + n) (xs[k].hi + n), vb, pb), ?_, (.cons rfl (.cons rfl (.cons rfl (.cons rfl (.cons rfl (.cons rfl (.nil _))))))), (Sk (Sd (Sr))), T1⟩
       exact ⟨by show xs.length - (k + 1) < xs.length - k; omega, hI.next hk hrb⟩
      ·refine WC_exit (thenExit (thenExit (blockHit (thenN (WC_seq ?_)))))
       have hD := hI.done (by simpa using h50)
       refine WC_fact (A := RepsF rgD acc (acc.map rgC)) (fun Z w _ => rgs_reps acc Z w) (WC_freeze (e := rgD) (css := acc.map rgC) hI.row .z rfl M0 fun Af cf ef => ?_)
       subst ef
       by_cases hb : acc.length > 32768
       ·refine WC_region (Lq (q_move rfl) (WL_main rfl (OW_call0 (bounded_1 Af cf acc hb) (.cons rfl (.nil)) (by decide) mem0 fun u17_1 Lo fs hres => ?_)))
        obtain ⟨rfl, rfl, rfl⟩ := hres
        refine Lq (q_extract (vs := [_, _]) rfl rfl) (Lq (q_extract (vs := [_, _]) rfl rfl) (Lq (q_assign rfl) (Lq (q_assign rfl) (WL_nil (thenN (WC_ret ?_))))))
        refine ⟨_, [], [RdF rgD none 0 []], fun Z w hs => .tmp rfl (.tmp rfl (.nil)), ?_, fun Z w hs => ⟨Z, ((hs.subParts (Sr)).subFacts T2).addFact (A := RdF rgD none 0 []) (RdS.nil _ _ _)⟩⟩
        have hF : thrF xs at_ n = ([], 21) := by rw [hOK, hD]; unfold boundF; rw [if_pos hb]
        exact ⟨none, 0, by rw [hF]; rfl, rfl, by rw [hF]⟩
       ·refine WC_region (Lq (q_move rfl) (WL_main rfl (OW_call0 (bounded_2 Af cf acc hb) (.cons rfl (.nil)) (by decide) mem0 fun u17_1 Lo fs hres => ?_)))
        obtain ⟨rfl, rfl, rfl⟩ := hres
        refine Lq (q_extract (vs := [_, _]) rfl rfl) (Lq (q_extract (vs := [_, _]) rfl rfl) (Lq (q_assign rfl) (Lq (q_assign rfl) (WL_nil (thenN (WC_ret ?_))))))
        refine ⟨_, [], [RdF rgD Af cf acc], fun Z w hs => .tmp rfl (.tmp rfl (.nil)), ?_, fun Z w hs => hs.out (Sr) (memc M0 T2)⟩
        have hF : thrF xs at_ n = (acc, 0) := by rw [hOK, hD]; unfold boundF; rw [if_neg hb]
        exact ⟨Af, cf, by rw [hF]; rfl, rfl, by rw [hF]⟩

end Go.Proofs.YtcjbjkbghgjmdaaGreatDoor
