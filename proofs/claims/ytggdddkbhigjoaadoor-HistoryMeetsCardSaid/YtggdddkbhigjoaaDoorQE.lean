/- The walks and laws that this claim's card rests on, part 5. -/
import Derived.Test.YtggdddkbhigjoaaDoorQD
set_option linter.unusedVariables false
set_option linter.unusedSimpArgs false
/- Walks: makes. -/
namespace Go.Proofs.YtggdddkbhigjoaaDoor
open Go Go.GW
def MakeP (P : Part) (H : Hist) (i : Nat) (nx : List Int) (cl : Int) : Value → List Part → List Fact → Prop := fun v Lo fs => ∃ (o : GOp) (Ao : Option Addr) (co : Nat) (x : Int), v = opV o Ao co ∧ Lo = [P] ∧ fs = [RdF rgD Ao co o.rs] ∧ o.c = 1 + cl % 8 ∧ nx[o.c.toNat]? = some x ∧ o.n = x + 1 ∧ Body H i o
def MakeD (P : Part) (H : Hist) (i : Nat) (nx : List Int) (m : Mv) : Value → List Part → List Fact → Prop := fun v Lo fs => ∃ (o : GOp) (Ao : Option Addr) (co : Nat) (x : Int), v = opV o Ao co ∧ Lo = [P] ∧ fs = [RdF rgD Ao co o.rs] ∧ o.c = 1 + m.client % 8 ∧ nx[o.c.toNat]? = some x ∧ o.n = x + 1 ∧ Body H i o ∧ o = makeF H i nx m
theorem bd25_0_1Xw37 (x0_ : Int) (x1_ : Int) (w : World) : (Instr.build 25 #[(0, .int .i64 x0_), (1, .int .i64 x1_)]).run Tryd.prog w = .ok (.agg #[.int .i64 x0_, .int .i64 x1_]) w := by kernel_rfl

set_option maxRecDepth 10000 in
theorem makes_d (N : Int) (n : Nat) (X : List Ce) (H : Hist) (v h b : Nat) (A1 : Option Addr) (c1 : Nat) (A2 : Option Addr) (c2 : Nat) (A3 : Option Addr) (c3 : Nat) (nx : List Int) (m : Mv) (i : Nat) (hV : VI N n H X nx) (hN : N ≤ 1000) (hi : i ≤ n) : Sp Tryd.prog 20 [.pointer (some ⟨v, 0, none⟩), mvV m, .int .i64 i] [vwP v h b A1 H.ents.length c1 A2 c2 A3 c3 nx] [RdF idD A1 c1 (idsOf H.ents), RdF (De.int .i64) A2 c2 (kindsOf H.ents), RdF De.str A3 c3 (textsOf H.ents)] (MakeD (vwP v h b A1 H.ents.length c1 A2 c2 A3 c3 nx) H i nx m) := by
  have hnl := hV.len
  have hn2 := hV.le
  have hcb := cells_before hV.hv i
  have hcB := hV.cellsB i
  have hel := editsL_len ((idsOf H.ents).take i) ((kindsOf H.ents).take i)
  have hil : (idsOf H.ents).length = H.ents.length := by simp [idsOf]
  have hkl : (kindsOf H.ents).length = H.ents.length := by simp [kindsOf]
  have htl : (textsOf H.ents).length = H.ents.length := by simp [textsOf]
  rw [List.length_take] at hel
  refine Sp.of (n := 93) ⟨_, Tryd.func20, rfl, rfl, rfl, rfl⟩ (Nat.le_of_ble_eq_true rfl) fun Ps As => WC_seq (WC_region (WL_main rfl (OW_box (cs := [_, _, _, _, _, _]) rfl rfl (by decide) fun b4 => WL_main rfl (OW_alloc (cs := [_, _, _, _, _, _, _, _, _]) ti31 rfl (by decide) fun b6 => WL_nil (thenN (WC_seq (WC_fact (A := RdF rgD none 0 []) (fun Z w hs => RdS.nil _ _ _) (WC_region (Lq (q_move rfl) (Lq (q_move rfl) (WL_main rfl (OW_call1 (vtotal_s v h b H.ents.length A1 c1 A2 c2 A3 c3 nx (textsOf H.ents) i (by omega) (by omega) (by omega) (fun j _ => by have := hV.cellsB j; omega)) (.cons rfl (.cons rfl (.nil))) (by decide) (.s (.s (.z))) (memc (.tail _ (.tail _ (.tail _ (.head _)))) mem0) fun u1_2 Lo fs hres => ?_))))))))))))
  obtain ⟨rfl, rfl, rfl⟩ := hres
  refine Lq (q_assign rfl) (WL_nil (thenN (WC_seq (WC_region (Lq (q_move rfl) (Lq (q_move rfl) (WL_main rfl (OW_call1 (vedits_s v h b H.ents.length A1 c1 A2 c2 A3 c3 nx (idsOf H.ents) (kindsOf H.ents) i (by omega) (by omega) (by omega) (by omega)) (.cons rfl (.cons rfl (.nil))) (by decide) (.z) (memc (.tail _ (.head _)) (memc (.tail _ (.tail _ (.head _))) mem0)) fun u2_2 Lo fs hres => ?_))))))))
  obtain ⟨A8, c8, rfl, rfl, rfl⟩ := hres
  refine Lq (q_assign rfl) (WL_nil (thenN (WC_seq (WC_region (Lq (q_field (o' := 2) Tryd.underlying51 rfl ti3 rfl rfl) (Lq (q_load1 Tryd.underlying3 rfl rfl (ownS (ownS (own0))) rfl) (WL_main rfl (OW_call0 (rest_r m.client 8 (by omega)) (.cons rfl (.cons rfl (.nil))) (by decide) mem0 fun u3_2 Lo fs hres => ?_))))))))
  obtain ⟨r20, hr20, hm20, rfl, rfl, rfl⟩ := hres
  have hxl : 1 + r20 < nx.length := by rw [hV.nxl]; omega
  obtain ⟨x, hx⟩ : ∃ x, nx[1 + r20]? = some x := ⟨_, List.getElem?_eq_getElem hxl⟩
  have hx0 := hV.nx0 x (List.mem_of_getElem? hx)
  refine Lq (q_add rfl rfl (wr64 (by omega)) (c := ((1 + r20 : Nat) : Int))) (Lq (q_assign rfl) (WL_nil (thenN (WC_seq (WC_region (WL_main rfl (OW_alloc (cs := [_, _, _, _, _, _, _, _, _]) ti31 rfl (by decide) fun b10 => WL_nil (thenN (WC_seq (WC_region (Lq (q_move rfl) (Lq (q_move rfl) (Lq (q_move rfl) (Lq (q_nil rfl) (Lq (q_field (o' := 5) Tryd.underlying61 rfl ti59 rfl rfl) ?_)))))))))))))))
  refine Lq (q_idxA Tryd.underlying59 ti3 rfl rfl (by omega) (by omega) rfl) (Lq (q_load1 Tryd.underlying3 rfl rfl (ownS (own0)) (vw_next hx)) (Lq (q_add rfl rfl (wr64 (by omega))) (Lq (q_build (.cons rfl (.cons rfl (.nil))) (bd25_0_1Xw37 _ _)) (Lq (q_field (o' := 0) Tryd.underlying31 rfl ti28 rfl rfl) (Lq (q_field (o' := 0) Tryd.underlying28 rfl ti25 rfl rfl) (WL_main rfl (OW_storeN (cs' := [_, _, _, _, _, _, _, _, _]) (vs := [_, _]) ti25 rfl rfl rfl rfl rfl (Nat.le_of_ble_eq_true rfl) (.z) (WL_nil (thenN (WC_seq (WC_region (Lq (q_field (o' := 0) Tryd.underlying51 rfl ti3 rfl rfl) (Lq (q_load1 Tryd.underlying3 rfl rfl (ownS (ownS (ownS (own0)))) rfl) ?_)))))))))))))
  refine WL_main rfl (OW_call0 (rest_r m.kind 3 (by omega)) (.cons rfl (.cons rfl (.nil))) (by decide) mem0 fun u6_2 Lo fs hres => ?_)
  obtain ⟨r35, hr35, hm35, rfl, rfl, rfl⟩ := hres
  refine Lq (q_assign rfl) (WL_nil (thenN (WC_seq (WC_block (WC_seq (WC_region (Lq (q_move rfl) (Lq (q_eql rfl rfl) (Lq (q_move rfl) (WL_guard (t := 55) rfl (fun g55 => ?_) (fun g55 => ?_)))))))))))
  · refine Lg rfl rfl rfl g55 (q_move rfl) (Lg rfl rfl rfl g55 (q_gtr rfl rfl) (Lq (q_pickT rfl g55 rfl) (Lq (q_assign rfl) (WL_nil (thenN (WC_cond rfl (fun h52 => ?_) (fun h52 => ?_)))))))
    · have hT0 : 0 < cellsN ((textsOf H.ents).take i) := by revert h52; simp
      refine WC_seq (WC_region (Lq (q_field (o' := 0) Tryd.underlying31 rfl ti28 rfl rfl) (Lq (q_field (o' := 2) Tryd.underlying28 rfl ti26 rfl rfl) (WL_main rfl (OW_store1 ti26 rfl rfl rfl (.s (.s (.z))) (.z) (WL_nil (thenN (WC_region (Lq (q_move rfl) (Lq (q_field (o' := 3) Tryd.underlying51 rfl ti3 rfl rfl) (Lq (q_load1 Tryd.underlying3 rfl rfl (ownS (ownS (ownS (own0)))) rfl) (Lq (q_field (o' := 4) Tryd.underlying51 rfl ti3 rfl rfl) (Lq (q_load1 Tryd.underlying3 rfl rfl (ownS (ownS (ownS (own0)))) rfl) ?_)))))))))))))
      refine WL_main rfl (OW_call0 (some_s (cellsN ((textsOf H.ents).take i)) m.a m.b (by omega)) (.cons rfl (.cons rfl (.cons rfl (.nil)))) (by decide) mem0 fun u12_5 Lo fs hres => ?_)
      obtain ⟨A9, c9, xs, rfl, rfl, rfl, hxs, hxn, hxe⟩ := hres
      refine Lq (q_field (o' := 5) Tryd.underlying31 rfl ti29 rfl rfl) (WL_main rfl (OW_store1 ti29 rfl rfl rfl (.s (.s (.s (.s (.s (.z)))))) (.z) (WL_nil (blockN (thenN (WC_seq (WC_region (Lq (q_loadN (vs := [_, _, _, _, _, _, _, _, _]) Tryd.underlying31 rfl ti31 rfl own0 rfl rfl) (WL_main rfl (OW_storeN (cs' := [_, _, _, _, _, _, _, _, _]) (vs := [_, _, _, _, _, _, _, _, _]) ti31 rfl rfl rfl rfl rfl (Nat.le_of_ble_eq_true rfl) (.s (.s (.z))) (WL_nil (thenN (WC_ret ?_)))))))))))))
      refine ⟨_, [_], [_], fun Z w hs => RV_ownN hs Tryd.underlying31 rfl ti31 rfl (ownS (ownS (own0))) rfl (.nil), ?_, fun Z w hs => hs.out (List.Sublist.cons _ (List.Sublist.cons_cons _ (List.Sublist.cons _ (List.Sublist.cons _ (List.Sublist.refl _))))) (memc (.head _) (fun _ h => .tail _ (.tail _ (.tail _ h))))⟩
      refine ⟨{ zeroOp with c := ((1 + r20 : Nat) : Int), n := x + 1, kind := 2, rs := xs }, _, _, x, rfl, rfl, rfl, by show ((1 + r20 : Nat) : Int) = _; omega, by show nx[((1 + r20 : Nat) : Int).toNat]? = _; rw [Int.toNat_natCast]; exact hx, rfl, ⟨fun c k hw hr => ?_, by show (⟨#[]⟩ : ByteArray).size ≤ 1000; decide, by have := hxs.len (by omega); show xs.length ≤ _; omega⟩, ?_⟩
      · exact good_hide hV hi hw hr (by rw [← hcb]; exact hxs) hxn
      · unfold makeF
        have hc1 : (1 : Int) + m.client % ((8 : Nat) : Int) = ((1 + r20 : Nat) : Int) := by omega
        have hxd : nx.getD (((1 + r20 : Nat) : Int)).toNat 0 = x := by rw [Int.toNat_natCast, List.getD_eq_getElem?_getD, hx]; rfl
        rw [hc1, hxd]
        unfold makeG
        try simp only [Bp, Bq] at *
        rw [if_pos (by unfold cutN; omega)]
        unfold cutN
        rw [← hxe]
    · refine WC_seq (WC_region (Lq (q_move rfl) (Lq (q_eql rfl rfl) (Lq (q_move rfl) (WL_guard (t := 71) rfl (fun g71 => ?_) (fun g71 => ?_))))))
      · refine Lg rfl rfl rfl g71 (q_move rfl) (Lg rfl rfl rfl g71 (q_len Tryd.underlying56 rfl) (Lg rfl rfl rfl g71 (q_gtr rfl rfl) (Lq (q_pickT rfl g71 rfl) (Lq (q_assign rfl) (WL_nil (thenN (WC_cond rfl (fun h68 => ?_) (fun h68 => ?_))))))))
        · have hE0 : 0 < (editsL ((idsOf H.ents).take i) ((kindsOf H.ents).take i)).length := by revert h68; simp
          refine WC_seq (WC_region (Lq (q_field (o' := 0) Tryd.underlying31 rfl ti28 rfl rfl) (Lq (q_field (o' := 2) Tryd.underlying28 rfl ti26 rfl rfl) (WL_main rfl (OW_store1 ti26 rfl rfl rfl (.s (.s (.z))) (.z) (WL_nil (thenN (WC_seq (WC_region (Lq (q_move rfl) (Lq (q_field (o' := 3) Tryd.underlying51 rfl ti3 rfl rfl) (Lq (q_load1 Tryd.underlying3 rfl rfl (ownS (ownS (ownS (own0)))) rfl) (Lq (q_move rfl) (Lq (q_len Tryd.underlying56 rfl) ?_))))))))))))))
          refine WL_main rfl (OW_call0 (rest_r m.a (editsL ((idsOf H.ents).take i) ((kindsOf H.ents).take i)).length (by omega)) (.cons rfl (.cons rfl (.nil))) (by decide) mem0 fun u15_5 Lo fs hres => ?_)
          obtain ⟨r83, hr83, hm83, rfl, rfl, rfl⟩ := hres
          have hEm := edits_target (List.getElem_mem hm83)
          obtain ⟨j, hj, hji, hjc, hjn, hjk⟩ := hEm
          refine WL_elem (k := r83) (.head _) (List.getElem?_eq_getElem hm83) (id_open _) fun b9 q9 y9 e9 => ?_
          cases e9
          refine Lq (q_idxRd Tryd.underlying56 ti25 rfl rfl (by omega) (by omega)) (Lq (q_loadFN (k := 0) (vs := [_, _]) Tryd.underlying25 rfl ti25 rfl (.head _) rfl rfl rfl) (Lq (q_field (o' := 6) Tryd.underlying31 rfl ti25 rfl rfl) (WL_main rfl (OW_storeN (cs' := [_, _, _, _, _, _, _, _, _]) (vs := [_, _]) ti25 rfl rfl rfl rfl rfl (Nat.le_of_ble_eq_true rfl) (.z) (WL_nil (thenN (WC_fr [(10, _), (6, _), (4, _)] (.cons rfl (.cons rfl (.cons rfl (.nil _)))) (WC_region (Lq (q_field (o' := 4) Tryd.underlying51 rfl ti3 rfl rfl) (Lq (q_load1 Tryd.underlying3 rfl rfl (ownS (ownS (ownS (own0)))) rfl) (WL_main rfl (OW_call0 (rest_r m.b 2 (by omega)) (.cons rfl (.cons rfl (.nil))) (by decide) mem0 fun u16_2 Lo fs hres => ?_))))))))))))
          obtain ⟨r89, hr89, hm89, rfl, rfl, rfl⟩ := hres
          refine Lq (q_eql rfl rfl) (Lq (q_field (o' := 8) Tryd.underlying31 rfl ti4 rfl rfl) (WL_main rfl (OW_store1 ti4 rfl rfl rfl (.s (.s (.s (.s (.s (.s (.s (.s (.z))))))))) (.z) (WL_nil (blockN (thenN (WC_seq (WC_region (Lq (q_loadN (vs := [_, _, _, _, _, _, _, _, _]) Tryd.underlying31 rfl ti31 rfl own0 rfl rfl) (WL_main rfl (OW_storeN (cs' := [_, _, _, _, _, _, _, _, _]) (vs := [_, _, _, _, _, _, _, _, _]) ti31 rfl rfl rfl rfl rfl (Nat.le_of_ble_eq_true rfl) (.s (.s (.z))) (WL_nil (thenN (WC_ret ?_))))))))))))))
          refine ⟨_, [_], [_], fun Z w hs => RV_ownN hs Tryd.underlying31 rfl ti31 rfl (ownS (ownS (own0))) rfl (.nil), ?_, fun Z w hs => hs.out (List.Sublist.cons _ (List.Sublist.cons_cons _ (List.Sublist.cons _ (List.Sublist.cons _ (List.Sublist.refl _))))) (fun _ h => .tail _ (.tail _ h))⟩
          refine ⟨{ zeroOp with c := ((1 + r20 : Nat) : Int), n := x + 1, kind := 4, tc := (editsL ((idsOf H.ents).take i) ((kindsOf H.ents).take i))[r83].1, tn := (editsL ((idsOf H.ents).take i) ((kindsOf H.ents).take i))[r83].2, on := ((r89 : Int) == 1) }, _, _, x, rfl, rfl, rfl, by show ((1 + r20 : Nat) : Int) = _; omega, by show nx[((1 + r20 : Nat) : Int).toNat]? = _; rw [Int.toNat_natCast]; exact hx, rfl, ⟨fun c k hw hr => ?_, by show (⟨#[]⟩ : ByteArray).size ≤ 1000; decide, by show ([] : List Rg).length ≤ 60000; decide⟩, ?_⟩
          · have := good_status hV hi hw hr hj hji hjk ((r89 : Int) == 1)
            rw [hjc, hjn] at this
            exact this
          · unfold makeF
            have hc1 : (1 : Int) + m.client % ((8 : Nat) : Int) = ((1 + r20 : Nat) : Int) := by omega
            have hxd : nx.getD (((1 + r20 : Nat) : Int)).toNat 0 = x := by rw [Int.toNat_natCast, List.getD_eq_getElem?_getD, hx]; rfl
            rw [hc1, hxd]
            unfold makeG
            try simp only [Bp, Bq] at *
            rw [if_neg (by unfold cutN; omega), if_pos (by unfold edsN; omega), show (m.a % ((edsN H i).length : Int)).toNat = r83 from by unfold edsN; omega, ← hr89]
            unfold edsN
            rw [List.getD_eq_getElem?_getD, List.getElem?_eq_getElem hm83]; rfl
        · refine WC_seq (WC_region (Lq (q_field (o' := 0) Tryd.underlying31 rfl ti28 rfl rfl) (Lq (q_field (o' := 2) Tryd.underlying28 rfl ti26 rfl rfl) (WL_main rfl (OW_store1 ti26 rfl rfl rfl (.s (.s (.z))) (.z) (WL_nil (thenN (WC_seq (WC_region (Lq (q_field (o' := 3) Tryd.underlying51 rfl ti3 rfl rfl) (Lq (q_load1 Tryd.underlying3 rfl rfl (ownS (ownS (ownS (own0)))) rfl) (Lq (q_move rfl) (Lq (q_add rfl rfl (wr64 (by omega)) (c := ((cellsN ((textsOf H.ents).take i) + 1 : Nat) : Int))) (WL_main rfl (OW_call0 (rest_r m.a (cellsN ((textsOf H.ents).take i) + 1) (by omega)) (.cons rfl (.cons rfl (.nil))) (by decide) mem0 fun u8_4 Lo fs hres => ?_)))))))))))))))
          obtain ⟨r42, hr42, hm42, rfl, rfl, rfl⟩ := hres
          refine Lq (q_field (o' := 3) Tryd.underlying31 rfl ti3 rfl rfl) (WL_main rfl (OW_store1 ti3 rfl rfl rfl (.s (.s (.s (.z)))) (.z) (WL_nil (thenN (WC_draw _ _ [8] (.c 0 0 (.c 1 0 (.c 4 0 (.c 5 0 (.c 2 2 (.c 3 0 (.c 6 2 (.c 7 0 (.c 8 3 .nil))))))))) mixed (fun _ _ _ _ h => h) (List.Sublist.cons_cons _ (List.Sublist.cons_cons _ (List.Sublist.cons_cons _ (List.Sublist.cons_cons _ (List.Sublist.refl _))))) (fun _ h => h) (by kernel_rfl) (by decide) fun ws Z0 => Qe rfl (q_field (o' := 5) Tryd.underlying51 rfl ti3 rfl rfl) (Qe rfl (q_load1 Tryd.underlying3 rfl rfl (ownS (ownS (ownS (own0)))) rfl) (Qe rfl (q_field (o' := 4) Tryd.underlying51 rfl ti3 rfl rfl) (Qe rfl (q_load1 Tryd.underlying3 rfl rfl (ownS (ownS (ownS (own0)))) rfl) (WE_main rfl rfl (OW_call0 (rest_r m.n 12 (by omega)) (.cons rfl (.cons rfl (.nil))) (by decide) mem0 fun u9_2 Lo fs hres => ?_))))))))))
          obtain ⟨r46, hr46, hm46, rfl, rfl, rfl⟩ := hres
          refine ⟨⟨(List.Sublist.cons_cons _ (List.Sublist.cons_cons _ (List.Sublist.cons_cons _ (List.Sublist.cons_cons _ (List.Sublist.refl _))))), (.head _)⟩, ?_⟩
          refine Qe rfl (q_add rfl rfl (wr64 (by omega)) (c := ((1 + r46 : Nat) : Int))) (WE_main rfl rfl (OW_call0 (words_g (1 + r46) m.b (by omega)) (.cons rfl (.cons rfl (.nil))) (by decide) mem0 fun u9_6 Lo fs hres => ?_))
          obtain ⟨ls, hls, rfl, rfl, rfl, hlw⟩ := hres
          refine ⟨⟨(List.Sublist.cons_cons _ (List.Sublist.cons_cons _ (List.Sublist.cons_cons _ (List.Sublist.cons_cons _ (List.Sublist.refl _))))), (.head _)⟩, ?_⟩
          refine Qe rfl (q_field (o' := 4) Tryd.underlying31 rfl ti9 rfl rfl) (WE_end (WF_last rfl rfl (OW_store1 ti9 rfl rfl rfl (.s (.s (.s (.s (.z))))) (.z) (WF_nil (blockN (thenN (WC_fr [(10, _), (6, _)] (.cons rfl (.cons rfl (.nil _))) (WC_seq (WC_region (Lq (q_loadN (vs := [_, _, _, _, _, _, _, _, _]) Tryd.underlying31 rfl ti31 rfl own0 rfl rfl) (WL_main rfl (OW_storeN (cs' := [_, _, _, _, _, _, _, _, _]) (vs := [_, _, _, _, _, _, _, _, _]) ti31 rfl rfl rfl rfl rfl (Nat.le_of_ble_eq_true rfl) (.s (.s (.z))) (WL_nil (thenN (WC_ret ?_)))))))))))))))
          refine ⟨_, [_], [_], fun Z w hs => RV_ownN hs Tryd.underlying31 rfl ti31 rfl (ownS (ownS (own0))) rfl (.nil), ?_, fun Z w hs => hs.out (List.Sublist.cons _ (List.Sublist.cons_cons _ (List.Sublist.cons _ (List.Sublist.cons _ (List.Sublist.refl _))))) (fun _ h => .tail _ (.tail _ h))⟩
          refine ⟨{ zeroOp with c := ((1 + r20 : Nat) : Int), n := x + 1, kind := 1, at_ := (r42 : Int), text := txOf ls }, _, _, x, rfl, rfl, rfl, by show ((1 + r20 : Nat) : Int) = _; omega, by show nx[((1 + r20 : Nat) : Int).toNat]? = _; rw [Int.toNat_natCast]; exact hx, rfl, ⟨fun c k hw hr => ?_, by have := txOf_size ls; show (txOf ls).size ≤ _; omega, by show ([] : List Rg).length ≤ 60000; decide⟩, ?_⟩
          · exact good_ins (a := (r42 : Int)) (ls := ls) hV hi hw hr (by rw [← hcb]; omega) (by omega)
          · unfold makeF
            have hc1 : (1 : Int) + m.client % ((8 : Nat) : Int) = ((1 + r20 : Nat) : Int) := by omega
            have hxd : nx.getD (((1 + r20 : Nat) : Int)).toNat 0 = x := by rw [Int.toNat_natCast, List.getD_eq_getElem?_getD, hx]; rfl
            rw [hc1, hxd]
            unfold makeG
            try simp only [Bp, Bq] at *
            rw [if_neg (by unfold cutN; omega), if_neg (by unfold edsN; omega), show (m.n % ((12 : Nat) : Int)).toNat = r46 from by omega, ← hlw]
            unfold cutN
            rw [← hr42]
      · refine Ln rfl rfl rfl g71 (Ln rfl rfl rfl g71 (Ln rfl rfl rfl g71 (Lq (q_pickF rfl g71 rfl) (Lq (q_assign rfl) (WL_nil (thenN (WC_false rfl rfl (WC_seq (WC_region (Lq (q_field (o' := 0) Tryd.underlying31 rfl ti28 rfl rfl) (Lq (q_field (o' := 2) Tryd.underlying28 rfl ti26 rfl rfl) (WL_main rfl (OW_store1 ti26 rfl rfl rfl (.s (.s (.z))) (.z) (WL_nil (thenN (WC_seq (WC_region ?_)))))))))))))))))
        refine Lq (q_field (o' := 3) Tryd.underlying51 rfl ti3 rfl rfl) (Lq (q_load1 Tryd.underlying3 rfl rfl (ownS (ownS (ownS (own0)))) rfl) (Lq (q_move rfl) (Lq (q_add rfl rfl (wr64 (by omega)) (c := ((cellsN ((textsOf H.ents).take i) + 1 : Nat) : Int))) (WL_main rfl (OW_call0 (rest_r m.a (cellsN ((textsOf H.ents).take i) + 1) (by omega)) (.cons rfl (.cons rfl (.nil))) (by decide) mem0 fun u8_4 Lo fs hres => ?_)))))
        obtain ⟨r42, hr42, hm42, rfl, rfl, rfl⟩ := hres
        refine Lq (q_field (o' := 3) Tryd.underlying31 rfl ti3 rfl rfl) (WL_main rfl (OW_store1 ti3 rfl rfl rfl (.s (.s (.s (.z)))) (.z) (WL_nil (thenN (WC_draw _ _ [8] (.c 0 0 (.c 1 0 (.c 4 0 (.c 5 0 (.c 2 2 (.c 3 0 (.c 6 2 (.c 7 0 (.c 8 3 .nil))))))))) mixed (fun _ _ _ _ h => h) (List.Sublist.cons_cons _ (List.Sublist.cons_cons _ (List.Sublist.cons_cons _ (List.Sublist.cons_cons _ (List.Sublist.refl _))))) (fun _ h => h) (by kernel_rfl) (by decide) fun ws Z0 => Qe rfl (q_field (o' := 5) Tryd.underlying51 rfl ti3 rfl rfl) (Qe rfl (q_load1 Tryd.underlying3 rfl rfl (ownS (ownS (ownS (own0)))) rfl) (Qe rfl (q_field (o' := 4) Tryd.underlying51 rfl ti3 rfl rfl) (Qe rfl (q_load1 Tryd.underlying3 rfl rfl (ownS (ownS (ownS (own0)))) rfl) (WE_main rfl rfl (OW_call0 (rest_r m.n 12 (by omega)) (.cons rfl (.cons rfl (.nil))) (by decide) mem0 fun u9_2 Lo fs hres => ?_))))))))))
        obtain ⟨r46, hr46, hm46, rfl, rfl, rfl⟩ := hres
        refine ⟨⟨(List.Sublist.cons_cons _ (List.Sublist.cons_cons _ (List.Sublist.cons_cons _ (List.Sublist.cons_cons _ (List.Sublist.refl _))))), (.head _)⟩, ?_⟩
        refine Qe rfl (q_add rfl rfl (wr64 (by omega)) (c := ((1 + r46 : Nat) : Int))) (WE_main rfl rfl (OW_call0 (words_g (1 + r46) m.b (by omega)) (.cons rfl (.cons rfl (.nil))) (by decide) mem0 fun u9_6 Lo fs hres => ?_))
        obtain ⟨ls, hls, rfl, rfl, rfl, hlw⟩ := hres
        refine ⟨⟨(List.Sublist.cons_cons _ (List.Sublist.cons_cons _ (List.Sublist.cons_cons _ (List.Sublist.cons_cons _ (List.Sublist.refl _))))), (.head _)⟩, ?_⟩
        refine Qe rfl (q_field (o' := 4) Tryd.underlying31 rfl ti9 rfl rfl) (WE_end (WF_last rfl rfl (OW_store1 ti9 rfl rfl rfl (.s (.s (.s (.s (.z))))) (.z) (WF_nil (blockN (thenN (WC_fr [(10, _), (6, _)] (.cons rfl (.cons rfl (.nil _))) (WC_seq (WC_region (Lq (q_loadN (vs := [_, _, _, _, _, _, _, _, _]) Tryd.underlying31 rfl ti31 rfl own0 rfl rfl) (WL_main rfl (OW_storeN (cs' := [_, _, _, _, _, _, _, _, _]) (vs := [_, _, _, _, _, _, _, _, _]) ti31 rfl rfl rfl rfl rfl (Nat.le_of_ble_eq_true rfl) (.s (.s (.z))) (WL_nil (thenN (WC_ret ?_)))))))))))))))
        refine ⟨_, [_], [_], fun Z w hs => RV_ownN hs Tryd.underlying31 rfl ti31 rfl (ownS (ownS (own0))) rfl (.nil), ?_, fun Z w hs => hs.out (List.Sublist.cons _ (List.Sublist.cons_cons _ (List.Sublist.cons _ (List.Sublist.cons _ (List.Sublist.refl _))))) (fun _ h => .tail _ (.tail _ h))⟩
        refine ⟨{ zeroOp with c := ((1 + r20 : Nat) : Int), n := x + 1, kind := 1, at_ := (r42 : Int), text := txOf ls }, _, _, x, rfl, rfl, rfl, by show ((1 + r20 : Nat) : Int) = _; omega, by show nx[((1 + r20 : Nat) : Int).toNat]? = _; rw [Int.toNat_natCast]; exact hx, rfl, ⟨fun c k hw hr => ?_, by have := txOf_size ls; show (txOf ls).size ≤ _; omega, by show ([] : List Rg).length ≤ 60000; decide⟩, ?_⟩
        · exact good_ins (a := (r42 : Int)) (ls := ls) hV hi hw hr (by rw [← hcb]; omega) (by omega)
        · unfold makeF
          have hc1 : (1 : Int) + m.client % ((8 : Nat) : Int) = ((1 + r20 : Nat) : Int) := by omega
          have hxd : nx.getD (((1 + r20 : Nat) : Int)).toNat 0 = x := by rw [Int.toNat_natCast, List.getD_eq_getElem?_getD, hx]; rfl
          rw [hc1, hxd]
          unfold makeG
          try simp only [Bp, Bq] at *
          rw [if_neg (by unfold cutN; omega), if_neg (by unfold edsN; omega), show (m.n % ((12 : Nat) : Int)).toNat = r46 from by omega, ← hlw]
          unfold cutN
          rw [← hr42]
  · refine Ln rfl rfl rfl g55 (Ln rfl rfl rfl g55 (Lq (q_pickF rfl g55 rfl) (Lq (q_assign rfl) (WL_nil (thenN (WC_false rfl rfl (WC_seq (WC_region (Lq (q_move rfl) (Lq (q_eql rfl rfl) (Lq (q_move rfl) (WL_guard (t := 71) rfl (fun g71 => ?_) (fun g71 => ?_)))))))))))))
    · refine Lg rfl rfl rfl g71 (q_move rfl) (Lg rfl rfl rfl g71 (q_len Tryd.underlying56 rfl) (Lg rfl rfl rfl g71 (q_gtr rfl rfl) (Lq (q_pickT rfl g71 rfl) (Lq (q_assign rfl) (WL_nil (thenN (WC_cond rfl (fun h68 => ?_) (fun h68 => ?_))))))))
      · have hE0 : 0 < (editsL ((idsOf H.ents).take i) ((kindsOf H.ents).take i)).length := by revert h68; simp
        refine WC_seq (WC_region (Lq (q_field (o' := 0) Tryd.underlying31 rfl ti28 rfl rfl) (Lq (q_field (o' := 2) Tryd.underlying28 rfl ti26 rfl rfl) (WL_main rfl (OW_store1 ti26 rfl rfl rfl (.s (.s (.z))) (.z) (WL_nil (thenN (WC_seq (WC_region (Lq (q_move rfl) (Lq (q_field (o' := 3) Tryd.underlying51 rfl ti3 rfl rfl) (Lq (q_load1 Tryd.underlying3 rfl rfl (ownS (ownS (ownS (own0)))) rfl) (Lq (q_move rfl) (Lq (q_len Tryd.underlying56 rfl) ?_))))))))))))))
        refine WL_main rfl (OW_call0 (rest_r m.a (editsL ((idsOf H.ents).take i) ((kindsOf H.ents).take i)).length (by omega)) (.cons rfl (.cons rfl (.nil))) (by decide) mem0 fun u15_5 Lo fs hres => ?_)
        obtain ⟨r83, hr83, hm83, rfl, rfl, rfl⟩ := hres
        have hEm := edits_target (List.getElem_mem hm83)
        obtain ⟨j, hj, hji, hjc, hjn, hjk⟩ := hEm
        refine WL_elem (k := r83) (.head _) (List.getElem?_eq_getElem hm83) (id_open _) fun b9 q9 y9 e9 => ?_
        cases e9
        refine Lq (q_idxRd Tryd.underlying56 ti25 rfl rfl (by omega) (by omega)) (Lq (q_loadFN (k := 0) (vs := [_, _]) Tryd.underlying25 rfl ti25 rfl (.head _) rfl rfl rfl) (Lq (q_field (o' := 6) Tryd.underlying31 rfl ti25 rfl rfl) (WL_main rfl (OW_storeN (cs' := [_, _, _, _, _, _, _, _, _]) (vs := [_, _]) ti25 rfl rfl rfl rfl rfl (Nat.le_of_ble_eq_true rfl) (.z) (WL_nil (thenN (WC_fr [(10, _), (6, _), (4, _)] (.cons rfl (.cons rfl (.cons rfl (.nil _)))) (WC_region (Lq (q_field (o' := 4) Tryd.underlying51 rfl ti3 rfl rfl) (Lq (q_load1 Tryd.underlying3 rfl rfl (ownS (ownS (ownS (own0)))) rfl) (WL_main rfl (OW_call0 (rest_r m.b 2 (by omega)) (.cons rfl (.cons rfl (.nil))) (by decide) mem0 fun u16_2 Lo fs hres => ?_))))))))))))
        obtain ⟨r89, hr89, hm89, rfl, rfl, rfl⟩ := hres
        refine Lq (q_eql rfl rfl) (Lq (q_field (o' := 8) Tryd.underlying31 rfl ti4 rfl rfl) (WL_main rfl (OW_store1 ti4 rfl rfl rfl (.s (.s (.s (.s (.s (.s (.s (.s (.z))))))))) (.z) (WL_nil (blockN (thenN (WC_seq (WC_region (Lq (q_loadN (vs := [_, _, _, _, _, _, _, _, _]) Tryd.underlying31 rfl ti31 rfl own0 rfl rfl) (WL_main rfl (OW_storeN (cs' := [_, _, _, _, _, _, _, _, _]) (vs := [_, _, _, _, _, _, _, _, _]) ti31 rfl rfl rfl rfl rfl (Nat.le_of_ble_eq_true rfl) (.s (.s (.z))) (WL_nil (thenN (WC_ret ?_))))))))))))))
        refine ⟨_, [_], [_], fun Z w hs => RV_ownN hs Tryd.underlying31 rfl ti31 rfl (ownS (ownS (own0))) rfl (.nil), ?_, fun Z w hs => hs.out (List.Sublist.cons _ (List.Sublist.cons_cons _ (List.Sublist.cons _ (List.Sublist.cons _ (List.Sublist.refl _))))) (fun _ h => .tail _ (.tail _ h))⟩
        refine ⟨{ zeroOp with c := ((1 + r20 : Nat) : Int), n := x + 1, kind := 4, tc := (editsL ((idsOf H.ents).take i) ((kindsOf H.ents).take i))[r83].1, tn := (editsL ((idsOf H.ents).take i) ((kindsOf H.ents).take i))[r83].2, on := ((r89 : Int) == 1) }, _, _, x, rfl, rfl, rfl, by show ((1 + r20 : Nat) : Int) = _; omega, by show nx[((1 + r20 : Nat) : Int).toNat]? = _; rw [Int.toNat_natCast]; exact hx, rfl, ⟨fun c k hw hr => ?_, by show (⟨#[]⟩ : ByteArray).size ≤ 1000; decide, by show ([] : List Rg).length ≤ 60000; decide⟩, ?_⟩
        · have := good_status hV hi hw hr hj hji hjk ((r89 : Int) == 1)
          rw [hjc, hjn] at this
          exact this
        · unfold makeF
          have hc1 : (1 : Int) + m.client % ((8 : Nat) : Int) = ((1 + r20 : Nat) : Int) := by omega
          have hxd : nx.getD (((1 + r20 : Nat) : Int)).toNat 0 = x := by rw [Int.toNat_natCast, List.getD_eq_getElem?_getD, hx]; rfl
          rw [hc1, hxd]
          unfold makeG
          try simp only [Bp, Bq] at *
          rw [if_neg (by unfold cutN; omega), if_pos (by unfold edsN; omega), show (m.a % ((edsN H i).length : Int)).toNat = r83 from by unfold edsN; omega, ← hr89]
          unfold edsN
          rw [List.getD_eq_getElem?_getD, List.getElem?_eq_getElem hm83]; rfl
      · refine WC_seq (WC_region (Lq (q_field (o' := 0) Tryd.underlying31 rfl ti28 rfl rfl) (Lq (q_field (o' := 2) Tryd.underlying28 rfl ti26 rfl rfl) (WL_main rfl (OW_store1 ti26 rfl rfl rfl (.s (.s (.z))) (.z) (WL_nil (thenN (WC_seq (WC_region (Lq (q_field (o' := 3) Tryd.underlying51 rfl ti3 rfl rfl) (Lq (q_load1 Tryd.underlying3 rfl rfl (ownS (ownS (ownS (own0)))) rfl) (Lq (q_move rfl) (Lq (q_add rfl rfl (wr64 (by omega)) (c := ((cellsN ((textsOf H.ents).take i) + 1 : Nat) : Int))) (WL_main rfl (OW_call0 (rest_r m.a (cellsN ((textsOf H.ents).take i) + 1) (by omega)) (.cons rfl (.cons rfl (.nil))) (by decide) mem0 fun u8_4 Lo fs hres => ?_)))))))))))))))
        obtain ⟨r42, hr42, hm42, rfl, rfl, rfl⟩ := hres
        refine Lq (q_field (o' := 3) Tryd.underlying31 rfl ti3 rfl rfl) (WL_main rfl (OW_store1 ti3 rfl rfl rfl (.s (.s (.s (.z)))) (.z) (WL_nil (thenN (WC_draw _ _ [8] (.c 0 0 (.c 1 0 (.c 4 0 (.c 5 0 (.c 2 2 (.c 3 0 (.c 6 2 (.c 7 0 (.c 8 3 .nil))))))))) mixed (fun _ _ _ _ h => h) (List.Sublist.cons_cons _ (List.Sublist.cons_cons _ (List.Sublist.cons_cons _ (List.Sublist.cons_cons _ (List.Sublist.refl _))))) (fun _ h => h) (by kernel_rfl) (by decide) fun ws Z0 => Qe rfl (q_field (o' := 5) Tryd.underlying51 rfl ti3 rfl rfl) (Qe rfl (q_load1 Tryd.underlying3 rfl rfl (ownS (ownS (ownS (own0)))) rfl) (Qe rfl (q_field (o' := 4) Tryd.underlying51 rfl ti3 rfl rfl) (Qe rfl (q_load1 Tryd.underlying3 rfl rfl (ownS (ownS (ownS (own0)))) rfl) (WE_main rfl rfl (OW_call0 (rest_r m.n 12 (by omega)) (.cons rfl (.cons rfl (.nil))) (by decide) mem0 fun u9_2 Lo fs hres => ?_))))))))))
        obtain ⟨r46, hr46, hm46, rfl, rfl, rfl⟩ := hres
        refine ⟨⟨(List.Sublist.cons_cons _ (List.Sublist.cons_cons _ (List.Sublist.cons_cons _ (List.Sublist.cons_cons _ (List.Sublist.refl _))))), (.head _)⟩, ?_⟩
        refine Qe rfl (q_add rfl rfl (wr64 (by omega)) (c := ((1 + r46 : Nat) : Int))) (WE_main rfl rfl (OW_call0 (words_g (1 + r46) m.b (by omega)) (.cons rfl (.cons rfl (.nil))) (by decide) mem0 fun u9_6 Lo fs hres => ?_))
        obtain ⟨ls, hls, rfl, rfl, rfl, hlw⟩ := hres
        refine ⟨⟨(List.Sublist.cons_cons _ (List.Sublist.cons_cons _ (List.Sublist.cons_cons _ (List.Sublist.cons_cons _ (List.Sublist.refl _))))), (.head _)⟩, ?_⟩
        refine Qe rfl (q_field (o' := 4) Tryd.underlying31 rfl ti9 rfl rfl) (WE_end (WF_last rfl rfl (OW_store1 ti9 rfl rfl rfl (.s (.s (.s (.s (.z))))) (.z) (WF_nil (blockN (thenN (WC_fr [(10, _), (6, _)] (.cons rfl (.cons rfl (.nil _))) (WC_seq (WC_region (Lq (q_loadN (vs := [_, _, _, _, _, _, _, _, _]) Tryd.underlying31 rfl ti31 rfl own0 rfl rfl) (WL_main rfl (OW_storeN (cs' := [_, _, _, _, _, _, _, _, _]) (vs := [_, _, _, _, _, _, _, _, _]) ti31 rfl rfl rfl rfl rfl (Nat.le_of_ble_eq_true rfl) (.s (.s (.z))) (WL_nil (thenN (WC_ret ?_)))))))))))))))
        refine ⟨_, [_], [_], fun Z w hs => RV_ownN hs Tryd.underlying31 rfl ti31 rfl (ownS (ownS (own0))) rfl (.nil), ?_, fun Z w hs => hs.out (List.Sublist.cons _ (List.Sublist.cons_cons _ (List.Sublist.cons _ (List.Sublist.cons _ (List.Sublist.refl _))))) (fun _ h => .tail _ (.tail _ h))⟩
        refine ⟨{ zeroOp with c := ((1 + r20 : Nat) : Int), n := x + 1, kind := 1, at_ := (r42 : Int), text := txOf ls }, _, _, x, rfl, rfl, rfl, by show ((1 + r20 : Nat) : Int) = _; omega, by show nx[((1 + r20 : Nat) : Int).toNat]? = _; rw [Int.toNat_natCast]; exact hx, rfl, ⟨fun c k hw hr => ?_, by have := txOf_size ls; show (txOf ls).size ≤ _; omega, by show ([] : List Rg).length ≤ 60000; decide⟩, ?_⟩
        · exact good_ins (a := (r42 : Int)) (ls := ls) hV hi hw hr (by rw [← hcb]; omega) (by omega)
        · unfold makeF
          have hc1 : (1 : Int) + m.client % ((8 : Nat) : Int) = ((1 + r20 : Nat) : Int) := by omega
          have hxd : nx.getD (((1 + r20 : Nat) : Int)).toNat 0 = x := by rw [Int.toNat_natCast, List.getD_eq_getElem?_getD, hx]; rfl
          rw [hc1, hxd]
          unfold makeG
          try simp only [Bp, Bq] at *
          rw [if_neg (by unfold cutN; omega), if_neg (by unfold edsN; omega), show (m.n % ((12 : Nat) : Int)).toNat = r46 from by omega, ← hlw]
          unfold cutN
          rw [← hr42]
    · refine Ln rfl rfl rfl g71 (Ln rfl rfl rfl g71 (Ln rfl rfl rfl g71 (Lq (q_pickF rfl g71 rfl) (Lq (q_assign rfl) (WL_nil (thenN (WC_false rfl rfl (WC_seq (WC_region (Lq (q_field (o' := 0) Tryd.underlying31 rfl ti28 rfl rfl) (Lq (q_field (o' := 2) Tryd.underlying28 rfl ti26 rfl rfl) (WL_main rfl (OW_store1 ti26 rfl rfl rfl (.s (.s (.z))) (.z) (WL_nil (thenN (WC_seq (WC_region ?_)))))))))))))))))
      refine Lq (q_field (o' := 3) Tryd.underlying51 rfl ti3 rfl rfl) (Lq (q_load1 Tryd.underlying3 rfl rfl (ownS (ownS (ownS (own0)))) rfl) (Lq (q_move rfl) (Lq (q_add rfl rfl (wr64 (by omega)) (c := ((cellsN ((textsOf H.ents).take i) + 1 : Nat) : Int))) (WL_main rfl (OW_call0 (rest_r m.a (cellsN ((textsOf H.ents).take i) + 1) (by omega)) (.cons rfl (.cons rfl (.nil))) (by decide) mem0 fun u8_4 Lo fs hres => ?_)))))
      obtain ⟨r42, hr42, hm42, rfl, rfl, rfl⟩ := hres
      refine Lq (q_field (o' := 3) Tryd.underlying31 rfl ti3 rfl rfl) (WL_main rfl (OW_store1 ti3 rfl rfl rfl (.s (.s (.s (.z)))) (.z) (WL_nil (thenN (WC_draw _ _ [8] (.c 0 0 (.c 1 0 (.c 4 0 (.c 5 0 (.c 2 2 (.c 3 0 (.c 6 2 (.c 7 0 (.c 8 3 .nil))))))))) mixed (fun _ _ _ _ h => h) (List.Sublist.cons_cons _ (List.Sublist.cons_cons _ (List.Sublist.cons_cons _ (List.Sublist.cons_cons _ (List.Sublist.refl _))))) (fun _ h => h) (by kernel_rfl) (by decide) fun ws Z0 => Qe rfl (q_field (o' := 5) Tryd.underlying51 rfl ti3 rfl rfl) (Qe rfl (q_load1 Tryd.underlying3 rfl rfl (ownS (ownS (ownS (own0)))) rfl) (Qe rfl (q_field (o' := 4) Tryd.underlying51 rfl ti3 rfl rfl) (Qe rfl (q_load1 Tryd.underlying3 rfl rfl (ownS (ownS (ownS (own0)))) rfl) (WE_main rfl rfl (OW_call0 (rest_r m.n 12 (by omega)) (.cons rfl (.cons rfl (.nil))) (by decide) mem0 fun u9_2 Lo fs hres => ?_))))))))))
      obtain ⟨r46, hr46, hm46, rfl, rfl, rfl⟩ := hres
      refine ⟨⟨(List.Sublist.cons_cons _ (List.Sublist.cons_cons _ (List.Sublist.cons_cons _ (List.Sublist.cons_cons _ (List.Sublist.refl _))))), (.head _)⟩, ?_⟩
      refine Qe rfl (q_add rfl rfl (wr64 (by omega)) (c := ((1 + r46 : Nat) : Int))) (WE_main rfl rfl (OW_call0 (words_g (1 + r46) m.b (by omega)) (.cons rfl (.cons rfl (.nil))) (by decide) mem0 fun u9_6 Lo fs hres => ?_))
      obtain ⟨ls, hls, rfl, rfl, rfl, hlw⟩ := hres
      refine ⟨⟨(List.Sublist.cons_cons _ (List.Sublist.cons_cons _ (List.Sublist.cons_cons _ (List.Sublist.cons_cons _ (List.Sublist.refl _))))), (.head _)⟩, ?_⟩
      refine Qe rfl (q_field (o' := 4) Tryd.underlying31 rfl ti9 rfl rfl) (WE_end (WF_last rfl rfl (OW_store1 ti9 rfl rfl rfl (.s (.s (.s (.s (.z))))) (.z) (WF_nil (blockN (thenN (WC_fr [(10, _), (6, _)] (.cons rfl (.cons rfl (.nil _))) (WC_seq (WC_region (Lq (q_loadN (vs := [_, _, _, _, _, _, _, _, _]) Tryd.underlying31 rfl ti31 rfl own0 rfl rfl) (WL_main rfl (OW_storeN (cs' := [_, _, _, _, _, _, _, _, _]) (vs := [_, _, _, _, _, _, _, _, _]) ti31 rfl rfl rfl rfl rfl (Nat.le_of_ble_eq_true rfl) (.s (.s (.z))) (WL_nil (thenN (WC_ret ?_)))))))))))))))
      refine ⟨_, [_], [_], fun Z w hs => RV_ownN hs Tryd.underlying31 rfl ti31 rfl (ownS (ownS (own0))) rfl (.nil), ?_, fun Z w hs => hs.out (List.Sublist.cons _ (List.Sublist.cons_cons _ (List.Sublist.cons _ (List.Sublist.cons _ (List.Sublist.refl _))))) (fun _ h => .tail _ (.tail _ h))⟩
      refine ⟨{ zeroOp with c := ((1 + r20 : Nat) : Int), n := x + 1, kind := 1, at_ := (r42 : Int), text := txOf ls }, _, _, x, rfl, rfl, rfl, by show ((1 + r20 : Nat) : Int) = _; omega, by show nx[((1 + r20 : Nat) : Int).toNat]? = _; rw [Int.toNat_natCast]; exact hx, rfl, ⟨fun c k hw hr => ?_, by have := txOf_size ls; show (txOf ls).size ≤ _; omega, by show ([] : List Rg).length ≤ 60000; decide⟩, ?_⟩
      · exact good_ins (a := (r42 : Int)) (ls := ls) hV hi hw hr (by rw [← hcb]; omega) (by omega)
      · unfold makeF
        have hc1 : (1 : Int) + m.client % ((8 : Nat) : Int) = ((1 + r20 : Nat) : Int) := by omega
        have hxd : nx.getD (((1 + r20 : Nat) : Int)).toNat 0 = x := by rw [Int.toNat_natCast, List.getD_eq_getElem?_getD, hx]; rfl
        rw [hc1, hxd]
        unfold makeG
        try simp only [Bp, Bq] at *
        rw [if_neg (by unfold cutN; omega), if_neg (by unfold edsN; omega), show (m.n % ((12 : Nat) : Int)).toNat = r46 from by omega, ← hlw]
        unfold cutN
        rw [← hr42]

theorem makes_s (N : Int) (n : Nat) (X : List Ce) (H : Hist) (v h b : Nat) (A1 : Option Addr) (c1 : Nat) (A2 : Option Addr) (c2 : Nat) (A3 : Option Addr) (c3 : Nat) (nx : List Int) (m : Mv) (i : Nat) (hV : VI N n H X nx) (hN : N ≤ 1000) (hi : i ≤ n) : Sp Tryd.prog 20 [.pointer (some ⟨v, 0, none⟩), mvV m, .int .i64 i] [vwP v h b A1 H.ents.length c1 A2 c2 A3 c3 nx] [RdF idD A1 c1 (idsOf H.ents), RdF (De.int .i64) A2 c2 (kindsOf H.ents), RdF De.str A3 c3 (textsOf H.ents)] (MakeP (vwP v h b A1 H.ents.length c1 A2 c2 A3 c3 nx) H i nx m.client) := by
  refine (makes_d N n X H v h b A1 c1 A2 c2 A3 c3 nx m i hV hN hi).mono ?_
  rintro u Lo fs ⟨o, Ao, co, x, h1, h2, h3, h4, h5, h6, h7, _⟩
  exact ⟨o, Ao, co, x, h1, h2, h3, h4, h5, h6, h7⟩
end Go.Proofs.YtggdddkbhigjoaaDoor
/- What notes builds, plain. -/
namespace Go.GW
open Go
end Go.GW
namespace Go.Proofs.YtggdddkbhigjoaaDoor
open Go Go.GW
def preI {α : Type} (l : List α) (i : Nat) (x : α) (k : Nat) : List α := if k ≤ i then l.take k else (insAt l i x).take (k + 1)
theorem insAt_length {α : Type} {l : List α} {i : Nat} (x : α) (h : i ≤ l.length) : (insAt l i x).length = l.length + 1 := by
  unfold insAt; simp only [List.length_append, List.length_take, List.length_cons, List.length_drop]; omega
theorem insAt_at {α : Type} {l : List α} {i : Nat} {x : α} (h : i ≤ l.length) : (insAt l i x)[i]? = some x := by
  unfold insAt
  rw [List.getElem?_append_right (by rw [List.length_take]; omega), List.length_take, show i - min i l.length = 0 from by omega]; rfl
theorem insAt_hi {α : Type} {l : List α} {i k : Nat} {x : α} (h : i ≤ l.length) (hk : i ≤ k) : (insAt l i x)[k + 1]? = l[k]? := by
  unfold insAt
  rw [List.getElem?_append_right (by rw [List.length_take]; omega), List.length_take, show k + 1 - min i l.length = (k - i) + 1 from by omega, List.getElem?_cons_succ, List.getElem?_drop, show i + (k - i) = k from by omega]
theorem preI_zero {α : Type} (l : List α) (i : Nat) (x : α) : preI l i x 0 = [] := by unfold preI; rw [if_pos (Nat.zero_le _)]; rfl
theorem take_snoc_get {α : Type} {l : List α} {k : Nat} {y : α} (h : l[k]? = some y) : l.take (k + 1) = l.take k ++ [y] := by
  rw [List.take_add_one, h]; rfl
theorem preI_lt {α : Type} {l : List α} {i k : Nat} {x : α} (hk : k < l.length) (h : k < i) : preI l i x (k + 1) = preI l i x k ++ [l[k]] := by
  unfold preI
  rw [if_pos (by omega), if_pos (by omega), List.take_succ_eq_append_getElem hk]
theorem preI_eq {α : Type} {l : List α} {i : Nat} {x : α} (hi : i < l.length) : preI l i x (i + 1) = preI l i x i ++ [x] ++ [l[i]] := by
  unfold preI
  rw [if_neg (by omega), if_pos (Nat.le_refl _)]
  rw [take_snoc_get (k := i + 1) (y := l[i]) (by rw [insAt_hi (by omega) (Nat.le_refl _), List.getElem?_eq_getElem hi]), take_snoc_get (insAt_at (by omega))]
  unfold insAt
  rw [List.take_append_of_le_length (by rw [List.length_take]; omega), List.take_take, Nat.min_self]
theorem preI_eq2 {α : Type} {l : List α} {i : Nat} {x : α} (hi : i = l.length) : preI l i x (i + 1) = preI l i x i ++ [x] := by
  unfold preI
  rw [if_neg (by omega), if_pos (Nat.le_refl _)]
  rw [List.take_of_length_le (by rw [insAt_length x (by omega)]; omega)]
  unfold insAt
  rw [List.drop_eq_nil_of_le (by omega)]
theorem preI_gt {α : Type} {l : List α} {i k : Nat} {x : α} (hi : i ≤ l.length) (hk : k < l.length) (h : i < k) : preI l i x (k + 1) = preI l i x k ++ [l[k]] := by
  unfold preI
  rw [if_neg (by omega), if_neg (by omega)]
  exact take_snoc_get (by rw [insAt_hi hi (by omega), List.getElem?_eq_getElem hk])
theorem preI_end {α : Type} {l : List α} {i k : Nat} {x : α} (hi : i ≤ l.length) (hk : ¬ k < l.length) (h : i < k) : preI l i x (k + 1) = preI l i x k := by
  have := insAt_length x hi
  unfold preI
  rw [if_neg (by omega), if_neg (by omega), List.take_of_length_le (by omega), List.take_of_length_le (by omega)]
theorem preI_done {α : Type} {l : List α} {i k : Nat} {x : α} (hi : i ≤ l.length) (hk : l.length < k) : preI l i x k = insAt l i x := by
  have := insAt_length x hi
  unfold preI
  rw [if_neg (by omega), List.take_of_length_le (by omega)]
theorem preI_len {α : Type} (l : List α) (i : Nat) (x : α) (k : Nat) : (preI l i x k).length ≤ k + 1 := by
  unfold preI; split
  · rw [List.length_take]; omega
  · rw [List.length_take]; omega
/-- A round of notes. -/
theorem preI_next {α : Type} {l : List α} {i k : Nat} {x : α} (hi : i ≤ l.length) (hk : k ≤ l.length) : preI l i x (k + 1) = preI l i x k ++ ((if k = i then [x] else []) ++ (match l[k]? with | some y => [y] | none => [])) := by
  by_cases h1 : k < l.length
  · rw [List.getElem?_eq_getElem h1]
    rcases Nat.lt_trichotomy k i with h | h | h
    · rw [if_neg (by omega)]; simpa using preI_lt h1 h
    · subst h; rw [if_pos rfl]; simpa using preI_eq h1
    · rw [if_neg (by omega)]; simpa using preI_gt hi h1 h
  · rw [List.getElem?_eq_none (by omega)]
    by_cases h : k = i
    · subst h; rw [if_pos rfl]; simpa using preI_eq2 (x := x) (by omega : k = l.length)
    · rw [if_neg h]; simpa using preI_end hi h1 (by omega)
def strs (xs : List ByteArray) : List Value := xs.map Value.string
theorem strs_append (a b : List ByteArray) : strs (a ++ b) = strs a ++ strs b := by unfold strs; simp
theorem strs_flat (xs : List ByteArray) : (xs.map fun x => [Value.string x]).flatten = strs xs := by
  induction xs with
  | nil => rfl
  | cons x xs ih => simp only [List.map_cons, List.flatten_cons, ih]; rfl
theorem vw_nextI {a b c d e : Value} {nx : List Int} {k x : Int} (h : nx[k.toNat]? = some x) : (a :: b :: c :: d :: e :: ints .i64 nx)[5 + k.toNat * 1]? = some (.int .i64 x) := by
  rw [Nat.mul_one, Nat.add_comm 5 k.toNat]
  simp [ints, h]
theorem vw_setI {a b c d e : Value} {nx : List Int} {k x : Int} : (a :: b :: c :: d :: e :: ints .i64 nx).set (5 + k.toNat * 1) (.int .i64 x) = a :: b :: c :: d :: e :: ints .i64 (nx.set k.toNat x) := by
  rw [Nat.mul_one, Nat.add_comm 5 k.toNat]
  simp [ints, List.map_set]
structure NoI (ids : List (Int × Int)) (ks : List Int) (ts : List ByteArray) (i : Nat) (d : Int × Int) (z : Int) (s : ByteArray) (k : Nat) (w1 : Value) (p1 : Part) (w2 : Value) (p2 : Part) (w3 : Value) (p3 : Part) : Prop where
  le : k ≤ ids.length + 1
  r1 : Row 25 2 w1 (preI ids i d k).length (flatC idC (preI ids i d k)) p1
  r2 : Row 3 1 w2 (preI ks i z k).length (ints .i64 (preI ks i z k)) p2
  r3 : Row 9 1 w3 (preI ts i s k).length (strs (preI ts i s k)) p3
def NoteP (v h b n : Nat) (ids : List (Int × Int)) (ks : List Int) (ts : List ByteArray) (nx : List Int) (i : Nat) (o : GOp) : Value → List Part → List Fact → Prop := fun u Lo fs =>
  ∃ (A1 : Option Addr) (c1 : Nat) (A2 : Option Addr) (c2 : Nat) (A3 : Option Addr) (c3 : Nat), u = .tuple #[] ∧ Lo = [vwP v h b A1 (n + 1) c1 A2 c2 A3 c3 (nxF nx o.c o.n)] ∧
    fs = [RdF idD A1 c1 (insAt ids i (o.c, o.n)), RdF (De.int .i64) A2 c2 (insAt ks i (kindN o)), RdF De.str A3 c3 (insAt ts i o.text)]
end Go.Proofs.YtggdddkbhigjoaaDoor
/- Walks: notes. -/
namespace Go.Proofs.YtggdddkbhigjoaaDoor
open Go Go.GW
set_option maxRecDepth 10000 in
theorem notes_s (v h b n : Nat) (A1 : Option Addr) (c1 : Nat) (A2 : Option Addr) (c2 : Nat) (A3 : Option Addr) (c3 : Nat) (nx : List Int) (ids : List (Int × Int)) (ks : List Int) (ts : List ByteArray) (i : Nat) (o : GOp) (Ao : Option Addr) (co : Nat) (hn : n = ids.length) (hk2 : ks.length = ids.length) (hk3 : ts.length = ids.length) (hi : i ≤ ids.length) (hb : n ≤ 1000000) (hnx : nx.length = 9) (hc : 1 ≤ o.c ∧ o.c ≤ 8) : Sp Tryd.prog 34 [.pointer (some ⟨v, 0, none⟩), .int .i64 i, opV o Ao co] [vwP v h b A1 n c1 A2 c2 A3 c3 nx] [RdF idD A1 c1 ids, RdF (De.int .i64) A2 c2 ks, RdF De.str A3 c3 ts] (NoteP v h b n ids ks ts nx i o) := by
  subst hn
  obtain ⟨x, hx⟩ : ∃ x, nx[o.c.toNat]? = some x := ⟨_, List.getElem?_eq_getElem (by omega)⟩
  refine Sp.of (n := 121) ⟨_, Tryd.func34, rfl, rfl, rfl, rfl⟩ (Nat.le_of_ble_eq_true rfl) fun Ps As => WC_seq (WC_region (WL_main rfl (OW_box (cs := [_, _, _, _, _, _, _, _, _]) rfl rfl (by decide) fun b5 => WL_nil (thenN (WC_seq (WC_region (Lq (q_assign rfl) (WL_nil (thenN ?_)))))))))
  refine WC_meet (α := Int)
    (fun z => [(0, .pointer (some ⟨v, 0, none⟩)), (1, .int .i64 i), (5, .pointer (some ⟨b5, 0, none⟩)), (6, .int .i64 z)])
    (fun z => (([(b5, cellsO (opC o Ao co) 31)]) :: vwP v h b A1 ids.length c1 A2 c2 A3 c3 nx :: Ps))
    (fun z => (RdF idD A1 c1 ids :: RdF (De.int .i64) A2 c2 ks :: RdF De.str A3 c3 ts :: As))
    (fun z => z = if o.kind = 2 then 1 else 0) ?_ ?_
  · refine WC_seq (WC_region (Lq (q_field (o' := 0) Tryd.underlying31 rfl ti28 rfl rfl) (Lq (q_field (o' := 2) Tryd.underlying28 rfl ti26 rfl rfl) (Lq (q_load1 Tryd.underlying26 rfl rfl own0 rfl) (Lq (q_eql rfl rfl) (WL_nil (thenN (WC_cond rfl (fun h14 => ?_) (fun h14 => ?_)))))))))
    · refine WC_region (Lq (q_assign rfl) (WL_nil (thenK ?_)))
      refine ⟨_, ?_, (.cons rfl (.cons rfl (.cons rfl (.cons rfl (.nil _))))), (List.Sublist.cons_cons _ (List.Sublist.cons_cons _ (List.Sublist.refl _))), (fun _ h => h)⟩
      first | exact (if_pos (by simpa using h14)).symm | exact (if_neg (by simpa using h14)).symm
    · refine WC_skip (thenK ?_)
      refine ⟨_, ?_, (.cons rfl (.cons rfl (.cons rfl (.cons rfl (.nil _))))), (List.Sublist.cons_cons _ (List.Sublist.cons_cons _ (List.Sublist.refl _))), (fun _ h => h)⟩
      first | exact (if_pos (by simpa using h14)).symm | exact (if_neg (by simpa using h14)).symm
  · rintro z hz4
    refine WC_meet (α := Int)
      (fun z => [(0, .pointer (some ⟨v, 0, none⟩)), (1, .int .i64 i), (5, .pointer (some ⟨b5, 0, none⟩)), (6, .int .i64 z)])
      (fun z => (([(b5, cellsO (opC o Ao co) 31)]) :: vwP v h b A1 ids.length c1 A2 c2 A3 c3 nx :: Ps))
      (fun z => (RdF idD A1 c1 ids :: RdF (De.int .i64) A2 c2 ks :: RdF De.str A3 c3 ts :: As))
      (fun z => z = kindN o) ?_ ?_
    · refine WC_seq (WC_region (Lq (q_field (o' := 0) Tryd.underlying31 rfl ti28 rfl rfl) (Lq (q_field (o' := 2) Tryd.underlying28 rfl ti26 rfl rfl) (Lq (q_load1 Tryd.underlying26 rfl rfl own0 rfl) (Lq (q_eql rfl rfl) (WL_nil (thenN (WC_cond rfl (fun h18 => ?_) (fun h18 => ?_)))))))))
      · refine WC_region (Lq (q_assign rfl) (WL_nil (thenK ?_)))
        refine ⟨_, ?_, (.cons rfl (.cons rfl (.cons rfl (.cons rfl (.nil _))))), (List.Sublist.cons_cons _ (List.Sublist.cons_cons _ (List.Sublist.refl _))), (fun _ h => h)⟩
        unfold kindN
        first | exact (if_pos (by simpa using h18)).symm | (rw [if_neg (by simpa using h18)]; exact hz4)
      · refine WC_skip (thenK ?_)
        refine ⟨_, ?_, (.cons rfl (.cons rfl (.cons rfl (.cons rfl (.nil _))))), (List.Sublist.cons_cons _ (List.Sublist.cons_cons _ (List.Sublist.refl _))), (fun _ h => h)⟩
        unfold kindN
        first | exact (if_pos (by simpa using h18)).symm | (rw [if_neg (by simpa using h18)]; exact hz4)
    · rintro z hz6
      refine WC_seq (WC_region (Lq (q_assign rfl) (WL_nil (thenN (WC_seq (WC_region (Lq (q_assign rfl) (WL_nil (thenN (WC_seq (WC_region (Lq (q_assign rfl) (WL_nil (thenN (WC_seq (WC_seq (WC_region (Lq (q_assign rfl) (WL_nil (thenN (WC_block (WC_nilPart ?_))))))))))))))))))))))
      refine WC_nilPart (WC_nilPart ?_)
      refine WC_loopE (α := Nat × Value × Part × Value × Part × Value × Part) (fun (k, w1, p1, w2, p2, w3, p3) => ids.length + 1 - k)
        (fun (k, w1, p1, w2, p2, w3, p3) => [(0, .pointer (some ⟨v, 0, none⟩)), (1, .int .i64 i), (5, .pointer (some ⟨b5, 0, none⟩)), (6, .int .i64 z), (7, w1), (8, w2), (9, w3), (10, .int .i64 k)])
        (fun (k, w1, p1, w2, p2, w3, p3) => (p1 :: p2 :: p3 :: ([(b5, cellsO (opC o Ao co) 31)]) :: vwP v h b A1 ids.length c1 A2 c2 A3 c3 nx :: Ps))
        (fun (k, w1, p1, w2, p2, w3, p3) => (RdF idD A1 c1 ids :: RdF (De.int .i64) A2 c2 ks :: RdF De.str A3 c3 ts :: As))
        (fun (k, w1, p1, w2, p2, w3, p3) => NoI ids ks ts i (o.c, o.n) z o.text k w1 p1 w2 p2 w3 p3)
        (0, .slice none 0 0, [], .slice none 0 0, [], .slice none 0 0, []) ?_ (.cons rfl (.cons rfl (.cons rfl (.cons rfl (.cons rfl (.cons rfl (.cons rfl (.cons rfl (.nil _))))))))) (List.Sublist.cons_cons _ (List.Sublist.cons_cons _ (List.Sublist.cons_cons _ (List.Sublist.cons_cons _ (List.Sublist.cons_cons _ (List.Sublist.refl _)))))) (fun _ h => h) ?_
      · exact ⟨Nat.zero_le _, by rw [preI_zero]; exact Row.nil _ _, by rw [preI_zero]; exact Row.nil _ _, by rw [preI_zero]; exact Row.nil _ _⟩
      · rintro ⟨k, w1, p1, w2, p2, w3, p3⟩ hI
        refine WC_seq (WC_seq (WC_region (Lq (q_move rfl) (Lq (q_move rfl) (Lq (q_nil rfl) (Lq (q_field (o' := 2) Tryd.underlying61 rfl ti56 rfl rfl) (Lq (q_load1 Tryd.underlying56 rfl rfl (ownS (ownS (ownS (ownS (own0))))) rfl) (Lq (q_len Tryd.underlying56 rfl) (Lq (q_leq rfl rfl) (WL_nil (thenN (WC_cond rfl (fun h25 => ?_) (fun h25 => ?_)))))))))))))
        · refine WC_skip (thenN (WC_seq (WC_block (WC_seq (WC_seq ?_)))))
          have hkn : k ≤ ids.length := by simp only [decide_eq_true_eq] at h25; omega
          have l1 := preI_len ids i (o.c, o.n) k
          have l2 := preI_len ks i z k
          have l3 := preI_len ts i o.text k
          have e1 := preI_next (x := (o.c, o.n)) hi hkn
          have e2 := preI_next (x := z) (l := ks) (i := i) (by omega) (by omega : k ≤ ks.length)
          have e3 := preI_next (x := o.text) (l := ts) (i := i) (by omega) (by omega : k ≤ ts.length)
          refine WC_region (Lq (q_move rfl) (Lq (q_move rfl) (Lq (q_eql rfl rfl) (WL_nil (thenN (WC_cond rfl (fun h30 => ?_) (fun h30 => ?_)))))))
          · refine WC_seq (WC_region (Lq (q_move rfl) (Lq (q_field (o' := 0) Tryd.underlying31 rfl ti28 rfl rfl) (Lq (q_field (o' := 0) Tryd.underlying28 rfl ti25 rfl rfl) (Lq (q_loadN (vs := [_, _]) Tryd.underlying25 rfl ti25 rfl (ownS (ownS (ownS (own0)))) rfl rfl) (WL_main rfl (OW_slice1 (cs := [_, _]) Tryd.underlying56 ti25 (by decide) (by decide) rfl rfl rfl rfl (by decide) fun b35 => WL_main rfl (OW_append1 (news := [_, _]) Tryd.underlying56 ti25 rfl (by decide) rfl rfl hI.r1 own0 rfl rfl (by omega) (by unfold maxLen; omega) (by decide) (DelAt.perm (.s (.z))) fun v36 p36 hr36 => Lq (q_assign rfl) (WL_nil (thenN (WC_seq (WC_region (Lq (q_move rfl) ?_)))))))))))))
            refine Lq (q_move rfl) (WL_main rfl (OW_slice1 (cs := [_]) Tryd.underlying57 ti3 (by decide) (by decide) rfl rfl rfl rfl (by decide) fun b39 => WL_main rfl (OW_append1 (news := [_]) Tryd.underlying57 ti3 rfl (by decide) rfl rfl hI.r2 own0 rfl rfl (by omega) (by unfold maxLen; omega) (by decide) (DelAt.perm (.s (.s (.s (.z))))) fun v40 p40 hr40 => Lq (q_assign rfl) (WL_nil (thenN (WC_region (Lq (q_move rfl) (Lq (q_field (o' := 4) Tryd.underlying31 rfl ti9 rfl rfl) (Lq (q_load1 Tryd.underlying9 rfl rfl (ownS (ownS (ownS (ownS (ownS (own0)))))) rfl) (WL_main rfl (OW_slice1 (cs := [_]) Tryd.underlying58 ti9 (by decide) (by decide) rfl rfl rfl rfl (by decide) fun b44 => WL_main rfl (OW_append1 (news := [_]) Tryd.underlying58 ti9 rfl (by decide) rfl rfl hI.r3 own0 rfl rfl (by omega) (by unfold maxLen; omega) (by decide) (DelAt.perm (.s (.s (.s (.s (.s (.z))))))) fun v45 p45 hr45 => ?_))))))))))))
            refine Lq (q_assign rfl) (WL_nil (thenN (WC_seq (WC_region (Lq (q_move rfl) (Lq (q_move rfl) (Lq (q_nil rfl) (Lq (q_field (o' := 2) Tryd.underlying61 rfl ti56 rfl rfl) (Lq (q_load1 Tryd.underlying56 rfl rfl (ownS (ownS (ownS (ownS (ownS (ownS (ownS (own0)))))))) rfl) (Lq (q_len Tryd.underlying56 rfl) (Lq (q_lss rfl rfl) (WL_nil (thenN ?_)))))))))))))
            refine WC_cond rfl (fun h52 => ?_) (fun h52 => ?_)
            · refine WC_seq ?_
              have hk1 : k < ids.length := by simp only [decide_eq_true_eq] at h52; omega
              have hk2 : k < ks.length := by omega
              have hk3 : k < ts.length := by omega
              refine WC_elem (k := k) (.head _) (List.getElem?_eq_getElem hk1) (id_open _) fun b17 q17 y17 e17 => ?_
              cases e17
              refine WC_region (Lq (q_move rfl) (Lq (q_move rfl) (Lq (q_nil rfl) (Lq (q_field (o' := 2) Tryd.underlying61 rfl ti56 rfl rfl) (Lq (q_load1 Tryd.underlying56 rfl rfl (ownS (ownS (ownS (ownS (ownS (ownS (ownS (own0)))))))) rfl) (Lq (q_move rfl) (Lq (q_idxRd Tryd.underlying56 ti25 rfl rfl (by omega) (by omega)) (Lq (q_loadFN (k := 0) (vs := [_, _]) Tryd.underlying25 rfl ti25 rfl (.head _) rfl rfl rfl) (WL_main rfl (OW_slice1 (cs := [_, _]) Tryd.underlying56 ti25 (by decide) (by decide) rfl rfl rfl rfl (by decide) fun b61 => ?_))))))))))
              refine WL_main rfl (OW_append1 (news := [_, _]) Tryd.underlying56 ti25 rfl (by decide) rfl rfl hr36 own0 rfl rfl (by omega) (by unfold maxLen; omega) (by decide) (DelAt.perm (.s (.s (.s (.s (.s (.z))))))) fun v62 p62 hr62 => Lq (q_assign rfl) (WL_nil (thenN (WC_seq (WC_elem (k := k) (.tail _ (.tail _ (.head _))) (List.getElem?_eq_getElem hk2) (i64_open _) fun b18 q18 y18 e18 => ?_)))))
              cases e18
              refine WC_region (Lq (q_move rfl) (Lq (q_move rfl) (Lq (q_nil rfl) (Lq (q_field (o' := 3) Tryd.underlying61 rfl ti57 rfl rfl) (Lq (q_load1 Tryd.underlying57 rfl rfl (ownS (ownS (ownS (ownS (ownS (ownS (ownS (ownS (own0))))))))) rfl) (Lq (q_move rfl) (Lq (q_idxRd Tryd.underlying57 ti3 rfl rfl (by omega) (by omega)) (Lq (q_loadF1 (j := 0) Tryd.underlying3 rfl rfl (.head _) rfl rfl) (WL_main rfl (OW_slice1 (cs := [_]) Tryd.underlying57 ti3 (by decide) (by decide) rfl rfl rfl rfl (by decide) fun b71 => ?_))))))))))
              refine WL_main rfl (OW_append1 (news := [_]) Tryd.underlying57 ti3 rfl (by decide) rfl rfl hr40 own0 rfl rfl (by omega) (by unfold maxLen; omega) (by decide) (DelAt.perm (.s (.s (.s (.s (.s (.z))))))) fun v72 p72 hr72 => Lq (q_assign rfl) (WL_nil (thenN (WC_elem (k := k) (.tail _ (.tail _ (.tail _ (.tail _ (.head _))))) (List.getElem?_eq_getElem hk3) (str_open _) fun b19 q19 y19 e19 => ?_))))
              cases e19
              refine WC_region (Lq (q_move rfl) (Lq (q_move rfl) (Lq (q_nil rfl) (Lq (q_field (o' := 4) Tryd.underlying61 rfl ti58 rfl rfl) (Lq (q_load1 Tryd.underlying58 rfl rfl (ownS (ownS (ownS (ownS (ownS (ownS (ownS (ownS (ownS (own0)))))))))) rfl) (Lq (q_move rfl) (Lq (q_idxRd Tryd.underlying58 ti9 rfl rfl (by omega) (by omega)) (Lq (q_loadF1 (j := 0) Tryd.underlying9 rfl rfl (.head _) rfl rfl) (WL_main rfl (OW_slice1 (cs := [_]) Tryd.underlying58 ti9 (by decide) (by decide) rfl rfl rfl rfl (by decide) fun b81 => ?_))))))))))
              refine WL_main rfl (OW_append1 (news := [_]) Tryd.underlying58 ti9 rfl (by decide) rfl rfl hr45 own0 rfl rfl (by omega) (by unfold maxLen; omega) (by decide) (DelAt.perm (.s (.s (.s (.s (.s (.z))))))) fun v82 p82 hr82 => Lq (q_assign rfl) (WL_nil (blockN (thenN (WC_pick (.z) (WC_pick (.s (.s (.z))) (WC_pick (.s (.s (.s (.s (.z))))) ?_)))))))
              have hki : k = i := by have := beq_iff_eq.1 h30; omega
              rw [if_pos hki, List.getElem?_eq_getElem hk1] at e1
              simp only [List.nil_append, List.append_nil, ← List.append_assoc] at e1
              rw [if_pos hki, List.getElem?_eq_getElem hk2] at e2
              simp only [List.nil_append, List.append_nil, ← List.append_assoc] at e2
              rw [if_pos hki, List.getElem?_eq_getElem hk3] at e3
              simp only [List.nil_append, List.append_nil, ← List.append_assoc] at e3
              refine WC_region (Lq (q_move rfl) (Lq (q_add rfl rfl (wr64 (by omega)) (c := ((k + 1 : Nat) : Int))) (Lq (q_assign rfl) (WL_nil (thenK ?_)))))
              refine ⟨(k + 1, v62, p62, v72, p72, v82, p82), ?_, (.cons rfl (.cons rfl (.cons rfl (.cons rfl (.cons rfl (.cons rfl (.cons rfl (.cons rfl (.nil _))))))))), (List.Sublist.cons_cons _ (List.Sublist.cons_cons _ (List.Sublist.cons_cons _ (List.Sublist.cons _ (List.Sublist.cons _ (List.Sublist.cons _ (List.Sublist.cons _ (List.Sublist.cons _ (List.Sublist.cons _ (List.Sublist.cons_cons _ (List.Sublist.cons_cons _ (List.Sublist.refl _)))))))))))), (fun _ h => .tail _ (.tail _ (.tail _ h)))⟩
              exact ⟨by show ids.length + 1 - (k + 1) < ids.length + 1 - k; omega, by show k + 1 ≤ ids.length + 1; omega, by rw [e1]; simp only [List.length_append, flatC_append, flatC_one]; exact hr62, by rw [e2]; simp only [List.length_append, ints_append]; exact hr72, by rw [e3]; simp only [List.length_append, strs_append]; exact hr82⟩
            · refine WC_skip (blockN (thenN (WC_pick (.z) (WC_pick (.s (.s (.z))) (WC_pick (.s (.s (.s (.s (.z))))) ?_)))))
              have hki : k = i := by have := beq_iff_eq.1 h30; omega
              rw [if_pos hki, List.getElem?_eq_none (by simp only [decide_eq_false_iff_not] at h52; omega)] at e1
              simp only [List.nil_append, List.append_nil, ← List.append_assoc] at e1
              rw [if_pos hki, List.getElem?_eq_none (by simp only [decide_eq_false_iff_not] at h52; omega)] at e2
              simp only [List.nil_append, List.append_nil, ← List.append_assoc] at e2
              rw [if_pos hki, List.getElem?_eq_none (by simp only [decide_eq_false_iff_not] at h52; omega)] at e3
              simp only [List.nil_append, List.append_nil, ← List.append_assoc] at e3
              refine WC_region (Lq (q_move rfl) (Lq (q_add rfl rfl (wr64 (by omega)) (c := ((k + 1 : Nat) : Int))) (Lq (q_assign rfl) (WL_nil (thenK ?_)))))
              refine ⟨(k + 1, v36, p36, v40, p40, v45, p45), ?_, (.cons rfl (.cons rfl (.cons rfl (.cons rfl (.cons rfl (.cons rfl (.cons rfl (.cons rfl (.nil _))))))))), (List.Sublist.cons_cons _ (List.Sublist.cons_cons _ (List.Sublist.cons_cons _ (List.Sublist.cons _ (List.Sublist.cons _ (List.Sublist.cons _ (List.Sublist.cons_cons _ (List.Sublist.cons_cons _ (List.Sublist.refl _))))))))), (fun _ h => h)⟩
              exact ⟨by show ids.length + 1 - (k + 1) < ids.length + 1 - k; omega, by show k + 1 ≤ ids.length + 1; omega, by rw [e1]; simp only [List.length_append, flatC_append, flatC_one]; exact hr36, by rw [e2]; simp only [List.length_append, ints_append]; exact hr40, by rw [e3]; simp only [List.length_append, strs_append]; exact hr45⟩
          · refine WC_skip (thenN (WC_seq (WC_region (Lq (q_move rfl) (Lq (q_move rfl) (Lq (q_nil rfl) (Lq (q_field (o' := 2) Tryd.underlying61 rfl ti56 rfl rfl) (Lq (q_load1 Tryd.underlying56 rfl rfl (ownS (ownS (ownS (ownS (own0))))) rfl) (Lq (q_len Tryd.underlying56 rfl) (Lq (q_lss rfl rfl) (WL_nil (thenN (WC_cond rfl (fun h52 => ?_) (fun h52 => ?_))))))))))))))
            · refine WC_seq ?_
              have hk1 : k < ids.length := by simp only [decide_eq_true_eq] at h52; omega
              have hk2 : k < ks.length := by omega
              have hk3 : k < ts.length := by omega
              refine WC_elem (k := k) (.head _) (List.getElem?_eq_getElem hk1) (id_open _) fun b17 q17 y17 e17 => ?_
              cases e17
              refine WC_region (Lq (q_move rfl) (Lq (q_move rfl) (Lq (q_nil rfl) (Lq (q_field (o' := 2) Tryd.underlying61 rfl ti56 rfl rfl) (Lq (q_load1 Tryd.underlying56 rfl rfl (ownS (ownS (ownS (ownS (own0))))) rfl) (Lq (q_move rfl) (Lq (q_idxRd Tryd.underlying56 ti25 rfl rfl (by omega) (by omega)) (Lq (q_loadFN (k := 0) (vs := [_, _]) Tryd.underlying25 rfl ti25 rfl (.head _) rfl rfl rfl) (WL_main rfl (OW_slice1 (cs := [_, _]) Tryd.underlying56 ti25 (by decide) (by decide) rfl rfl rfl rfl (by decide) fun b61 => ?_))))))))))
              refine WL_main rfl (OW_append1 (news := [_, _]) Tryd.underlying56 ti25 rfl (by decide) rfl rfl hI.r1 own0 rfl rfl (by omega) (by unfold maxLen; omega) (by decide) (DelAt.perm (.s (.z))) fun v62 p62 hr62 => Lq (q_assign rfl) (WL_nil (thenN (WC_seq (WC_elem (k := k) (.tail _ (.tail _ (.head _))) (List.getElem?_eq_getElem hk2) (i64_open _) fun b18 q18 y18 e18 => ?_)))))
              cases e18
              refine WC_region (Lq (q_move rfl) (Lq (q_move rfl) (Lq (q_nil rfl) (Lq (q_field (o' := 3) Tryd.underlying61 rfl ti57 rfl rfl) (Lq (q_load1 Tryd.underlying57 rfl rfl (ownS (ownS (ownS (ownS (ownS (own0)))))) rfl) (Lq (q_move rfl) (Lq (q_idxRd Tryd.underlying57 ti3 rfl rfl (by omega) (by omega)) (Lq (q_loadF1 (j := 0) Tryd.underlying3 rfl rfl (.head _) rfl rfl) (WL_main rfl (OW_slice1 (cs := [_]) Tryd.underlying57 ti3 (by decide) (by decide) rfl rfl rfl rfl (by decide) fun b71 => ?_))))))))))
              refine WL_main rfl (OW_append1 (news := [_]) Tryd.underlying57 ti3 rfl (by decide) rfl rfl hI.r2 own0 rfl rfl (by omega) (by unfold maxLen; omega) (by decide) (DelAt.perm (.s (.s (.s (.z))))) fun v72 p72 hr72 => Lq (q_assign rfl) (WL_nil (thenN (WC_elem (k := k) (.tail _ (.tail _ (.tail _ (.tail _ (.head _))))) (List.getElem?_eq_getElem hk3) (str_open _) fun b19 q19 y19 e19 => ?_))))
              cases e19
              refine WC_region (Lq (q_move rfl) (Lq (q_move rfl) (Lq (q_nil rfl) (Lq (q_field (o' := 4) Tryd.underlying61 rfl ti58 rfl rfl) (Lq (q_load1 Tryd.underlying58 rfl rfl (ownS (ownS (ownS (ownS (ownS (ownS (own0))))))) rfl) (Lq (q_move rfl) (Lq (q_idxRd Tryd.underlying58 ti9 rfl rfl (by omega) (by omega)) (Lq (q_loadF1 (j := 0) Tryd.underlying9 rfl rfl (.head _) rfl rfl) (WL_main rfl (OW_slice1 (cs := [_]) Tryd.underlying58 ti9 (by decide) (by decide) rfl rfl rfl rfl (by decide) fun b81 => ?_))))))))))
              refine WL_main rfl (OW_append1 (news := [_]) Tryd.underlying58 ti9 rfl (by decide) rfl rfl hI.r3 own0 rfl rfl (by omega) (by unfold maxLen; omega) (by decide) (DelAt.perm (.s (.s (.s (.s (.s (.z))))))) fun v82 p82 hr82 => Lq (q_assign rfl) (WL_nil (blockN (thenN (WC_pick (.z) (WC_pick (.s (.s (.z))) (WC_pick (.s (.s (.s (.s (.z))))) ?_)))))))
              have hki : k ≠ i := fun e => by rw [e] at h30; simp at h30
              rw [if_neg hki, List.getElem?_eq_getElem hk1] at e1
              simp only [List.nil_append, List.append_nil, ← List.append_assoc] at e1
              rw [if_neg hki, List.getElem?_eq_getElem hk2] at e2
              simp only [List.nil_append, List.append_nil, ← List.append_assoc] at e2
              rw [if_neg hki, List.getElem?_eq_getElem hk3] at e3
              simp only [List.nil_append, List.append_nil, ← List.append_assoc] at e3
              refine WC_region (Lq (q_move rfl) (Lq (q_add rfl rfl (wr64 (by omega)) (c := ((k + 1 : Nat) : Int))) (Lq (q_assign rfl) (WL_nil (thenK ?_)))))
              refine ⟨(k + 1, v62, p62, v72, p72, v82, p82), ?_, (.cons rfl (.cons rfl (.cons rfl (.cons rfl (.cons rfl (.cons rfl (.cons rfl (.cons rfl (.nil _))))))))), (List.Sublist.cons_cons _ (List.Sublist.cons_cons _ (List.Sublist.cons_cons _ (List.Sublist.cons _ (List.Sublist.cons _ (List.Sublist.cons _ (List.Sublist.cons_cons _ (List.Sublist.cons_cons _ (List.Sublist.refl _))))))))), (fun _ h => .tail _ (.tail _ (.tail _ h)))⟩
              exact ⟨by show ids.length + 1 - (k + 1) < ids.length + 1 - k; omega, by show k + 1 ≤ ids.length + 1; omega, by rw [e1]; simp only [List.length_append, flatC_append, flatC_one]; exact hr62, by rw [e2]; simp only [List.length_append, ints_append]; exact hr72, by rw [e3]; simp only [List.length_append, strs_append]; exact hr82⟩
            · refine WC_skip (blockN (thenN (WC_pick (.s (.s (.z))) (WC_pick (.s (.s (.z))) (WC_pick (.s (.s (.z))) ?_)))))
              have hki : k ≠ i := fun e => by rw [e] at h30; simp at h30
              rw [if_neg hki, List.getElem?_eq_none (by simp only [decide_eq_false_iff_not] at h52; omega)] at e1
              simp only [List.nil_append, List.append_nil, ← List.append_assoc] at e1
              rw [if_neg hki, List.getElem?_eq_none (by simp only [decide_eq_false_iff_not] at h52; omega)] at e2
              simp only [List.nil_append, List.append_nil, ← List.append_assoc] at e2
              rw [if_neg hki, List.getElem?_eq_none (by simp only [decide_eq_false_iff_not] at h52; omega)] at e3
              simp only [List.nil_append, List.append_nil, ← List.append_assoc] at e3
              refine WC_region (Lq (q_move rfl) (Lq (q_add rfl rfl (wr64 (by omega)) (c := ((k + 1 : Nat) : Int))) (Lq (q_assign rfl) (WL_nil (thenK ?_)))))
              refine ⟨(k + 1, w1, p1, w2, p2, w3, p3), ?_, (.cons rfl (.cons rfl (.cons rfl (.cons rfl (.cons rfl (.cons rfl (.cons rfl (.cons rfl (.nil _))))))))), (List.Sublist.cons_cons _ (List.Sublist.cons_cons _ (List.Sublist.cons_cons _ (List.Sublist.cons_cons _ (List.Sublist.cons_cons _ (List.Sublist.refl _)))))), (fun _ h => h)⟩
              exact ⟨by show ids.length + 1 - (k + 1) < ids.length + 1 - k; omega, by show k + 1 ≤ ids.length + 1; omega, by rw [e1]; exact hI.r1, by rw [e2]; exact hI.r2, by rw [e3]; exact hI.r3⟩
        · refine WC_exit (thenExit (thenExit (blockHit (thenN (WC_seq ?_)))))
          have hkd : ids.length < k := by simp only [decide_eq_false_iff_not] at h25; omega
          have d1 := preI_done (x := (o.c, o.n)) hi hkd
          have d2 := preI_done (x := z) (l := ks) (i := i) (k := k) (by omega) (by omega)
          have d3 := preI_done (x := o.text) (l := ts) (i := i) (k := k) (by omega) (by omega)
          have q1 := hI.r1
          have q2 := hI.r2
          have q3 := hI.r3
          rw [d1] at q1
          rw [d2] at q2
          rw [d3] at q3
          refine WC_fact (A := RepsF idD (insAt ids i (o.c, o.n)) ((insAt ids i (o.c, o.n)).map (idC))) (fun Z w _ => reps_of (f := idC) (fun _ _ _ => rfl) _ Z w) (WC_freeze (e := idD) (xs := (insAt ids i (o.c, o.n))) (css := ((insAt ids i (o.c, o.n)).map (idC))) q1 (.z) rfl (.head _) fun A91 c91 e91 => ?_)
          cases e91
          refine WC_fact (A := RepsF (De.int .i64) (insAt ks i z) ((insAt ks i z).map (fun x => [Value.int .i64 x]))) (fun Z w _ => reps_of (f := fun x => [Value.int .i64 x]) (fun _ _ _ => rfl) _ Z w) (WC_freeze (e := (De.int .i64)) (xs := (insAt ks i z)) (css := ((insAt ks i z).map (fun x => [Value.int .i64 x]))) (by rw [ints_flat]; exact q2) (.z) rfl (.head _) fun A92 c92 e92 => ?_)
          cases e92
          refine WC_fact (A := RepsF De.str (insAt ts i o.text) ((insAt ts i o.text).map (fun x => [Value.string x]))) (fun Z w _ => reps_of (f := fun x => [Value.string x]) (fun _ _ _ => rfl) _ Z w) (WC_freeze (e := De.str) (xs := (insAt ts i o.text)) (css := ((insAt ts i o.text).map (fun x => [Value.string x]))) (by rw [strs_flat]; exact q3) (.z) rfl (.head _) fun A93 c93 e93 => ?_)
          cases e93
          have hl1 := insAt_length (o.c, o.n) hi
          have hl2 := insAt_length (l := ks) z (show i ≤ ks.length by omega)
          have hl3 := insAt_length (l := ts) o.text (show i ≤ ts.length by omega)
          rw [hk2] at hl2
          rw [hk3] at hl3
          rw [hl1, hl2, hl3]
          refine WC_region (Lq (q_move rfl) (Lq (q_move rfl) (Lq (q_nil rfl) (Lq (q_field (o' := 2) Tryd.underlying61 rfl ti56 rfl rfl) (WL_main rfl (OW_store1 ti56 rfl rfl rfl (.s (.s (.z))) (.s (.z)) (WL_nil (thenN (WC_seq (WC_region (Lq (q_move rfl) (Lq (q_move rfl) (Lq (q_nil rfl) ?_)))))))))))))
          refine Lq (q_field (o' := 3) Tryd.underlying61 rfl ti57 rfl rfl) (WL_main rfl (OW_store1 ti57 rfl rfl rfl (.s (.s (.s (.z)))) (.s (.z)) (WL_nil (thenN (WC_seq (WC_region (Lq (q_move rfl) (Lq (q_move rfl) (Lq (q_nil rfl) (Lq (q_field (o' := 4) Tryd.underlying61 rfl ti58 rfl rfl) (WL_main rfl (OW_store1 ti58 rfl rfl rfl (.s (.s (.s (.s (.z))))) (.s (.z)) (WL_nil (thenN (WC_seq (WC_draw _ _ [] (.c 0 0 (.c 1 0 (.c 2 0 (.c 3 0 (.c 4 0 (.c 5 0 (.c 6 0 (.c 7 0 (.c 8 0 (.c 9 0 (.c 10 0 (.c 11 0 (.c 12 0 (.c 13 0 .nil)))))))))))))) mixed (fun _ _ _ _ h => h) (List.Sublist.cons_cons _ (List.Sublist.cons_cons _ (List.Sublist.refl _))) (fun _ h => h) (by kernel_rfl) (by decide) fun ws Z0 => ?_))))))))))))))))
          refine Qe rfl (q_field (o' := 0) Tryd.underlying31 rfl ti28 rfl rfl) (Qe rfl (q_field (o' := 0) Tryd.underlying28 rfl ti25 rfl rfl) (Qe rfl (q_idxA (o' := 1) Tryd.underlying25 ti3 rfl rfl (by decide) (by decide) rfl) (Qe rfl (q_load1 Tryd.underlying3 rfl rfl own0 rfl) (Qe rfl (q_move rfl) (Qe rfl (q_field (o' := 0) Tryd.underlying31 rfl ti28 rfl rfl) (Qe rfl (q_field (o' := 0) Tryd.underlying28 rfl ti25 rfl rfl) (Qe rfl (q_idxA (o' := 0) Tryd.underlying25 ti3 rfl rfl (by decide) (by decide) rfl) (Qe rfl (q_load1 Tryd.underlying3 rfl rfl own0 rfl) (Qe rfl (q_nil rfl) ?_)))))))))
          refine Qe rfl (q_field (o' := 5) Tryd.underlying61 rfl ti59 rfl rfl) (Qe rfl (q_idxA Tryd.underlying59 ti3 rfl rfl (by omega) (by omega) rfl) (Qe rfl (q_load1 Tryd.underlying3 rfl rfl (ownS (own0)) (vw_nextI hx)) (Qe rfl (q_gtr rfl rfl) (WE_end (WF_nil (thenN (WC_fr [(108, _), (0, _), (5, _)] (.cons rfl (.cons rfl (.cons rfl (.nil _)))) (WC_cond rfl (fun h108 => ?_) (fun h108 => ?_)))))))))
          · refine WC_draw _ _ [12] (.c 0 0 (.c 1 0 (.c 2 0 (.c 3 0 (.c 4 0 (.c 5 0 (.c 6 0 (.c 7 0 (.c 8 0 (.c 9 0 (.c 10 0 (.c 11 0 (.c 12 3 .nil))))))))))))) mixed (fun _ _ _ _ h => h) (List.Sublist.cons_cons _ (List.Sublist.cons_cons _ (List.Sublist.refl _))) (fun _ h => h) (by kernel_rfl) (by decide) fun ws Z0 => Qe rfl (q_move rfl) (Qe rfl (q_field (o' := 0) Tryd.underlying31 rfl ti28 rfl rfl) (Qe rfl (q_field (o' := 0) Tryd.underlying28 rfl ti25 rfl rfl) (Qe rfl (q_idxA (o' := 0) Tryd.underlying25 ti3 rfl rfl (by decide) (by decide) rfl) (Qe rfl (q_load1 Tryd.underlying3 rfl rfl own0 rfl) (Qe rfl (q_field (o' := 0) Tryd.underlying31 rfl ti28 rfl rfl) (Qe rfl (q_field (o' := 0) Tryd.underlying28 rfl ti25 rfl rfl) (Qe rfl (q_idxA (o' := 1) Tryd.underlying25 ti3 rfl rfl (by decide) (by decide) rfl) (Qe rfl (q_load1 Tryd.underlying3 rfl rfl own0 rfl) ?_))))))))
            refine Qe rfl (q_nil rfl) (Qe rfl (q_field (o' := 5) Tryd.underlying61 rfl ti59 rfl rfl) (Qe rfl (q_idxA Tryd.underlying59 ti3 rfl rfl (by omega) (by omega) rfl) (WE_end (WF_last rfl rfl (OW_storeC ti3 rfl rfl rfl (by simp only [List.length_cons, ints, List.length_map]; omega) (.s (.z)) (WF_nil ?_))))))
            have hnx : nxF nx o.c o.n = nx.set o.c.toNat o.n := by unfold nxF; rw [List.getD_eq_getElem?_getD, hx]; exact if_pos (by simpa using h108)
            rw [vw_setI]
            refine ⟨_, [_], [_, _, _], fun Z w hs => .nil, ?_, fun Z w hs => hs.out (List.Sublist.cons _ (List.Sublist.cons_cons _ (List.Sublist.refl _))) (memc (.tail _ (.tail _ (.tail _ (.tail _ (.tail _ (.tail _ (.head _))))))) (memc (.tail _ (.tail _ (.tail _ (.tail _ (.head _))))) (memc (.tail _ (.tail _ (.head _))) (fun _ h => .tail _ (.tail _ (.tail _ (.tail _ (.tail _ (.tail _ (.tail _ (.tail _ h)))))))))))⟩
            exact ⟨A91, c91, A92, c92, A93, c93, rfl, by rw [hnx], by rw [hz6]⟩
          · refine WC_skip ?_
            have hnx : nxF nx o.c o.n = nx := by unfold nxF; rw [List.getD_eq_getElem?_getD, hx]; exact if_neg (by simpa using h108)
            refine ⟨_, [_], [_, _, _], fun Z w hs => .nil, ?_, fun Z w hs => hs.out (List.Sublist.cons _ (List.Sublist.cons_cons _ (List.Sublist.refl _))) (memc (.tail _ (.tail _ (.tail _ (.tail _ (.tail _ (.head _)))))) (memc (.tail _ (.tail _ (.tail _ (.head _)))) (memc (.tail _ (.head _)) (fun _ h => .tail _ (.tail _ (.tail _ (.tail _ (.tail _ (.tail _ (.tail _ h))))))))))⟩
            exact ⟨A91, c91, A92, c92, A93, c93, rfl, by rw [hnx], by rw [hz6]⟩

end Go.Proofs.YtggdddkbhigjoaaDoor
/- A command that a view takes, plain: all that the walk asks. -/
namespace Go.Proofs.YtggdddkbhigjoaaDoor
open Go Go.GW
structure Tk (H : Hist) (X : List Ce) (n i : Nat) (o : GOp) (H2 : Hist) (eff : GOp) : Prop where
  put : putF H i o = (H2, eff, 0)
  ids : insAt (idsOf H.ents) i (o.c, o.n) = idsOf H2.ents
  ks : insAt (kindsOf H.ents) i (kindN o) = kindsOf H2.ents
  ts : insAt (textsOf H.ents) i o.text = textsOf H2.ents
  len : H2.ents.length = n + 1
  tot : (cellsN ((textsOf H2.ents).take (n + 1)) : Int) = H2.total
  cb : ∀ j, cellsN ((textsOf H2.ents).take j) ≤ 60000
  app : eff.kind ≠ 0 → EffOk eff X
  noEff : eff.kind = 0 → eff = zeroOp ∧ o.kind = 4
  text : eff.text.size ≤ o.text.size
  rs : eff.rs.length ≤ 60001
theorem take_facts {N : Int} {n : Nat} {H : Hist} {X : List Ce} {nx : List Int} (h : VI N n H X nx) {i : Nat} {o : GOp} (g : Good H i o) : ∃ H2 eff, Tk H X n i o H2 eff := by
  obtain ⟨es, nw, eff, p⟩ := put_good h.hv g
  have hp := p.put
  have hv2 := put_hv h.hv g p
  have hrow := put_row h.hv g p h.rule (by rw [h.len]; have := h.le; omega)
  refine ⟨_, eff, hp, ?_, ?_, ?_, ?_, ?_, ?_, hrow.1, hrow.2.1, ?_, ?_⟩
  · have := p.noted (fun o => (o.c, o.n)) (fun a b hs => by rw [hs.c, hs.n]) h.hv g
    rw [hp] at this; exact this.symm
  · have := p.noted kindN (fun a b hs => by unfold kindN; rw [hs.kind]) h.hv g
    rw [hp] at this; exact this.symm
  · have := p.noted (·.text) (fun a b hs => hs.text) h.hv g
    rw [hp] at this; exact this.symm
  · have := p.length h.hv g
    rw [hp, h.len] at this; exact this
  · rw [cells_before hv2, before_ops, List.take_of_length_le, ← hv2.tot]
    have := p.length h.hv g
    rw [hp, h.len] at this
    unfold Hist.ops
    rw [List.length_map]; exact Nat.le_of_eq this
  · intro j
    have h1 := cells_before hv2 j
    obtain ⟨s1, s2, s3, s4⟩ := hv2.split j
    have h2 := sumO_nonneg s2
    have h3 := hv2.le
    simp only at *
    omega
  · rcases g.right.kind with hk | hk | hk
    · rw [(p.ins hk).2.2]; exact Nat.le_refl _
    · rw [(p.hide hk).2.2]; exact Nat.zero_le _
    · rw [(p.status hk).2.2]
      rcases turned_cases H i o with e | ⟨k, e, _, _, _, _, h5⟩
      · rw [e]; exact Nat.zero_le _
      · rw [h5]; exact Nat.zero_le _
  · obtain ⟨c1, c2, c3, c4, c5⟩ := cross_good h.hv g
    have ht := h.total
    have hl := h.le
    rcases g.right.kind with hk | hk | hk
    · rw [(p.ins hk).2.2]; exact Nat.zero_le _
    · rw [(p.hide hk).2.2]
      obtain ⟨t1, t2⟩ := c2.cov (c4.kind.trans hk) (by omega)
      have := t2.len (by omega)
      show (carryF o (H.ops.drop i)).1.rs.length ≤ _
      omega
    · rw [(p.status hk).2.2]
      rcases turned_cases H i o with e | ⟨k, e, _, h2, _, _, h5⟩
      · rw [e]; exact Nat.zero_le _
      · rw [h5]
        have := (h.hv.pls e (List.mem_of_getElem? h2)).len (by omega)
        show e.now.length ≤ _
        omega
theorem good_fit {N : Int} {n : Nat} {H : Hist} {X : List Ce} {nx : List Int} (h : VI N n H X nx) {i : Nat} {o : GOp} (g : Good H i o) (ht : o.text.size ≤ 1073741824) : Fit o := by
  have hl := h.le
  have htt := h.total
  have hr := h.room i
  have hrs : o.rs.length ≤ 4398046511104 := by
    by_cases hk : o.kind = 2
    · have := (g.right.cov hk (by omega)).2.len (by omega)
      omega
    · rw [g.right.noRs hk]; exact Nat.zero_le _
  have hat : 0 ≤ o.at_ ∧ o.at_ ≤ 65535 := by
    rcases g.right.kind with hk | hk | hk
    · have := g.right.ins hk; omega
    all_goals
      have hh := (g.right.head g.right.w0).2.2
      have h0 : o.at_ = 0 := by
        unfold extraF at hh
        have h1 : o.kind ≠ 1 := by omega
        rcases Int.lt_trichotomy o.at_ 0 with h2 | h2 | h2
        · exfalso; apply hh; have : o.at_ ≠ 0 := by omega
          simp [h1, this]
        · exact h2
        · exfalso; apply hh; have : o.at_ ≠ 0 := by omega
          simp [h1, this]
      omega
  exact ⟨by omega, hrs, by omega, by omega⟩
def TakeP (v h m b : Nat) (H2 : Hist) (X2 : List Ce) (nx2 : List Int) : Value → List Part → List Fact → Prop := fun u Lo fs => u = .bool true ∧ ViewAt v h m b H2 X2 nx2 Lo fs
end Go.Proofs.YtggdddkbhigjoaaDoor
/- Ranges are held against each other. -/
namespace Go.Proofs.YtggdddkbhigjoaaDoor
open Go Go.GW
theorem eq37 (a b c d : Int) : EqT Tryd.prog 37 #[.int .i64 a, .int .i64 b] #[.int .i64 c, .int .i64 d] (a == c && b == d) := ⟨by kernel_rfl, fun k w => by
  have h1 : ∀ (cs : List Value) (o : Nat) (v : Value) w, cs[o]? = some v → (part 3 cs.toArray o).run Tryd.prog w = .ok v w := fun cs o v w h => run_part1 Tryd.underlying3 rfl h
  have h2 : ∀ (x y : Int) w, (Op.equalIn (k + 8) 3 (.int .i64 x) (.int .i64 y)).run Tryd.prog w = .ok (x == y) w := fun x y w => run_equalIn_int w (k + 7) 3 .i64 .i64 x y Tryd.underlying3
  have hf : ∃ f1 f2 : Field, (Tryd.prog.fieldsOf 37).toList = [f1, f2] ∧ (f1.name ≠ "_" ∧ f1.type = 3 ∧ f1.offset = 0) ∧ (f2.name ≠ "_" ∧ f2.type = 3 ∧ f2.offset = 1) := ⟨⟨ "Lo", 3, 0, false, "", "", 0⟩, ⟨ "Hi", 3, 1, false, "", "", 8⟩, by kernel_rfl, ⟨by decide, rfl, rfl⟩, ⟨by decide, rfl, rfl⟩⟩
  obtain ⟨f1, f2, e, ⟨n1, t1, o1⟩, ⟨n2, t2, o2⟩⟩ := hf
  rw [show k + 9 = (k + 8) + 1 from rfl, run_equalIn_struct w (k + 8) 37 _ _ (by kernel_rfl) (by kernel_rfl), e]
  simp only [Op.eqFields, n1, n2, t1, t2, o1, o2, ne_eq, not_false_eq_true, if_true, Sem.run_bind, h1 [.int .i64 a, .int .i64 b] 0 _ _ rfl, h1 [.int .i64 c, .int .i64 d] 0 _ _ rfl, h1 [.int .i64 a, .int .i64 b] 1 _ _ rfl, h1 [.int .i64 c, .int .i64 d] 1 _ _ rfl, Result.andThen_ok, h2]
  cases h3 : (a == c) <;> cases h4 : (b == d) <;> simp [h1 [.int .i64 a, .int .i64 b] 1 _ _ rfl, h1 [.int .i64 c, .int .i64 d] 1 _ _ rfl, h2, h4, Op.eqFields]⟩
end Go.Proofs.YtggdddkbhigjoaaDoor
/- Walks: xform, single operations. -/
namespace Go.Proofs.YtggdddkbhigjoaaDoor
open Go Go.GW
set_option maxRecDepth 10000 in
theorem own_s (o : GOp) (A : Option Addr) (c : Nat) (hf : Fit o) : Sp Tryd.prog 69 [opV o A c] [] [barF, RdF rgD A c o.rs] (Is (.int .i64 (ownF o))) := by
  refine Sp.of (n := 23) ⟨_, Tryd.func69, rfl, rfl, rfl, rfl⟩ (Nat.le_of_ble_eq_true rfl) fun Ps As => WC_seq (WC_region (WL_main rfl (OW_box (cs := [_, _, _, _, _, _, _, _, _]) rfl rfl (by decide) fun b1 => Lq (q_assign rfl) (WL_nil (thenN (WC_seq (WC_seq (WC_region (Lq (q_field (o' := 0) Tryd.underlying31 rfl ti28 rfl rfl) (Lq (q_field (o' := 2) Tryd.underlying28 rfl ti26 rfl rfl) (Lq (q_load1 Tryd.underlying26 rfl rfl own0 rfl) (Lq (q_eql rfl rfl) (Lq (q_move rfl) ?_)))))))))))))
  refine WL_guard (t := 7) rfl (fun g7 => ?_) (fun g7 => ?_)
  · refine Lg rfl rfl rfl g7 (q_field (o' := 3) Tryd.underlying31 rfl ti3 rfl rfl) (Lg rfl rfl rfl g7 (q_load1 Tryd.underlying3 rfl rfl own0 rfl) (Lg rfl rfl rfl g7 (q_geq rfl rfl) (Lq (q_pickT rfl g7 rfl) (Lq (q_move rfl) (WL_guard (t := 12) rfl (fun g12 => ?_) (fun g12 => ?_))))))
    · refine Lg rfl rfl rfl g12 (q_field (o' := 3) Tryd.underlying31 rfl ti3 rfl rfl) (Lg rfl rfl rfl g12 (q_load1 Tryd.underlying3 rfl rfl own0 rfl) (Lg rfl rfl rfl g12 (q_leq rfl rfl) (Lq (q_pickT rfl g12 rfl) (WL_nil (thenN (WC_fr [(16, _), (2, _), (1, _)] (.cons rfl (.cons rfl (.cons rfl (.nil _)))) (WC_cond rfl (fun h16 => ?_) (fun h16 => ?_))))))))
      · refine WC_seq (WC_region (Lq (q_loadN (vs := [_, _, _, _, _, _, _, _, _]) Tryd.underlying31 rfl ti31 rfl own0 rfl rfl) (Lq (q_field (o' := 3) Tryd.underlying31 rfl ti3 rfl rfl) (Lq (q_load1 Tryd.underlying3 rfl rfl own0 rfl) (WL_main rfl (OW_call0 (opCheck_s o A c o.at_ (by have := hf.text; omega) hf.rs) (.cons rfl (.cons rfl (.nil))) (by decide) (memc (.head _) (memc (.tail _ (.head _)) mem0)) fun u2_3 Lo fs hres => ?_))))))
        obtain ⟨rfl, rfl, rfl⟩ := hres
        refine Lq (q_assign rfl) (WL_nil (thenN (WC_ret (thenRet ?_))))
        refine ⟨_, [], [], fun Z w hs => .tmp rfl (.nil), ?_, fun Z w hs => hs.out (List.Sublist.cons _ (List.Sublist.refl _)) (fun _ h => h)⟩
        try simp only [Bp, Bq] at *
        exact ⟨congrArg (Value.int .i64) (by unfold ownF; first | (simp_all; done) | (simp_all; intros; omega) | (simp_all; repeat' split; all_goals omega) | (repeat' split; all_goals first | rfl | omega)), rfl, rfl⟩
      · refine WC_skip (thenN (WC_seq (WC_region (Lq (q_loadN (vs := [_, _, _, _, _, _, _, _, _]) Tryd.underlying31 rfl ti31 rfl own0 rfl rfl) (WL_main rfl (OW_call0 (opCheck_s o A c 1048576 (by have := hf.text; omega) hf.rs) (.cons rfl (.cons rfl (.nil))) (by decide) (memc (.head _) (memc (.tail _ (.head _)) mem0)) fun u3_1 Lo fs hres => ?_))))))
        obtain ⟨rfl, rfl, rfl⟩ := hres
        refine Lq (q_assign rfl) (WL_nil (thenN (WC_ret ?_)))
        refine ⟨_, [], [], fun Z w hs => .tmp rfl (.nil), ?_, fun Z w hs => hs.out (List.Sublist.cons _ (List.Sublist.refl _)) (fun _ h => h)⟩
        try simp only [Bp, Bq] at *
        exact ⟨congrArg (Value.int .i64) (by unfold ownF; first | (simp_all; done) | (simp_all; intros; omega) | (simp_all; repeat' split; all_goals omega) | (repeat' split; all_goals first | rfl | omega)), rfl, rfl⟩
    · refine Ln rfl rfl rfl g12 (Ln rfl rfl rfl g12 (Ln rfl rfl rfl g12 (Lq (q_pickF rfl g12 rfl) (WL_nil (thenN (WC_fr [(16, _), (2, _), (1, _)] (.cons rfl (.cons rfl (.cons rfl (.nil _)))) (WC_false rfl rfl (WC_skip (thenN (WC_seq (WC_region (Lq (q_loadN (vs := [_, _, _, _, _, _, _, _, _]) Tryd.underlying31 rfl ti31 rfl own0 rfl rfl) (WL_main rfl (OW_call0 (opCheck_s o A c 1048576 (by have := hf.text; omega) hf.rs) (.cons rfl (.cons rfl (.nil))) (by decide) (memc (.head _) (memc (.tail _ (.head _)) mem0)) fun u3_1 Lo fs hres => ?_))))))))))))))
      obtain ⟨rfl, rfl, rfl⟩ := hres
      refine Lq (q_assign rfl) (WL_nil (thenN (WC_ret ?_)))
      refine ⟨_, [], [], fun Z w hs => .tmp rfl (.nil), ?_, fun Z w hs => hs.out (List.Sublist.cons _ (List.Sublist.refl _)) (fun _ h => h)⟩
      try simp only [Bp, Bq] at *
      exact ⟨congrArg (Value.int .i64) (by unfold ownF; first | (simp_all; done) | (simp_all; intros; omega) | (simp_all; repeat' split; all_goals omega) | (repeat' split; all_goals first | rfl | omega)), rfl, rfl⟩
  · refine Ln rfl rfl rfl g7 (Ln rfl rfl rfl g7 (Ln rfl rfl rfl g7 (Lq (q_pickF rfl g7 rfl) (Lq (q_move rfl) (Ln rfl rfl rfl rfl (Ln rfl rfl rfl rfl (Ln rfl rfl rfl rfl (Lq (q_pickF rfl rfl rfl) (WL_nil (thenN ?_))))))))))
    refine WC_fr [(16, _), (2, _), (1, _)] (.cons rfl (.cons rfl (.cons rfl (.nil _)))) (WC_false rfl rfl (WC_skip (thenN (WC_seq (WC_region (Lq (q_loadN (vs := [_, _, _, _, _, _, _, _, _]) Tryd.underlying31 rfl ti31 rfl own0 rfl rfl) (WL_main rfl (OW_call0 (opCheck_s o A c 1048576 (by have := hf.text; omega) hf.rs) (.cons rfl (.cons rfl (.nil))) (by decide) (memc (.head _) (memc (.tail _ (.head _)) mem0)) fun u3_1 Lo fs hres => ?_))))))))
    obtain ⟨rfl, rfl, rfl⟩ := hres
    refine Lq (q_assign rfl) (WL_nil (thenN (WC_ret ?_)))
    refine ⟨_, [], [], fun Z w hs => .tmp rfl (.nil), ?_, fun Z w hs => hs.out (List.Sublist.cons _ (List.Sublist.refl _)) (fun _ h => h)⟩
    try simp only [Bp, Bq] at *
    exact ⟨congrArg (Value.int .i64) (by unfold ownF; first | (simp_all; done) | (simp_all; intros; omega) | (simp_all; repeat' split; all_goals omega) | (repeat' split; all_goals first | rfl | omega)), rfl, rfl⟩

structure OwI (xs : List GOp) (k : Nat) : Prop where
  le : k ≤ xs.length
  eq : ownsF xs = ownsF (xs.drop k)
theorem OwI.next {xs : List GOp} {k : Nat} (h : OwI xs k) (hk : k < xs.length) (h0 : ownF xs[k] = 0) : OwI xs (k + 1) := by
  refine ⟨hk, ?_⟩
  rw [h.eq, List.drop_eq_getElem_cons hk, ownsF, if_neg (by simpa using h0)]
theorem OwI.bad {xs : List GOp} {k : Nat} (h : OwI xs k) (hk : k < xs.length) (h0 : ownF xs[k] ≠ 0) : ownsF xs = ownF xs[k] := by
  rw [h.eq, List.drop_eq_getElem_cons hk, ownsF, if_pos h0]
theorem OwI.done {xs : List GOp} {k : Nat} (h : OwI xs k) (hk : ¬ k < xs.length) : ownsF xs = 0 := by
  rw [h.eq, List.drop_eq_nil_of_le (by omega)]; rfl

set_option maxRecDepth 10000 in
theorem owns_s (A : Option Addr) (c : Nat) (xs : List GOp) (hf : ∀ o ∈ xs, Fit o) (hl : xs.length ≤ 4398046511104) : Sp Tryd.prog 46 [.slice A xs.length c] [] [barF, RdF opD A c xs] (Is (.int .i64 (ownsF xs))) := by
  refine Sp.of (n := 18) ⟨_, Tryd.func46, rfl, rfl, rfl, rfl⟩ (Nat.le_of_ble_eq_true rfl) fun Ps As => WC_seq (WC_region (Lq (q_assign rfl) (WL_nil (thenN (WC_seq (WC_seq (WC_region (Lq (q_move rfl) (Lq (q_len Tryd.underlying45 rfl) (Lq (q_move rfl) (WL_nil (thenN (WC_block ?_)))))))))))))
  refine WC_loopE (α := Nat) (fun k => xs.length - k)
    (fun k => [(6, .slice A xs.length c), (7, .int .i64 xs.length), (8, .int .i64 k)])
    (fun k => Ps)
    (fun k => (barF :: RdF opD A c xs :: As))
    (fun k => OwI xs k)
    0 ?_ (.cons rfl (.cons rfl (.cons rfl (.nil _)))) (List.Sublist.refl _) (fun _ h => h) ?_
  · exact ⟨Nat.zero_le _, rfl⟩
  · rintro k hI
    refine WC_seq (WC_region (Lq (q_lss rfl rfl) (WL_nil (thenN (WC_seq (WC_cond rfl (fun h9 => ?_) (fun h9 => ?_)))))))
    · refine WC_skip (thenN (WC_seq (WC_block (WC_seq ?_))))
      have hk : k < xs.length := by simpa using h9
      refine WC_elem (k := k) (.tail _ (.head _)) (List.getElem?_eq_getElem hk) (op_open _) fun b3 q3 y3 e3 => ?_
      cases e3
      refine WC_region (Lq (q_idxRd Tryd.underlying45 ti31 rfl rfl (by omega) (by omega)) (Lq (q_loadFN (k := 0) (vs := [_, _, _, _, _, _, _, _, _]) Tryd.underlying31 rfl ti31 rfl (.head _) rfl rfl rfl) (WL_main rfl (OW_alloc (cs := [_, _, _, _, _, _, _, _, _]) ti31 rfl (by decide) fun b4 => WL_main rfl (OW_storeN (cs' := [_, _, _, _, _, _, _, _, _]) (vs := [_, _, _, _, _, _, _, _, _]) ti31 rfl rfl rfl rfl rfl (Nat.le_of_ble_eq_true rfl) (.z) (WL_nil (thenN (WC_seq (WC_region (Lq (q_loadN (vs := [_, _, _, _, _, _, _, _, _]) Tryd.underlying31 rfl ti31 rfl own0 rfl rfl) (WL_main rfl (OW_call0 (own_s xs[k] y3.1 y3.2 (hf _ (List.getElem_mem hk))) (.cons rfl (.nil)) (by decide) (memc (.tail _ (.tail _ (.head _))) (memc (.tail _ (.head _)) mem0)) fun u4_1 Lo fs hres => ?_))))))))))))
      obtain ⟨rfl, rfl, rfl⟩ := hres
      refine Lq (q_assign rfl) (WL_nil (thenN (WC_seq (WC_region (Lq (q_move rfl) (Lq (q_neq rfl rfl) (WL_nil (thenN (WC_cond rfl (fun h15 => ?_) (fun h15 => ?_))))))))))
      · refine WC_seq (WC_region (Lq (q_move rfl) (Lq (q_assign rfl) (WL_nil (thenN (WC_ret (blockRet (thenRet (thenRet (blockRet (thenRet ?_)))))))))))
        refine ⟨_, [], [], fun Z w hs => .tmp rfl (.nil), ?_, fun Z w hs => hs.out (List.Sublist.cons _ (List.Sublist.refl _)) (fun _ h => .tail _ (.tail _ h))⟩
        try simp only [Bp, Bq] at *
        first
          | exact ⟨by rw [hI.done (by omega)]; rfl, rfl, rfl⟩
          | exact ⟨by rw [hI.bad hk (by omega)]; rfl, rfl, rfl⟩
      · refine WC_skip (blockN (thenN (WC_region (Lq (q_add rfl rfl (wr64 (by omega))) (Lq (q_move rfl) (WL_nil (thenK ?_)))))))
        refine ⟨k + 1, ?_, (.cons rfl (.cons rfl (.cons rfl (.nil _)))), (List.Sublist.cons _ (List.Sublist.refl _)), (fun _ h => .tail _ (.tail _ h))⟩
        try simp only [Bp, Bq] at *
        exact ⟨by omega, hI.next hk (by omega)⟩
    · refine WC_exit (thenExit (thenExit (blockHit (thenN (WC_seq (WC_region (Lq (q_assign rfl) (WL_nil (thenN (WC_ret ?_))))))))))
      refine ⟨_, [], [], fun Z w hs => .tmp rfl (.nil), ?_, fun Z w hs => hs.out (List.Sublist.refl _) (fun _ h => h)⟩
      try simp only [Bp, Bq] at *
      first
        | exact ⟨by rw [hI.done (by omega)]; rfl, rfl, rfl⟩
        | exact ⟨by rw [hI.bad hk (by omega)]; rfl, rfl, rfl⟩

theorem bd31Xw9  (w : World) : (Instr.build 31 #[]).run Tryd.prog w = .ok (.agg #[.int .i64 0, .int .i64 0, .int .i64 0, .int .i64 0, .string ⟨#[]⟩, .slice none 0 0, .int .i64 0, .int .i64 0, .bool false]) w := by kernel_rfl

set_option maxRecDepth 10000 in
theorem moved_s (a : GOp) (A : Option Addr) (c : Nat) (at_ : Int) (hs : a.text.size ≤ 2305843009213693952) (ha : -4611686018427387904 ≤ at_ ∧ at_ ≤ 4611686018427387904) : Sp Tryd.prog 71 [opV a A c, .int .i64 at_] [] [barF] (OpP (movedF a at_)) := by
  refine Sp.of (n := 16) ⟨_, Tryd.func71, rfl, rfl, rfl, rfl⟩ (Nat.le_of_ble_eq_true rfl) fun Ps As => WC_seq (WC_region (WL_main rfl (OW_box (cs := [_, _, _, _, _, _, _, _, _]) rfl rfl (by decide) fun b2 => WL_main rfl (OW_alloc (cs := [_, _, _, _, _, _, _, _, _]) ti31 rfl (by decide) fun b4 => Lq (q_assign rfl) (WL_nil (thenN (WC_seq (WC_seq (WC_fact (A := RdF rgD none 0 []) (fun Z w hs => RdS.nil _ _ _) ?_)))))))))
  have hw := widthF_le a
  refine WC_region (Lq (q_move rfl) (Lq (q_loadN (vs := [_, _, _, _, _, _, _, _, _]) Tryd.underlying31 rfl ti31 rfl (ownS (own0)) rfl rfl) (WL_main rfl (OW_call0 (width_s a A c (by omega)) (.cons rfl (.nil)) (by decide) (memc (.tail _ (.head _)) mem0) fun u1_2 Lo fs hres => ?_))))
  obtain ⟨rfl, rfl, rfl⟩ := hres
  refine Lq (q_add rfl rfl (wr64 (by omega))) (Lq (q_gtr rfl rfl) (WL_nil (thenN (WC_cond rfl (fun h10 => ?_) (fun h10 => ?_)))))
  · refine WC_seq (WC_region (Lq (q_build (.nil) (bd31Xw9)) (WL_main rfl (OW_storeN (cs' := [_, _, _, _, _, _, _, _, _]) (vs := [_, _, _, _, _, _, _, _, _]) ti31 rfl rfl rfl rfl rfl (Nat.le_of_ble_eq_true rfl) (.z) (Lq (q_assign rfl) (WL_nil (thenN (WC_ret (thenRet ?_)))))))))
    refine ⟨_, [], [RdF rgD none 0 []], fun Z w hs => RV_ownN hs Tryd.underlying31 rfl ti31 rfl own0 rfl (.tmp rfl (.nil)), ?_, fun Z w hs => hs.out (List.Sublist.cons _ (List.Sublist.cons _ (List.Sublist.refl _))) (fun _ h => h)⟩
    try simp only [Bp, Bq] at *
    exact ⟨none, 0, by unfold movedF; first | (rw [if_pos (by omega)]; rfl) | (rw [if_neg (by omega)]; rfl), rfl, by unfold movedF; first | (rw [if_pos (by omega)]; rfl) | (rw [if_neg (by omega)])⟩
  · refine WC_skip (thenN (WC_seq (WC_region (Lq (q_move rfl) (Lq (q_field (o' := 3) Tryd.underlying31 rfl ti3 rfl rfl) (WL_main rfl (OW_store1 ti3 rfl rfl rfl (.s (.s (.s (.z)))) (.s (.z)) (WL_nil (thenN (WC_seq (WC_region (Lq (q_field (o' := 5) Tryd.underlying31 rfl ti29 rfl rfl) (WL_main rfl (OW_store1 ti29 rfl rfl rfl (.s (.s (.s (.s (.s (.z)))))) (.s (.z)) (WL_nil (thenN (WC_seq (WC_region (Lq (q_loadN (vs := [_, _, _, _, _, _, _, _, _]) Tryd.underlying31 rfl ti31 rfl (ownS (own0)) rfl rfl) (WL_main rfl (OW_storeN (cs' := [_, _, _, _, _, _, _, _, _]) (vs := [_, _, _, _, _, _, _, _, _]) ti31 rfl rfl rfl rfl rfl (Nat.le_of_ble_eq_true rfl) (.z) ?_)))))))))))))))))))))
    refine Lq (q_assign rfl) (WL_nil (thenN (WC_fr [(5, _), (4, _)] (.cons rfl (.cons rfl (.nil _))) (WC_ret ?_))))
    refine ⟨_, [], [RdF rgD none 0 []], fun Z w hs => RV_ownN hs Tryd.underlying31 rfl ti31 rfl own0 rfl (.tmp rfl (.nil)), ?_, fun Z w hs => hs.out (List.Sublist.cons _ (List.Sublist.cons _ (List.Sublist.refl _))) (fun _ h => h)⟩
    try simp only [Bp, Bq] at *
    exact ⟨none, 0, by unfold movedF; first | (rw [if_pos (by omega)]; rfl) | (rw [if_neg (by omega)]; rfl), rfl, by unfold movedF; first | (rw [if_pos (by omega)]; rfl) | (rw [if_neg (by omega)])⟩


set_option maxRecDepth 10000 in
theorem ranged_s (a : GOp) (A A2 : Option Addr) (c c2 : Nat) (l : List Rg) (e : Int) : Sp Tryd.prog 72 [opV a A c, .slice A2 l.length c2, .int .i64 e] [] [RdF rgD A2 c2 l] (OpP (rangedF a l e)) := by
  refine Sp.of (n := 15) ⟨_, Tryd.func72, rfl, rfl, rfl, rfl⟩ (Nat.le_of_ble_eq_true rfl) fun Ps As => WC_seq (WC_region (WL_main rfl (OW_box (cs := [_, _, _, _, _, _, _, _, _]) rfl rfl (by decide) fun b3 => WL_main rfl (OW_alloc (cs := [_, _, _, _, _, _, _, _, _]) ti31 rfl (by decide) fun b6 => Lq (q_assign rfl) (WL_nil (thenN (WC_seq (WC_seq (WC_fact (A := RdF rgD none 0 []) (fun Z w hs => RdS.nil _ _ _) (WC_region (Lq (q_move rfl) (Lq (q_neq rfl rfl) ?_))))))))))))
  refine WL_nil (thenN (WC_cond rfl (fun h9 => ?_) (fun h9 => ?_)))
  · refine WC_seq (WC_region (Lq (q_build (.nil) (bd31Xw9)) (Lq (q_move rfl) (WL_main rfl (OW_storeN (cs' := [_, _, _, _, _, _, _, _, _]) (vs := [_, _, _, _, _, _, _, _, _]) ti31 rfl rfl rfl rfl rfl (Nat.le_of_ble_eq_true rfl) (.z) (Lq (q_assign rfl) (WL_nil (thenN (WC_ret (thenRet ?_))))))))))
    refine ⟨_, [], [RdF rgD none 0 []], fun Z w hs => RV_ownN hs Tryd.underlying31 rfl ti31 rfl own0 rfl (.tmp rfl (.nil)), ?_, fun Z w hs => hs.out (List.Sublist.cons _ (List.Sublist.cons _ (List.Sublist.refl _))) (fun _ h => h)⟩
    try simp only [Bp, Bq] at *
    exact ⟨none, 0, by unfold rangedF; rw [if_pos (by omega)]; rfl, rfl, by unfold rangedF; rw [if_pos (by omega)]; rfl⟩
  · refine WC_skip (thenN (WC_seq (WC_region (Lq (q_move rfl) (Lq (q_field (o' := 5) Tryd.underlying31 rfl ti29 rfl rfl) (WL_main rfl (OW_store1 ti29 rfl rfl rfl (.s (.s (.s (.s (.s (.z)))))) (.s (.z)) (WL_nil (thenN (WC_seq (WC_region (Lq (q_loadN (vs := [_, _, _, _, _, _, _, _, _]) Tryd.underlying31 rfl ti31 rfl (ownS (own0)) rfl rfl) (WL_main rfl (OW_storeN (cs' := [_, _, _, _, _, _, _, _, _]) (vs := [_, _, _, _, _, _, _, _, _]) ti31 rfl rfl rfl rfl rfl (Nat.le_of_ble_eq_true rfl) (.z) (Lq (q_assign rfl) (WL_nil (thenN (WC_ret ?_))))))))))))))))))
    refine ⟨_, [], [RdF rgD A2 c2 l], fun Z w hs => RV_ownN hs Tryd.underlying31 rfl ti31 rfl own0 rfl (.tmp rfl (.nil)), ?_, fun Z w hs => hs.out (List.Sublist.cons _ (List.Sublist.cons _ (List.Sublist.refl _))) (memc (.tail _ (.head _)) (fun _ h => .tail _ h))⟩
    try simp only [Bp, Bq] at *
    exact ⟨A2, c2, by unfold rangedF; rw [if_neg (by omega)]; rfl, rfl, by unfold rangedF; rw [if_neg (by omega)]⟩


set_option maxRecDepth 10000 in
theorem include_s (a b : GOp) (Aa Ab : Option Addr) (ca cb : Nat) (earlier : Bool) (ha : Fit a) (hb : Fit b) : Sp Tryd.prog 48 [opV a Aa ca, opV b Ab cb, .bool earlier] [] [barF, RdF rgD Aa ca a.rs] (OpP (includeF a b earlier)) := by
  refine Sp.of (n := 71) ⟨_, Tryd.func48, rfl, rfl, rfl, rfl⟩ (Nat.le_of_ble_eq_true rfl) fun Ps As => WC_seq (WC_region (WL_main rfl (OW_box (cs := [_, _, _, _, _, _, _, _, _]) rfl rfl (by decide) fun b3 => WL_main rfl (OW_box (cs := [_, _, _, _, _, _, _, _, _]) rfl rfl (by decide) fun b4 => WL_main rfl (OW_alloc (cs := [_, _, _, _, _, _, _, _, _]) ti31 rfl (by decide) fun b6 => Lq (q_assign rfl) (WL_nil (thenN (WC_seq (WC_seq (WC_fact (A := RdF rgD none 0 []) (fun Z w hs => RdS.nil _ _ _) (WC_region (Lq (q_loadN (vs := [_, _, _, _, _, _, _, _, _]) Tryd.underlying31 rfl ti31 rfl (ownS (ownS (own0))) rfl rfl) ?_))))))))))))
  refine Lq (q_loadN (vs := [_, _, _, _, _, _, _, _, _]) Tryd.underlying31 rfl ti31 rfl (ownS (own0)) rfl rfl) (WL_main rfl (OW_call0 (clash_s a b Aa Ab ca cb) (.cons rfl (.cons rfl (.nil))) (by decide) mem0 fun u1_2 Lo fs hres => ?_))
  obtain ⟨rfl, rfl, rfl⟩ := hres
  refine WL_nil (thenN (WC_cond rfl (fun h13 => ?_) (fun h13 => ?_)))
  · refine WC_seq (WC_region (Lq (q_build (.nil) (bd31Xw9)) (WL_main rfl (OW_storeN (cs' := [_, _, _, _, _, _, _, _, _]) (vs := [_, _, _, _, _, _, _, _, _]) ti31 rfl rfl rfl rfl rfl (Nat.le_of_ble_eq_true rfl) (.z) (Lq (q_assign rfl) (WL_nil (thenN (WC_ret (thenRet ?_)))))))))
    refine ⟨_, [], [RdF rgD none 0 []], fun Z w hs => RV_ownN hs Tryd.underlying31 rfl ti31 rfl own0 rfl (.tmp rfl (.nil)), ?_, fun Z w hs => hs.out (List.Sublist.cons _ (List.Sublist.cons _ (List.Sublist.cons _ (List.Sublist.refl _)))) (fun _ h => h)⟩
    try simp only [Bp, Bq] at *
    have hF : includeF a b earlier = (zeroOp, 50) := by
      unfold includeF clashF
      first | exact if_pos ‹_› | (simp_all; done) | (simp_all; omega) | (repeat' split; all_goals first | rfl | omega | (simp_all; done) | (simp_all; omega))
    exact ⟨none, 0, by rw [hF]; rfl, rfl, by first | (rw [hF]; done) | (rw [hF]; rfl)⟩
  · refine WC_skip (thenN (WC_seq (WC_seq (WC_region (Lq (q_field (o' := 0) Tryd.underlying31 rfl ti28 rfl rfl) (Lq (q_field (o' := 2) Tryd.underlying28 rfl ti26 rfl rfl) (Lq (q_load1 Tryd.underlying26 rfl rfl (ownS (own0)) rfl) (Lq (q_neq rfl rfl) (WL_nil (thenN (WC_fr [(18, _), (7, _), (6, _), (4, _), (3, _), (2, _)] (.cons rfl (.cons rfl (.cons rfl (.cons rfl (.cons rfl (.cons rfl (.nil _))))))) (WC_cond rfl (fun h18 => ?_) (fun h18 => ?_)))))))))))))
    · refine WC_seq (WC_region (Lq (q_loadN (vs := [_, _, _, _, _, _, _, _, _]) Tryd.underlying31 rfl ti31 rfl (ownS (ownS (own0))) rfl rfl) (WL_main rfl (OW_call0 (clone_s a Aa ca ha.rs) (.cons rfl (.nil)) (by decide) (memc (.tail _ (.tail _ (.head _))) mem0) fun u4_1 Lo fs hres => ?_))))
      obtain ⟨A1, c1, rfl, rfl, rfl⟩ := hres
      refine WL_main rfl (OW_storeN (cs' := [_, _, _, _, _, _, _, _, _]) (vs := [_, _, _, _, _, _, _, _, _]) ti31 rfl rfl rfl rfl rfl (Nat.le_of_ble_eq_true rfl) (.z) (Lq (q_assign rfl) (WL_nil (thenN (WC_ret (thenRet ?_))))))
      refine ⟨_, [], [RdF rgD A1 c1 a.rs], fun Z w hs => RV_ownN hs Tryd.underlying31 rfl ti31 rfl own0 rfl (.tmp rfl (.nil)), ?_, fun Z w hs => hs.out (List.Sublist.cons _ (List.Sublist.cons _ (List.Sublist.cons _ (List.Sublist.refl _)))) (memc (.head _) (fun _ h => .tail _ (.tail _ h)))⟩
      try simp only [Bp, Bq] at *
      have hF : includeF a b earlier = (a, 0) := by
        unfold includeF clashF
        first | exact if_pos ‹_› | (simp_all; done) | (simp_all; omega) | (repeat' split; all_goals first | rfl | omega | (simp_all; done) | (simp_all; omega))
      exact ⟨A1, c1, by rw [hF]; rfl, rfl, by first | (rw [hF]; done) | (rw [hF]; rfl)⟩
    · refine WC_skip (thenN (WC_seq (WC_region (Lq (q_loadN (vs := [_, _, _, _, _, _, _, _, _]) Tryd.underlying31 rfl ti31 rfl (ownS (own0)) rfl rfl) (WL_main rfl (OW_call0 (width_s b Ab cb (by have := hb.text; omega)) (.cons rfl (.nil)) (by decide) (memc (.tail _ (.head _)) mem0) fun u5_1 Lo fs hres => ?_))))))
      obtain ⟨rfl, rfl, rfl⟩ := hres
      refine Lq (q_assign rfl) (WL_nil (thenN (WC_seq (WC_seq (WC_region (Lq (q_field (o' := 0) Tryd.underlying31 rfl ti28 rfl rfl) (Lq (q_field (o' := 2) Tryd.underlying28 rfl ti26 rfl rfl) (Lq (q_load1 Tryd.underlying26 rfl rfl (ownS (ownS (own0))) rfl) (WL_nil (thenN (WC_block (WC_seq (WC_region (Lq (q_eql rfl rfl) (Lq (q_assign rfl) (WL_nil (thenN (WC_fr [(26, _), (25, _), (8, _), (7, _), (6, _), (4, _), (3, _), (2, _)] (.cons rfl (.cons rfl (.cons rfl (.cons rfl (.cons rfl (.cons rfl (.cons rfl (.cons rfl (.nil _))))))))) ?_))))))))))))))))))
      refine WC_cond rfl (fun h26 => ?_) (fun h26 => ?_)
      · refine WC_seq (WC_region (Lq (q_field (o' := 3) Tryd.underlying31 rfl ti3 rfl rfl) (Lq (q_load1 Tryd.underlying3 rfl rfl (ownS (own0)) rfl) (Lq (q_field (o' := 3) Tryd.underlying31 rfl ti3 rfl rfl) (Lq (q_load1 Tryd.underlying3 rfl rfl (ownS (ownS (own0))) rfl) (Lq (q_lss rfl rfl) (Lq (q_move rfl) (WL_guard (t := 33) rfl (fun g33 => ?_) (fun g33 => ?_)))))))))
        · refine Ln rfl rfl rfl g33 (Ln rfl rfl rfl g33 (Ln rfl rfl rfl g33 (Ln rfl rfl rfl g33 (Ln rfl rfl rfl g33 (Ln rfl rfl rfl g33 (WL_gun rfl rfl rfl (by decide) (Ln rfl rfl rfl g33 (Lq (q_pickT rfl g33 rfl) (WL_nil (thenN ?_))))))))))
          refine WC_fr [(42, _), (8, _), (7, _), (6, _), (3, _)] (.cons rfl (.cons rfl (.cons rfl (.cons rfl (.cons rfl (.nil _)))))) (WC_true rfl rfl (WC_seq (WC_region (Lq (q_loadN (vs := [_, _, _, _, _, _, _, _, _]) Tryd.underlying31 rfl ti31 rfl (ownS (ownS (own0))) rfl rfl) (Lq (q_field (o' := 3) Tryd.underlying31 rfl ti3 rfl rfl) (Lq (q_load1 Tryd.underlying3 rfl rfl (ownS (ownS (own0))) rfl) (Lq (q_move rfl) (Lq (q_add rfl rfl (wr64 (by have := ha.lo; have := ha.hi; have := hb.text; have := widthF_le b; omega))) (WL_main rfl (OW_call0 (moved_s a Aa ca (a.at_ + widthF b) ha.text (by have := ha.lo; have := ha.hi; have := hb.text; have := widthF_le b; omega)) (.cons rfl (.cons rfl (.nil))) (by decide) (memc (.tail _ (.head _)) mem0) fun u9_5 Lo fs hres => ?_))))))))))
          obtain ⟨A2, c2, rfl, rfl, rfl⟩ := hres
          refine Lq (q_extract (vs := [_, _]) rfl rfl) (Lq (q_extract (vs := [_, _]) rfl rfl) (WL_main rfl (OW_storeN (cs' := [_, _, _, _, _, _, _, _, _]) (vs := [_, _, _, _, _, _, _, _, _]) ti31 rfl rfl rfl rfl rfl (Nat.le_of_ble_eq_true rfl) (.z) (Lq (q_assign rfl) (WL_nil (thenN (WC_ret (blockRet (thenRet ?_)))))))))
          refine ⟨_, [], [RdF rgD A2 c2 (movedF a (a.at_ + widthF b)).1.rs], fun Z w hs => RV_ownN hs Tryd.underlying31 rfl ti31 rfl own0 rfl (.tmp rfl (.nil)), ?_, fun Z w hs => hs.out (List.Sublist.cons _ (List.Sublist.cons _ (List.Sublist.cons _ (List.Sublist.refl _)))) (memc (.head _) (fun _ h => .tail _ (.tail _ h)))⟩
          try simp only [Bp, Bq] at *
          have hF : includeF a b earlier = movedF a (a.at_ + widthF b) := by
            unfold includeF clashF
            first | exact if_pos ‹_› | (simp_all; done) | (simp_all; omega) | (repeat' split; all_goals first | rfl | omega | (simp_all; done) | (simp_all; omega))
          exact ⟨A2, c2, by rw [hF]; rfl, rfl, by first | (rw [hF]; done) | (rw [hF]; rfl)⟩
        · refine Lg rfl rfl rfl g33 (q_field (o' := 3) Tryd.underlying31 rfl ti3 rfl rfl) (Lg rfl rfl rfl g33 (q_load1 Tryd.underlying3 rfl rfl (ownS (own0)) rfl) (Lg rfl rfl rfl g33 (q_field (o' := 3) Tryd.underlying31 rfl ti3 rfl rfl) (Lg rfl rfl rfl g33 (q_load1 Tryd.underlying3 rfl rfl (ownS (ownS (own0))) rfl) (Lg rfl rfl rfl g33 (q_eql rfl rfl) (Lg rfl rfl rfl g33 (q_move rfl) (WL_guard (t := 39) rfl (fun g39 => ?_) (fun g39 => ?_)))))))
          · refine Lg rfl rfl rfl g39 (q_move rfl) (Lg rfl rfl rfl g33 (q_pickT rfl g39 rfl) (Lq (q_pickF rfl g33 rfl) (WL_nil (thenN (WC_fr [(42, _), (8, _), (7, _), (6, _), (3, _)] (.cons rfl (.cons rfl (.cons rfl (.cons rfl (.cons rfl (.nil _)))))) (WC_cond rfl (fun h42 => ?_) (fun h42 => ?_)))))))
            · refine WC_seq (WC_region (Lq (q_loadN (vs := [_, _, _, _, _, _, _, _, _]) Tryd.underlying31 rfl ti31 rfl (ownS (ownS (own0))) rfl rfl) (Lq (q_field (o' := 3) Tryd.underlying31 rfl ti3 rfl rfl) (Lq (q_load1 Tryd.underlying3 rfl rfl (ownS (ownS (own0))) rfl) (Lq (q_move rfl) (Lq (q_add rfl rfl (wr64 (by have := ha.lo; have := ha.hi; have := hb.text; have := widthF_le b; omega))) (WL_main rfl (OW_call0 (moved_s a Aa ca (a.at_ + widthF b) ha.text (by have := ha.lo; have := ha.hi; have := hb.text; have := widthF_le b; omega)) (.cons rfl (.cons rfl (.nil))) (by decide) (memc (.tail _ (.head _)) mem0) fun u9_5 Lo fs hres => ?_))))))))
              obtain ⟨A2, c2, rfl, rfl, rfl⟩ := hres
              refine Lq (q_extract (vs := [_, _]) rfl rfl) (Lq (q_extract (vs := [_, _]) rfl rfl) (WL_main rfl (OW_storeN (cs' := [_, _, _, _, _, _, _, _, _]) (vs := [_, _, _, _, _, _, _, _, _]) ti31 rfl rfl rfl rfl rfl (Nat.le_of_ble_eq_true rfl) (.z) (Lq (q_assign rfl) (WL_nil (thenN (WC_ret (blockRet (thenRet ?_)))))))))
              refine ⟨_, [], [RdF rgD A2 c2 (movedF a (a.at_ + widthF b)).1.rs], fun Z w hs => RV_ownN hs Tryd.underlying31 rfl ti31 rfl own0 rfl (.tmp rfl (.nil)), ?_, fun Z w hs => hs.out (List.Sublist.cons _ (List.Sublist.cons _ (List.Sublist.cons _ (List.Sublist.refl _)))) (memc (.head _) (fun _ h => .tail _ (.tail _ h)))⟩
              try simp only [Bp, Bq] at *
              have hF : includeF a b earlier = movedF a (a.at_ + widthF b) := by
                unfold includeF clashF
                first | exact if_pos ‹_› | (simp_all; done) | (simp_all; omega) | (repeat' split; all_goals first | rfl | omega | (simp_all; done) | (simp_all; omega))
              exact ⟨A2, c2, by rw [hF]; rfl, rfl, by first | (rw [hF]; done) | (rw [hF]; rfl)⟩
            · refine WC_skip (blockN (thenN (WC_seq (WC_region (Lq (q_loadN (vs := [_, _, _, _, _, _, _, _, _]) Tryd.underlying31 rfl ti31 rfl (ownS (ownS (own0))) rfl rfl) (WL_main rfl (OW_call0 (clone_s a Aa ca ha.rs) (.cons rfl (.nil)) (by decide) (memc (.tail _ (.tail _ (.head _))) mem0) fun u14_1 Lo fs hres => ?_)))))))
              obtain ⟨A1, c1, rfl, rfl, rfl⟩ := hres
              refine WL_main rfl (OW_storeN (cs' := [_, _, _, _, _, _, _, _, _]) (vs := [_, _, _, _, _, _, _, _, _]) ti31 rfl rfl rfl rfl rfl (Nat.le_of_ble_eq_true rfl) (.z) (Lq (q_assign rfl) (WL_nil (thenN (WC_ret ?_)))))
              refine ⟨_, [], [RdF rgD A1 c1 a.rs], fun Z w hs => RV_ownN hs Tryd.underlying31 rfl ti31 rfl own0 rfl (.tmp rfl (.nil)), ?_, fun Z w hs => hs.out (List.Sublist.cons _ (List.Sublist.cons _ (List.Sublist.cons _ (List.Sublist.refl _)))) (memc (.head _) (fun _ h => .tail _ (.tail _ h)))⟩
              try simp only [Bp, Bq] at *
              have hF : includeF a b earlier = (a, 0) := by
                unfold includeF clashF
                first | exact if_pos ‹_› | (simp_all; done) | (simp_all; omega) | (repeat' split; all_goals first | rfl | omega | (simp_all; done) | (simp_all; omega))
              exact ⟨A1, c1, by rw [hF]; rfl, rfl, by first | (rw [hF]; done) | (rw [hF]; rfl)⟩
          · refine Ln rfl rfl rfl g39 (Lg rfl rfl rfl g33 (q_pickF rfl g39 rfl) (Lq (q_pickF rfl g33 rfl) (WL_nil (thenN (WC_fr [(42, _), (8, _), (7, _), (6, _), (3, _)] (.cons rfl (.cons rfl (.cons rfl (.cons rfl (.cons rfl (.nil _)))))) (WC_false rfl rfl (WC_skip (blockN (thenN (WC_seq (WC_region (Lq (q_loadN (vs := [_, _, _, _, _, _, _, _, _]) Tryd.underlying31 rfl ti31 rfl (ownS (ownS (own0))) rfl rfl) (WL_main rfl (OW_call0 (clone_s a Aa ca ha.rs) (.cons rfl (.nil)) (by decide) (memc (.tail _ (.tail _ (.head _))) mem0) fun u14_1 Lo fs hres => ?_))))))))))))))
            obtain ⟨A1, c1, rfl, rfl, rfl⟩ := hres
            refine WL_main rfl (OW_storeN (cs' := [_, _, _, _, _, _, _, _, _]) (vs := [_, _, _, _, _, _, _, _, _]) ti31 rfl rfl rfl rfl rfl (Nat.le_of_ble_eq_true rfl) (.z) (Lq (q_assign rfl) (WL_nil (thenN (WC_ret ?_)))))
            refine ⟨_, [], [RdF rgD A1 c1 a.rs], fun Z w hs => RV_ownN hs Tryd.underlying31 rfl ti31 rfl own0 rfl (.tmp rfl (.nil)), ?_, fun Z w hs => hs.out (List.Sublist.cons _ (List.Sublist.cons _ (List.Sublist.cons _ (List.Sublist.refl _)))) (memc (.head _) (fun _ h => .tail _ (.tail _ h)))⟩
            try simp only [Bp, Bq] at *
            have hF : includeF a b earlier = (a, 0) := by
              unfold includeF clashF
              first | exact if_pos ‹_› | (simp_all; done) | (simp_all; omega) | (repeat' split; all_goals first | rfl | omega | (simp_all; done) | (simp_all; omega))
            exact ⟨A1, c1, by rw [hF]; rfl, rfl, by first | (rw [hF]; done) | (rw [hF]; rfl)⟩
      · refine WC_seq (WC_seq (WC_region (Lq (q_eql rfl rfl) (Lq (q_assign rfl) (WL_nil (thenN (WC_cond rfl (fun h51 => ?_) (fun h51 => ?_))))))))
        · refine WC_skip (thenN (WC_true rfl h51 (WC_seq (WC_region (Lq (q_field (o' := 5) Tryd.underlying31 rfl ti29 rfl rfl) (Lq (q_load1 Tryd.underlying29 rfl rfl (ownS (ownS (own0))) rfl) (Lq (q_field (o' := 3) Tryd.underlying31 rfl ti3 rfl rfl) (Lq (q_load1 Tryd.underlying3 rfl rfl (ownS (own0)) rfl) (Lq (q_move rfl) (WL_main rfl (OW_call0 (through_s Aa ca a.rs b.at_ (widthF b) ha.rs) (.cons rfl (.cons rfl (.cons rfl (.nil)))) (by decide) (memc (.tail _ (.tail _ (.head _))) mem0) fun u12_5 Lo fs hres => ?_)))))))))))
          obtain ⟨A3, c3, rfl, rfl, rfl⟩ := hres
          refine Lq (q_move rfl) (Lq (q_extract (vs := [_, _]) rfl rfl) (Lq (q_extract (vs := [_, _]) rfl rfl) (Lq (q_assign rfl) (Lq (q_assign rfl) (WL_nil (thenN (WC_fr [(10, _), (9, _), (7, _), (6, _), (3, _)] (.cons rfl (.cons rfl (.cons rfl (.cons rfl (.cons rfl (.nil _)))))) (WC_seq (WC_region (Lq (q_loadN (vs := [_, _, _, _, _, _, _, _, _]) Tryd.underlying31 rfl ti31 rfl (ownS (ownS (own0))) rfl rfl) (Lq (q_move rfl) ?_)))))))))))
          refine Lq (q_move rfl) (WL_main rfl (OW_call0 (ranged_s a Aa A3 ca c3 (thrF a.rs b.at_ (widthF b)).1 (thrF a.rs b.at_ (widthF b)).2) (.cons rfl (.cons rfl (.cons rfl (.nil)))) (by decide) (memc (.head _) mem0) fun u13_3 Lo fs hres => ?_))
          obtain ⟨A4, c4, rfl, rfl, rfl⟩ := hres
          refine Lq (q_extract (vs := [_, _]) rfl rfl) (Lq (q_extract (vs := [_, _]) rfl rfl) (WL_main rfl (OW_storeN (cs' := [_, _, _, _, _, _, _, _, _]) (vs := [_, _, _, _, _, _, _, _, _]) ti31 rfl rfl rfl rfl rfl (Nat.le_of_ble_eq_true rfl) (.z) (Lq (q_assign rfl) (WL_nil (thenN (WC_ret (blockRet (thenRet ?_)))))))))
          refine ⟨_, [], [RdF rgD A4 c4 (rangedF a (thrF a.rs b.at_ (widthF b)).1 (thrF a.rs b.at_ (widthF b)).2).1.rs], fun Z w hs => RV_ownN hs Tryd.underlying31 rfl ti31 rfl own0 rfl (.tmp rfl (.nil)), ?_, fun Z w hs => hs.out (List.Sublist.cons _ (List.Sublist.cons _ (List.Sublist.cons _ (List.Sublist.refl _)))) (memc (.head _) (fun _ h => .tail _ (.tail _ (.tail _ h))))⟩
          try simp only [Bp, Bq] at *
          have hF : includeF a b earlier = rangedF a (thrF a.rs b.at_ (widthF b)).1 (thrF a.rs b.at_ (widthF b)).2 := by
            unfold includeF clashF
            first | exact if_pos ‹_› | (simp_all; done) | (simp_all; omega) | (repeat' split; all_goals first | rfl | omega | (simp_all; done) | (simp_all; omega))
          exact ⟨A4, c4, by rw [hF]; rfl, rfl, by first | (rw [hF]; done) | (rw [hF]; rfl)⟩
        · refine WC_region (Lq (q_eql rfl rfl) (Lq (q_assign rfl) (WL_nil (thenN (WC_cond rfl (fun h51 => ?_) (fun h51 => ?_))))))
          · refine WC_seq (WC_region (Lq (q_field (o' := 5) Tryd.underlying31 rfl ti29 rfl rfl) (Lq (q_load1 Tryd.underlying29 rfl rfl (ownS (ownS (own0))) rfl) (Lq (q_field (o' := 3) Tryd.underlying31 rfl ti3 rfl rfl) (Lq (q_load1 Tryd.underlying3 rfl rfl (ownS (own0)) rfl) (Lq (q_move rfl) (WL_main rfl (OW_call0 (through_s Aa ca a.rs b.at_ (widthF b) ha.rs) (.cons rfl (.cons rfl (.cons rfl (.nil)))) (by decide) (memc (.tail _ (.tail _ (.head _))) mem0) fun u12_5 Lo fs hres => ?_))))))))
            obtain ⟨A3, c3, rfl, rfl, rfl⟩ := hres
            refine Lq (q_move rfl) (Lq (q_extract (vs := [_, _]) rfl rfl) (Lq (q_extract (vs := [_, _]) rfl rfl) (Lq (q_assign rfl) (Lq (q_assign rfl) (WL_nil (thenN (WC_fr [(10, _), (9, _), (7, _), (6, _), (3, _)] (.cons rfl (.cons rfl (.cons rfl (.cons rfl (.cons rfl (.nil _)))))) (WC_seq (WC_region (Lq (q_loadN (vs := [_, _, _, _, _, _, _, _, _]) Tryd.underlying31 rfl ti31 rfl (ownS (ownS (own0))) rfl rfl) (Lq (q_move rfl) ?_)))))))))))
            refine Lq (q_move rfl) (WL_main rfl (OW_call0 (ranged_s a Aa A3 ca c3 (thrF a.rs b.at_ (widthF b)).1 (thrF a.rs b.at_ (widthF b)).2) (.cons rfl (.cons rfl (.cons rfl (.nil)))) (by decide) (memc (.head _) mem0) fun u13_3 Lo fs hres => ?_))
            obtain ⟨A4, c4, rfl, rfl, rfl⟩ := hres
            refine Lq (q_extract (vs := [_, _]) rfl rfl) (Lq (q_extract (vs := [_, _]) rfl rfl) (WL_main rfl (OW_storeN (cs' := [_, _, _, _, _, _, _, _, _]) (vs := [_, _, _, _, _, _, _, _, _]) ti31 rfl rfl rfl rfl rfl (Nat.le_of_ble_eq_true rfl) (.z) (Lq (q_assign rfl) (WL_nil (thenN (WC_ret (blockRet (thenRet ?_)))))))))
            refine ⟨_, [], [RdF rgD A4 c4 (rangedF a (thrF a.rs b.at_ (widthF b)).1 (thrF a.rs b.at_ (widthF b)).2).1.rs], fun Z w hs => RV_ownN hs Tryd.underlying31 rfl ti31 rfl own0 rfl (.tmp rfl (.nil)), ?_, fun Z w hs => hs.out (List.Sublist.cons _ (List.Sublist.cons _ (List.Sublist.cons _ (List.Sublist.refl _)))) (memc (.head _) (fun _ h => .tail _ (.tail _ (.tail _ h))))⟩
            try simp only [Bp, Bq] at *
            have hF : includeF a b earlier = rangedF a (thrF a.rs b.at_ (widthF b)).1 (thrF a.rs b.at_ (widthF b)).2 := by
              unfold includeF clashF
              first | exact if_pos ‹_› | (simp_all; done) | (simp_all; omega) | (repeat' split; all_goals first | rfl | omega | (simp_all; done) | (simp_all; omega))
            exact ⟨A4, c4, by rw [hF]; rfl, rfl, by first | (rw [hF]; done) | (rw [hF]; rfl)⟩
          · refine WC_skip (blockN (thenN (WC_seq (WC_region (Lq (q_loadN (vs := [_, _, _, _, _, _, _, _, _]) Tryd.underlying31 rfl ti31 rfl (ownS (ownS (own0))) rfl rfl) (WL_main rfl (OW_call0 (clone_s a Aa ca ha.rs) (.cons rfl (.nil)) (by decide) (memc (.tail _ (.tail _ (.head _))) mem0) fun u14_1 Lo fs hres => ?_)))))))
            obtain ⟨A1, c1, rfl, rfl, rfl⟩ := hres
            refine WL_main rfl (OW_storeN (cs' := [_, _, _, _, _, _, _, _, _]) (vs := [_, _, _, _, _, _, _, _, _]) ti31 rfl rfl rfl rfl rfl (Nat.le_of_ble_eq_true rfl) (.z) (Lq (q_assign rfl) (WL_nil (thenN (WC_ret ?_)))))
            refine ⟨_, [], [RdF rgD A1 c1 a.rs], fun Z w hs => RV_ownN hs Tryd.underlying31 rfl ti31 rfl own0 rfl (.tmp rfl (.nil)), ?_, fun Z w hs => hs.out (List.Sublist.cons _ (List.Sublist.cons _ (List.Sublist.cons _ (List.Sublist.refl _)))) (memc (.head _) (fun _ h => .tail _ (.tail _ h)))⟩
            try simp only [Bp, Bq] at *
            have hF : includeF a b earlier = (a, 0) := by
              unfold includeF clashF
              first | exact if_pos ‹_› | (simp_all; done) | (simp_all; omega) | (repeat' split; all_goals first | rfl | omega | (simp_all; done) | (simp_all; omega))
            exact ⟨A1, c1, by rw [hF]; rfl, rfl, by first | (rw [hF]; done) | (rw [hF]; rfl)⟩

end Go.Proofs.YtggdddkbhigjoaaDoor
/- Walks: xform.clones. -/
namespace Go.Proofs.YtggdddkbhigjoaaDoor
open Go Go.GW
set_option maxRecDepth 10000 in
theorem clones_s (A : Option Addr) (c : Nat) (xs : List GOp) (hf : ∀ o ∈ xs, Fit o) (hl : xs.length ≤ 1000000000) : Sp Tryd.prog 47 [.slice A xs.length c] [] [RdF opD A c xs] (fun v Lo fs => ∃ p css, RowS 31 9 v xs.length css.flatten p ∧ Lo = [p] ∧ fs = [RepsF opD xs css]) := by
  refine Sp.of (n := 22) ⟨_, Tryd.func47, rfl, rfl, rfl, rfl⟩ (Nat.le_of_ble_eq_true rfl) fun Ps As => WC_seq (WC_region (Lq (q_assign rfl) (WL_nil (thenN (WC_seq (WC_region (Lq (q_move rfl) (Lq (q_len Tryd.underlying45 rfl) (WL_main rfl (OW_make0 Tryd.underlying45 ti31 rfl rfl (by omega) (by unfold maxLen; omega) (by decide) fun v0 p0 hr0 => Lq (q_assign rfl) (WL_nil (thenN (WC_seq (WC_seq (WC_region (Lq (q_move rfl) ?_))))))))))))))))
  refine Lq (q_len Tryd.underlying45 rfl) (Lq (q_move rfl) (WL_nil (thenN (WC_block (WC_fact (A := RepsF opD (xs.take 0) []) (fun Z w hs => Reps.nil) ?_)))))
  refine WC_loopE (α := Nat × Value × Part × List (List Value)) (fun (k, v, p, css) => xs.length - k)
    (fun (k, v, p, css) => [(9, .slice A xs.length c), (10, .int .i64 xs.length), (11, .int .i64 k), (3, v)])
    (fun (k, v, p, css) => (p :: Ps))
    (fun (k, v, p, css) => (RepsF opD (xs.take k) css :: RdF opD A c xs :: As))
    (fun (k, v, p, css) => k ≤ xs.length ∧ RowS 31 9 v k css.flatten p)
    (0, v0, p0, []) ?_ (.cons rfl (.cons rfl (.cons rfl (.cons rfl (.nil _))))) (List.Sublist.refl _) (fun _ h => h) ?_
  · exact ⟨Nat.zero_le _, hr0⟩
  · rintro ⟨k, v, p, css⟩ hI
    have hle : k ≤ xs.length := hI.1
    refine WC_seq (WC_region (Lq (q_lss rfl rfl) (WL_nil (thenN (WC_seq (WC_cond rfl (fun h12 => ?_) (fun h12 => ?_)))))))
    · refine WC_skip (thenN (WC_seq (WC_block (WC_seq ?_))))
      have hk : k < xs.length := by simpa using h12
      refine WC_elem (k := k) (.tail _ (.head _)) (List.getElem?_eq_getElem hk) (op_open _) fun b4 q4 y4 e4 => ?_
      cases e4
      refine WC_region (Lq (q_idxRd Tryd.underlying45 ti31 rfl rfl (by omega) (by omega)) (Lq (q_loadFN (k := 0) (vs := [_, _, _, _, _, _, _, _, _]) Tryd.underlying31 rfl ti31 rfl (.head _) rfl rfl rfl) (WL_main rfl (OW_alloc (cs := [_, _, _, _, _, _, _, _, _]) ti31 rfl (by decide) fun b5 => WL_main rfl (OW_storeN (cs' := [_, _, _, _, _, _, _, _, _]) (vs := [_, _, _, _, _, _, _, _, _]) ti31 rfl rfl rfl rfl rfl (Nat.le_of_ble_eq_true rfl) (.z) (WL_nil (thenN (WC_region (Lq (q_move rfl) (Lq (q_loadN (vs := [_, _, _, _, _, _, _, _, _]) Tryd.underlying31 rfl ti31 rfl own0 rfl rfl) (WL_main rfl (OW_call0 (clone_s xs[k] y4.1 y4.2 (hf _ (List.getElem_mem hk)).rs) (.cons rfl (.nil)) (by decide) (memc (.tail _ (.head _)) mem0) fun u5_2 Lo fs hres => ?_))))))))))))
      obtain ⟨A1, c1, rfl, rfl, rfl⟩ := hres
      refine WL_main rfl (OW_slice1 (cs := [_, _, _, _, _, _, _, _, _]) Tryd.underlying45 ti31 (by decide) (by decide) rfl rfl rfl rfl (by decide) fun b18 => WL_main rfl (OW_append1 (news := [_, _, _, _, _, _, _, _, _]) Tryd.underlying45 ti31 rfl (by decide) rfl rfl hI.2.row own0 rfl rfl (by omega) (by unfold maxLen; omega) (by decide) (DelAt.perm (.s (.s (.z)))) fun v19 p19 hr19 => Lq (q_assign rfl) (WL_nil (blockN (thenN (WC_repsAdd (u := xs[k]) (cs := opC xs[k] A1 c1) (.tail _ (.tail _ (.tail _ (.head _)))) (fun Z w hs => ⟨A1, c1, rfl, hs.facts _ (.head _)⟩) (List.take_succ_eq_append_getElem hk) (WC_region (Lq (q_add rfl rfl (wr64 (by omega))) (Lq (q_move rfl) (WL_nil (thenK ?_)))))))))))
      refine ⟨(k + 1, v19, p19, css ++ [opC xs[k] A1 c1]), ?_, (.cons rfl (.cons rfl (.cons rfl (.cons rfl (.nil _))))), (List.Sublist.cons_cons _ (List.Sublist.cons _ (List.Sublist.cons _ (List.Sublist.refl _)))), (memc (.head _) (fun _ h => .tail _ (.tail _ (.tail _ (.tail _ (.tail _ h))))))⟩
      refine ⟨by show xs.length - (k + 1) < xs.length - k; omega, by show k + 1 ≤ xs.length; omega, ?_⟩
      have := hr19.toS (by omega)
      rw [List.flatten_append, show [opC xs[k] A1 c1].flatten = opC xs[k] A1 c1 from by simp]
      exact this
    · refine WC_exit (thenExit (thenExit (blockHit (thenN (WC_seq (WC_region (Lq (q_move rfl) (Lq (q_assign rfl) (WL_nil (thenN (WC_ret ?_)))))))))))
      refine ⟨_, [p], [RepsF opD (xs.take k) css], fun Z w hs => .tmp rfl (.nil), ?_, fun Z w hs => hs.out (List.Sublist.cons_cons _ (List.Sublist.refl _)) (fun _ h => h)⟩
      try simp only [Bp, Bq] at *
      obtain rfl : k = xs.length := by omega
      exact ⟨p, css, hI.2, rfl, by rw [List.take_length]⟩

end Go.Proofs.YtggdddkbhigjoaaDoor
/- Walks: xform.Cross. -/
namespace Go.Proofs.YtggdddkbhigjoaaDoor
open Go Go.GW
set_option maxRecDepth 10000 in
theorem cross_s (A B : Option Addr) (c d : Nat) (xs ys : List GOp) (hx : ∀ o ∈ xs, Fit o) (hy : ∀ o ∈ ys, Fit o) (hlx : xs.length ≤ 1000000000) (hly : ys.length ≤ 1000000000) : Sp Tryd.prog 21 [.slice A xs.length c, .slice B ys.length d] [] [barF, RdF opD A c xs, RdF opD B d ys] (CrP (crossF xs ys)) := by
  refine Sp.of (n := 71) ⟨_, Tryd.func21, rfl, rfl, rfl, rfl⟩ (Nat.le_of_ble_eq_true rfl) fun Ps As => WC_seq (WC_region (Lq (q_assign rfl) (Lq (q_assign rfl) (Lq (q_assign rfl) (WL_nil (thenN (WC_seq (WC_seq (WC_fact (A := RdF opD none 0 []) (fun Z w hs => RdS.nil _ _ _) (WC_region (Lq (q_move rfl) (WL_main rfl (OW_call0 (owns_s A c xs hx (by omega)) (.cons rfl (.nil)) (by decide) (memc (.tail _ (.head _)) (memc (.tail _ (.tail _ (.head _))) mem0)) fun u1_1 Lo fs hres => ?_)))))))))))))
  obtain ⟨rfl, rfl, rfl⟩ := hres
  refine Lq (q_assign rfl) (WL_nil (thenN (WC_seq (WC_region (Lq (q_move rfl) (Lq (q_neq rfl rfl) (WL_nil (thenN (WC_cond rfl (fun h14 => ?_) (fun h14 => ?_))))))))))
  · refine WC_seq (WC_region (Lq (q_move rfl) (Lq (q_assign rfl) (Lq (q_assign rfl) (Lq (q_assign rfl) (WL_nil (thenN (WC_ret (thenRet ?_)))))))))
    refine ⟨_, [], [RdF opD none 0 [], RdF opD none 0 []], fun Z w hs => .tmp rfl (.tmp rfl (.tmp rfl (.nil))), ?_, fun Z w hs => hs.out (List.Sublist.refl _) (memc (.head _) (memc (.head _) (fun _ h => .tail _ h)))⟩
    try simp only [Bp, Bq] at *
    have hF : crossF xs ys = _ := crossF_1 (by omega)
    exact ⟨none, 0, none, 0, by rw [hF]; rfl, rfl, by rw [hF]⟩
  · refine WC_skip (thenN (WC_seq (WC_seq (WC_region (Lq (q_move rfl) (WL_main rfl (OW_call0 (owns_s B d ys hy (by omega)) (.cons rfl (.nil)) (by decide) (memc (.tail _ (.head _)) (memc (.tail _ (.tail _ (.tail _ (.head _)))) mem0)) fun u4_1 Lo fs hres => ?_)))))))
    obtain ⟨rfl, rfl, rfl⟩ := hres
    refine Lq (q_assign rfl) (WL_nil (thenN (WC_seq (WC_region (Lq (q_move rfl) (Lq (q_neq rfl rfl) (WL_nil (thenN (WC_cond rfl (fun h19 => ?_) (fun h19 => ?_))))))))))
    · refine WC_seq (WC_region (Lq (q_move rfl) (Lq (q_assign rfl) (Lq (q_assign rfl) (Lq (q_assign rfl) (WL_nil (thenN (WC_fr [(6, _), (5, _), (4, _), (0, _), (1, _)] (.cons rfl (.cons rfl (.cons rfl (.cons rfl (.cons rfl (.nil _)))))) (WC_ret (thenRet ?_))))))))))
      refine ⟨_, [], [RdF opD none 0 [], RdF opD none 0 []], fun Z w hs => .tmp rfl (.tmp rfl (.tmp rfl (.nil))), ?_, fun Z w hs => hs.out (List.Sublist.refl _) (memc (.head _) (memc (.head _) (fun _ h => .tail _ h)))⟩
      try simp only [Bp, Bq] at *
      have hF : crossF xs ys = _ := crossF_2 (by omega) (by omega)
      exact ⟨none, 0, none, 0, by rw [hF]; rfl, rfl, by rw [hF]⟩
    · refine WC_skip (thenN (WC_seq (WC_region (Lq (q_move rfl) (WL_main rfl (OW_call0 (clones_s A c xs hx hlx) (.cons rfl (.nil)) (by decide) (memc (.tail _ (.tail _ (.head _))) mem0) fun u7_1 Lo fs hres => ?_))))))
      obtain ⟨pF0, cssF0, hF0, rfl, rfl⟩ := hres
      refine Lq (q_assign rfl) (WL_nil (thenN (WC_fr [(4, _), (6, _), (5, _), (1, _)] (.cons rfl (.cons rfl (.cons rfl (.cons rfl (.nil _))))) (WC_seq (WC_region (Lq (q_move rfl) (WL_main rfl (OW_call0 (clones_s B d ys hy hly) (.cons rfl (.nil)) (by decide) (memc (.tail _ (.tail _ (.tail _ (.tail _ (.head _))))) mem0) fun u8_1 Lo fs hres => ?_))))))))
      obtain ⟨pL0, cssL0, hL0, rfl, rfl⟩ := hres
      refine Lq (q_assign rfl) (WL_nil (thenN (WC_seq (WC_seq ?_))))
      try simp only [Bp, Bq] at *
      obtain ⟨hF1, bF, cF, jF, rfl, rfl, hF2, hF3, hF4⟩ := hF0
      obtain ⟨hL1, bL, cL, jL, rfl, rfl, hL2, hL3, hL4⟩ := hL0
      refine WC_region (Lq (q_move rfl) (Lq (q_len Tryd.underlying45 rfl) (Lq (q_move rfl) (WL_nil (thenN (WC_block ?_))))))
      refine WC_loopE (α := Nat × List GOp × List GOp × List (List Value) × List (List Value)) (fun (i, F, L, cssF, cssL) => ys.length - i)
        (fun (i, F, L, cssF, cssL) => [(4, .slice (some ⟨bF, 0, none⟩) xs.length cF), (5, .slice (some ⟨bL, 0, none⟩) ys.length cL), (26, .int .i64 ys.length), (27, .int .i64 i)])
        (fun (i, F, L, cssF, cssL) => ([(bL, cellsO (cssL.flatten ++ jL) 31)] :: [(bF, cellsO (cssF.flatten ++ jF) 31)] :: Ps))
        (fun (i, F, L, cssF, cssL) => (RepsF opD L cssL :: RepsF opD F cssF :: RdF opD none 0 [] :: barF :: RdF opD A c xs :: RdF opD B d ys :: As))
        (fun (i, F, L, cssF, cssL) => CoI xs ys F L i)
        (0, xs, ys, cssF0, cssL0) ?_ (.cons rfl (.cons rfl (.cons rfl (.cons rfl (.nil _))))) (List.Sublist.cons_cons _ (List.Sublist.cons_cons _ (List.Sublist.refl _))) (fun _ h => h) ?_
      · exact CoI.zero hx hy
      · rintro ⟨i, F, L, cssF, cssL⟩ hI
        refine WC_seq (WC_region (Lq (q_lss rfl rfl) (WL_nil (thenN (WC_seq (WC_cond rfl (fun h28 => ?_) (fun h28 => ?_)))))))
        · refine WC_skip (thenN (WC_seq (WC_block (WC_seq (WC_region (Lq (q_move rfl) (Lq (q_assign rfl) (WL_nil (thenN (WC_seq (WC_region (Lq (q_move rfl) (Lq (q_len Tryd.underlying45 rfl) (Lq (q_move rfl) (WL_nil (thenN (WC_block ?_)))))))))))))))))
          have hi : i < L.length := by simp only [decide_eq_true_eq] at h28; have := hI.lenL; omega
          refine WC_fact (A := RepsF opD (L.set i L[i]) cssL) (fun Z w hs => by rw [List.set_getElem_self]; exact hs.facts _ (.head _)) ?_
          refine WC_loopE (α := Nat × List GOp × GOp × List (List Value) × List (List Value)) (fun (k, G, l, cssG, cssM) => xs.length - k)
            (fun (k, G, l, cssG, cssM) => [(4, .slice (some ⟨bF, 0, none⟩) xs.length cF), (5, .slice (some ⟨bL, 0, none⟩) ys.length cL), (26, .int .i64 ys.length), (27, .int .i64 i), (7, .int .i64 i), (31, .int .i64 xs.length), (32, .int .i64 k)])
            (fun (k, G, l, cssG, cssM) => ([(bL, cellsO (cssM.flatten ++ jL) 31)] :: [(bF, cellsO (cssG.flatten ++ jF) 31)] :: Ps))
            (fun (k, G, l, cssG, cssM) => (RepsF opD (L.set i l) cssM :: RepsF opD G cssG :: RdF opD none 0 [] :: barF :: RdF opD A c xs :: RdF opD B d ys :: As))
            (fun (k, G, l, cssG, cssM) => CiI L[i] F G l k)
            (0, F, L[i], cssF, cssL) ?_ (.cons rfl (.cons rfl (.cons rfl (.cons rfl (.cons rfl (.cons rfl (.cons rfl (.nil _)))))))) (List.Sublist.cons_cons _ (List.Sublist.cons_cons _ (List.Sublist.refl _))) (memc (.head _) (fun _ h => .tail _ (.tail _ h))) ?_
          · exact CiI.zero hI.fitF (hI.fitL _ (List.getElem_mem hi))
          · rintro ⟨k, G, l, cssG, cssM⟩ hI2
            refine WC_seq (WC_region (Lq (q_lss rfl rfl) (WL_nil (thenN (WC_seq (WC_cond rfl (fun h33 => ?_) (fun h33 => ?_)))))))
            · refine WC_skip (thenN (WC_seq (WC_block (WC_seq (WC_region (Lq (q_move rfl) (Lq (q_assign rfl) (WL_nil (thenN (WC_seq ?_))))))))))
              have hk : k < G.length := by simp only [decide_eq_true_eq] at h33; have := hI.lenF; have := hI2.len; omega
              have hi2 : i < ys.length := by have := hI.lenL; omega
              have hk2 : k < xs.length := by have := hI.lenF; have := hI2.len; omega
              refine WC_reps (k := i) (u := l) (.head _) (by simp [hi]) (op_open _) fun yl hyl => WC_reps (k := k) (.tail _ (.tail _ (.head _))) (List.getElem?_eq_getElem hk) (op_open _) fun yf hyf => ?_
              refine WC_repsLen (.tail _ (.tail _ (.head _))) fun hlM hlsM => WC_repsLen (.tail _ (.tail _ (.tail _ (.head _)))) fun hlG hlsG => ?_
              rw [List.length_set] at hlM
              refine WC_draw _ _ [11] (.c 0 0 (.c 1 0 (.c 2 0 (.c 3 0 (.c 4 0 (.c 5 0 (.c 6 0 (.c 7 0 (.c 8 4 (.c 9 4 (.c 10 2 (.c 11 3 .nil)))))))))))) mixed (fun _ _ _ _ h => h) (List.Sublist.cons_cons _ (List.Sublist.cons_cons _ (List.Sublist.refl _))) (fun _ h => h) (by kernel_rfl) (by decide) fun ws Z0 => Qe rfl (q_move rfl) (Qe rfl (q_move rfl) (Qe rfl (q_idxOwn Tryd.underlying45 ti31 rfl rfl (by omega) (by omega)) (Qe rfl (q_loadR (i := i) Tryd.underlying31 rfl ti31 rfl (by simp) own0 hlsM hyl) (Qe rfl (q_move rfl) (Qe rfl (q_move rfl) (Qe rfl (q_idxOwn Tryd.underlying45 ti31 rfl rfl (by omega) (by omega)) (Qe rfl (q_loadR (i := k) Tryd.underlying31 rfl ti31 rfl (by simp) (ownS (own0)) hlsG hyf) ?_)))))))
              refine WE_alloc2 rfl rfl (cs1 := [_, _, _, _, _, _, _, _, _]) (cs2 := [_, _, _, _, _, _, _, _, _]) ti31 rfl ti31 rfl (by decide) (by decide) (by decide) (List.Sublist.cons_cons _ (List.Sublist.cons_cons _ (List.Sublist.refl _))) (.head _) fun b9 b10 => WE_main rfl rfl (OW_storeN (cs' := [_, _, _, _, _, _, _, _, _]) (vs := [_, _, _, _, _, _, _, _, _]) ti31 rfl rfl rfl rfl rfl (Nat.le_of_ble_eq_true rfl) (.s (.z)) ?_)
              refine ⟨⟨(List.Sublist.cons _ (List.Sublist.cons _ (List.Sublist.cons_cons _ (List.Sublist.cons_cons _ (List.Sublist.refl _))))), (.head _)⟩, ?_⟩
              refine WE_end (WF_last rfl rfl (OW_storeN (cs' := [_, _, _, _, _, _, _, _, _]) (vs := [_, _, _, _, _, _, _, _, _]) ti31 rfl rfl rfl rfl rfl (Nat.le_of_ble_eq_true rfl) (.z) (WF_nil (thenN (WC_seq (WC_seq (WC_region (Lq (q_move rfl) (Lq (q_move rfl) (Lq (q_loadN (vs := [_, _, _, _, _, _, _, _, _]) Tryd.underlying31 rfl ti31 rfl (ownS (own0)) rfl rfl) (Lq (q_loadN (vs := [_, _, _, _, _, _, _, _, _]) Tryd.underlying31 rfl ti31 rfl own0 rfl rfl) (WL_main rfl (OW_call0 (include_s l G[k] yl.1 yf.1 yl.2 yf.2 true hI2.fitl (hI2.fit _ (List.getElem_mem hk))) (.cons rfl (.cons rfl (.cons rfl (.nil)))) (by decide) (memc (.tail _ (.tail _ (.tail _ (.tail _ (.tail _ (.tail _ (.head _))))))) (memc (.tail _ (.tail _ (.head _))) mem0)) fun u16_4 Lo fs hres => ?_)))))))))))))
              obtain ⟨A1, c1, rfl, rfl, rfl⟩ := hres
              refine Lq (q_move rfl) (Lq (q_extract (vs := [_, _]) rfl rfl) (Lq (q_extract (vs := [_, _]) rfl rfl) (Lq (q_idxOwn Tryd.underlying45 ti31 rfl rfl (by omega) (by omega)) (WL_main rfl (OW_storeR (i := i) (c := opC (includeF l G[k] true).1 A1 c1) ti31 rfl (by simp) rfl rfl rfl hlsM (by omega) (.s (.s (.z))) (WL_repsSet (xs' := L.set i (includeF l G[k] true).1) i (.tail _ (.tail _ (.tail _ (.tail _ (.head _))))) (fun Z w hs => ⟨A1, c1, rfl, hs.facts _ (.head _)⟩) (by rw [List.set_set]) (Lq (q_assign rfl) (WL_nil (thenN (WC_seq (WC_region (Lq (q_move rfl) (Lq (q_neq rfl rfl) ?_)))))))))))))
              refine WL_nil (thenN (WC_cond rfl (fun h53 => ?_) (fun h53 => ?_)))
              · refine WC_seq (WC_region (Lq (q_move rfl) (Lq (q_assign rfl) (Lq (q_assign rfl) (Lq (q_assign rfl) (WL_nil (thenN (WC_ret (thenRet (blockRet (thenRet (thenRet (blockRet (blockRet (thenRet (thenRet (blockRet (thenRet ?_))))))))))))))))))
                refine ⟨_, [], [RdF opD none 0 [], RdF opD none 0 []], fun Z w hs => .tmp rfl (.tmp rfl (.tmp rfl (.nil))), ?_, fun Z w hs => hs.out (List.Sublist.cons _ (List.Sublist.cons _ (List.Sublist.cons _ (List.Sublist.cons _ (List.Sublist.refl _))))) (memc (.tail _ (.tail _ (.tail _ (.tail _ (.tail _ (.tail _ (.tail _ (.head _)))))))) (memc (.tail _ (.tail _ (.tail _ (.tail _ (.tail _ (.tail _ (.tail _ (.head _)))))))) (fun _ h => .tail _ (.tail _ (.tail _ (.tail _ (.tail _ (.tail _ (.tail _ (.tail _ h))))))))))⟩
                try simp only [Bp, Bq] at *
                have hF : crossF xs ys = _ := crossF_3 (by omega) (by omega) (hI.err hi (hI2.err1 hk (by omega)))
                exact ⟨none, 0, none, 0, by rw [hF]; rfl, rfl, by rw [hF]⟩
              · refine WC_skip (thenN (WC_seq (WC_region (Lq (q_move rfl) (Lq (q_move rfl) (Lq (q_loadN (vs := [_, _, _, _, _, _, _, _, _]) Tryd.underlying31 rfl ti31 rfl own0 rfl rfl) (Lq (q_loadN (vs := [_, _, _, _, _, _, _, _, _]) Tryd.underlying31 rfl ti31 rfl (ownS (own0)) rfl rfl) (WL_main rfl (OW_call0 (include_s G[k] l yf.1 yl.1 yf.2 yl.2 false (hI2.fit _ (List.getElem_mem hk)) hI2.fitl) (.cons rfl (.cons rfl (.cons rfl (.nil)))) (by decide) (memc (.tail _ (.tail _ (.tail _ (.tail _ (.tail _ (.tail _ (.tail _ (.tail _ (.head _))))))))) (memc (.tail _ (.tail _ (.tail _ (.head _)))) mem0)) fun u19_4 Lo fs hres => ?_)))))))))
                obtain ⟨A2, c2, rfl, rfl, rfl⟩ := hres
                refine Lq (q_move rfl) (Lq (q_extract (vs := [_, _]) rfl rfl) (Lq (q_extract (vs := [_, _]) rfl rfl) (Lq (q_idxOwn Tryd.underlying45 ti31 rfl rfl (by omega) (by omega)) (WL_main rfl (OW_storeR (i := k) (c := opC (includeF G[k] l false).1 A2 c2) ti31 rfl (by simp) rfl rfl rfl hlsG (by omega) (.s (.s (.s (.z)))) (WL_repsSet k (.tail _ (.tail _ (.tail _ (.tail _ (.tail _ (.tail _ (.tail _ (.head _)))))))) (fun Z w hs => ⟨A2, c2, rfl, hs.facts _ (.head _)⟩) rfl (Lq (q_assign rfl) (WL_nil (thenN (WC_seq (WC_region (Lq (q_move rfl) (Lq (q_neq rfl rfl) ?_)))))))))))))
                refine WL_nil (thenN (WC_cond rfl (fun h65 => ?_) (fun h65 => ?_)))
                · refine WC_seq (WC_region (Lq (q_move rfl) (Lq (q_assign rfl) (Lq (q_assign rfl) (Lq (q_assign rfl) (WL_nil (thenN (WC_ret (blockRet (thenRet (thenRet (blockRet (blockRet (thenRet (thenRet (blockRet (thenRet ?_)))))))))))))))))
                  refine ⟨_, [], [RdF opD none 0 [], RdF opD none 0 []], fun Z w hs => .tmp rfl (.tmp rfl (.tmp rfl (.nil))), ?_, fun Z w hs => hs.out (List.Sublist.cons _ (List.Sublist.cons _ (List.Sublist.cons _ (List.Sublist.cons _ (List.Sublist.refl _))))) (memc (.tail _ (.tail _ (.tail _ (.tail _ (.tail _ (.tail _ (.tail _ (.tail _ (.tail _ (.head _)))))))))) (memc (.tail _ (.tail _ (.tail _ (.tail _ (.tail _ (.tail _ (.tail _ (.tail _ (.tail _ (.head _)))))))))) (fun _ h => .tail _ (.tail _ (.tail _ (.tail _ (.tail _ (.tail _ (.tail _ (.tail _ (.tail _ (.tail _ h))))))))))))⟩
                  try simp only [Bp, Bq] at *
                  have hF : crossF xs ys = _ := crossF_3 (by omega) (by omega) (hI.err hi (hI2.err2 hk (by omega) (by omega)))
                  exact ⟨none, 0, none, 0, by rw [hF]; rfl, rfl, by rw [hF]⟩
                · refine WC_skip (blockN (thenN (WC_region (Lq (q_add rfl rfl (wr64 (by omega))) (Lq (q_move rfl) (WL_nil (thenK ?_)))))))
                  refine ⟨(k + 1, G.set k (includeF G[k] l false).1, (includeF l G[k] true).1, cssG.set k (opC (includeF G[k] l false).1 A2 c2), cssM.set i (opC (includeF l G[k] true).1 A1 c1)), ?_, (.cons rfl (.cons rfl (.cons rfl (.cons rfl (.cons rfl (.cons rfl (.cons rfl (.nil _)))))))), (List.Sublist.cons _ (List.Sublist.cons _ (List.Sublist.cons_cons _ (List.Sublist.cons_cons _ (List.Sublist.refl _))))), (memc (.tail _ (.tail _ (.head _))) (memc (.head _) (fun _ h => .tail _ (.tail _ (.tail _ (.tail _ (.tail _ (.tail _ (.tail _ (.tail _ (.tail _ h)))))))))))⟩
                  try simp only [Bp, Bq] at *
                  exact ⟨by show xs.length - (k + 1) < xs.length - k; omega, hI2.next hk (by omega) (by omega)⟩
            · refine WC_exit (thenExit (thenExit (blockHit (blockN (thenN (WC_region (Lq (q_add rfl rfl (wr64 (by have := hI.lenL; omega))) (Lq (q_move rfl) (WL_nil (thenK ?_))))))))))
              refine ⟨(i + 1, G, L.set i l, cssG, cssM), ?_, (.cons rfl (.cons rfl (.cons rfl (.cons rfl (.nil _))))), (List.Sublist.cons_cons _ (List.Sublist.cons_cons _ (List.Sublist.refl _))), (fun _ h => h)⟩
              try simp only [Bp, Bq] at *
              exact ⟨by show ys.length - (i + 1) < ys.length - i; omega, hI.next hi (hI2.done (by have := hI.lenF; have := hI2.len; omega)) hI2.len hI2.fit hI2.fitl⟩
        · refine WC_exit (thenExit (thenExit (blockHit (thenN (WC_seq ?_)))))
          try simp only [Bp, Bq] at *
          have hcr := hI.done (by have := hI.lenL; omega)
          refine WC_repsLen (.head _) fun hlL hlsL => WC_repsLen (.tail _ (.head _)) fun hlF hlsF => WC_freeze (e := opD) (css := cssL) (xs := L) (Row.again hL1 hL2 hL3 hL4 (by have := hI.lenL; omega) hlsL) (.z) (by have := hI.lenL; omega) (.head _) fun AL cL' eL => ?_
          obtain ⟨rfl, _, rfl⟩ := Value.slice.inj eL
          refine WC_freeze (e := opD) (css := cssF) (xs := F) (Row.again hF1 hF2 hF3 hF4 (by have := hI.lenF; omega) hlsF) (.z) (by have := hI.lenF; omega) (.tail _ (.tail _ (.head _))) fun AF cF' eF => ?_
          obtain ⟨rfl, _, rfl⟩ := Value.slice.inj eF
          refine WC_region (Lq (q_move rfl) (Lq (q_move rfl) (Lq (q_assign rfl) (Lq (q_assign rfl) (Lq (q_assign rfl) (WL_nil (thenN (WC_ret ?_))))))))
          refine ⟨_, [], [RdF opD (some ⟨bF, 0, none⟩) cF F, RdF opD (some ⟨bL, 0, none⟩) cL L], fun Z w hs => .tmp rfl (.tmp rfl (.tmp rfl (.nil))), ?_, fun Z w hs => hs.out (List.Sublist.refl _) (memc (.head _) (memc (.tail _ (.head _)) (fun _ h => .tail _ (.tail _ (.tail _ (.tail _ (.tail _ h)))))))⟩
          have hF := crossF_4 (by omega) (by omega) hcr
          exact ⟨some ⟨bF, 0, none⟩, cF, some ⟨bL, 0, none⟩, cL, by rw [hF, hI.lenF, hI.lenL]; rfl, rfl, by rw [hF]⟩

end Go.Proofs.YtggdddkbhigjoaaDoor
/- Walks: history, what it tells of itself. -/
namespace Go.Proofs.YtggdddkbhigjoaaDoor
open Go Go.GW
theorem ops_len (H : Hist) : H.ops.length = H.ents.length := by simp [Hist.ops]
theorem ops_at {H : Hist} {k : Nat} (h : k < H.ents.length) : H.ops[k]'(by rw [ops_len]; exact h) = H.ents[k].op := by simp [Hist.ops]
theorem bd97_1Xw12 (x1_ : Option Nat) (w : World) : (Instr.build 97 #[(1, .map x1_)]).run Tryd.prog w = .ok (.agg #[.slice none 0 0, .map x1_, .int .i64 0]) w := by kernel_rfl

set_option maxRecDepth 10000 in
theorem new_s : Sp Tryd.prog 9 [] [] [] (fun v Lo fs => ∃ h m, v = .pointer (some ⟨h, 0, none⟩) ∧ Lo = [hdP h none 0 0 m 0, mpP m [], mkP []] ∧ fs = [RdF opD none 0 [], AllF ([] : List MR) nowF]) := by
  refine Sp.of (n := 4) ⟨_, Tryd.func9, rfl, rfl, rfl, rfl⟩ (Nat.le_of_ble_eq_true rfl) fun Ps As => WC_seq (WC_region (Lq (q_assign rfl) (WL_nil (thenN (WC_seq (WC_nilPart (WC_fact (A := AllF ([] : List MR) nowF) (fun Z w hs x hx => by cases hx) (WC_fact (A := RdF opD none 0 []) (fun Z w hs => RdS.nil _ _ _) (WC_region (WL_main rfl (OW_makeMap (by decide) fun b1 => Lq (q_build (.cons rfl (.nil)) (bd97_1Xw12 _)) ?_)))))))))))
  refine WL_main rfl (OW_box (cs := [_, _, _]) rfl rfl (by decide) fun b3 => Lq (q_assign rfl) (WL_nil (thenN (WC_ret ?_))))
  refine ⟨_, [_, _, _], [_, _], fun Z w hs => .tmp rfl (.nil), ?_, fun Z w hs => hs.out (List.Sublist.cons_cons _ (List.Sublist.cons_cons _ (List.Sublist.cons_cons _ (List.Sublist.refl _)))) (fun _ h => h)⟩
  exact ⟨b3, b1, rfl, rfl, rfl⟩


set_option maxRecDepth 10000 in
theorem hlen_s (h m len cap : Nat) (A : Option Addr) (total : Int) : Sp Tryd.prog 13 [.pointer (some ⟨h, 0, none⟩)] [hdP h A len cap m total] [] (fun v Lo fs => v = .int .i64 len ∧ Lo = [hdP h A len cap m total] ∧ fs = []) := by
  refine Sp.of (n := 8) ⟨_, Tryd.func13, rfl, rfl, rfl, rfl⟩ (Nat.le_of_ble_eq_true rfl) fun Ps As => WC_seq (WC_region (Lq (q_assign rfl) (WL_nil (thenN (WC_seq (WC_region (Lq (q_move rfl) (Lq (q_nil rfl) (Lq (q_field (o' := 0) Tryd.underlying97 rfl ti45 rfl rfl) (Lq (q_load1 Tryd.underlying45 rfl rfl own0 rfl) (Lq (q_len Tryd.underlying45 rfl) (Lq (q_assign rfl) ?_))))))))))))
  refine WL_nil (thenN (WC_ret ?_))
  refine ⟨_, [_], [], fun Z w hs => .tmp rfl (.nil), ?_, fun Z w hs => hs.out (List.Sublist.cons_cons _ (List.Sublist.refl _)) (fun _ h => h)⟩
  exact ⟨rfl, rfl, rfl⟩


set_option maxRecDepth 10000 in
theorem htotal_s (h m len cap : Nat) (A : Option Addr) (total : Int) : Sp Tryd.prog 14 [.pointer (some ⟨h, 0, none⟩)] [hdP h A len cap m total] [] (fun v Lo fs => v = .int .i64 total ∧ Lo = [hdP h A len cap m total] ∧ fs = []) := by
  refine Sp.of (n := 7) ⟨_, Tryd.func14, rfl, rfl, rfl, rfl⟩ (Nat.le_of_ble_eq_true rfl) fun Ps As => WC_seq (WC_region (Lq (q_assign rfl) (WL_nil (thenN (WC_seq (WC_region (Lq (q_move rfl) (Lq (q_nil rfl) (Lq (q_field (o' := 2) Tryd.underlying97 rfl ti3 rfl rfl) (Lq (q_load1 Tryd.underlying3 rfl rfl own0 rfl) (Lq (q_assign rfl) (WL_nil (thenN (WC_ret ?_))))))))))))))
  refine ⟨_, [_], [], fun Z w hs => .tmp rfl (.nil), ?_, fun Z w hs => hs.out (List.Sublist.cons_cons _ (List.Sublist.refl _)) (fun _ h => h)⟩
  exact ⟨rfl, rfl, rfl⟩


set_option maxRecDepth 10000 in
theorem before_s (h m cap : Nat) (A : Option Addr) (H : Hist) (L : List MR) (hr : HR H L) (i : Nat) (hi : i ≤ H.ents.length) : Sp Tryd.prog 66 [.pointer (some ⟨h, 0, none⟩), .int .i64 i] [hdP h A H.ops.length cap m H.total] [barF, RdF opD A cap H.ops] (fun v Lo fs => v = .int .i64 (beforeF H i) ∧ Lo = [hdP h A H.ops.length cap m H.total] ∧ fs = []) := by
  have hol := ops_len H
  have hlen := hr.len
  refine Sp.of (n := 25) ⟨_, Tryd.func66, rfl, rfl, rfl, rfl⟩ (Nat.le_of_ble_eq_true rfl) fun Ps As => WC_seq (WC_region (Lq (q_assign rfl) (WL_nil (thenN (WC_seq (WC_region (Lq (q_assign rfl) (WL_nil (thenN (WC_seq (WC_seq (WC_capLe (.tail _ (.head _)) fun hcap hcap2 => ?_))))))))))))
  obtain ⟨B, hB⟩ : ∃ B, B = cutA A 0 cap 9 := ⟨_, rfl⟩
  refine WC_fact (A := RdF opD B cap (H.ops.take i)) (fun Z w hs => by rw [hB]; exact RdS.cut (lo := 0) (hi := i) (m := cap) (hs.facts _ (.tail _ (.head _))) (Nat.zero_le _) (by omega) (by omega) (Nat.le_refl _)) (WC_region (Lq (q_move rfl) (Lq (q_nil rfl) (Lq (q_field (o' := 0) Tryd.underlying97 rfl ti45 rfl rfl) (Lq (q_load1 Tryd.underlying45 rfl rfl own0 rfl) (Lq (q_move rfl) (Lq (q_cutHi Tryd.underlying45 ti31 rfl rfl (by omega) (by omega)) (Lq (q_len Tryd.underlying45 rfl) (Lq (q_move rfl) ?_)))))))))
  refine WL_nil (thenN (WC_block ?_))
  refine WC_loopE (α := Nat) (fun k => i - k)
    (fun k => [(5, .int .i64 (sumW (H.ents.take k))), (13, .slice B i cap), (14, .int .i64 i), (15, .int .i64 k)])
    (fun k => (hdP h A H.ops.length cap m H.total :: Ps))
    (fun k => (RdF opD B cap (H.ops.take i) :: barF :: RdF opD A cap H.ops :: As))
    (fun k => k ≤ i)
    0 ?_ (.cons rfl (.cons (by rw [hB]; rfl) (.cons rfl (.cons rfl (.nil _))))) (List.Sublist.cons_cons _ (List.Sublist.refl _)) (fun _ h => h) ?_
  · exact Nat.zero_le _
  · rintro k hI
    refine WC_seq (WC_region (Lq (q_lss rfl rfl) (WL_nil (thenN (WC_seq (WC_cond rfl (fun h16 => ?_) (fun h16 => ?_)))))))
    · refine WC_skip (thenN (WC_seq (WC_block (WC_seq ?_))))
      try simp only [Bp, Bq] at *
      have hk : k < (H.ops.take i).length := by rw [List.length_take]; omega
      have hke : k < H.ents.length := by rw [List.length_take] at hk; omega
      have hop : (H.ops.take i)[k] = H.ents[k].op := by rw [List.getElem_take, ops_at]
      refine WC_elem (k := k) (.head _) (List.getElem?_eq_getElem hk) (op_open _) fun b4 q4 y4 e4 => ?_
      cases e4
      refine WC_region (Lq (q_idxRd Tryd.underlying45 ti31 rfl rfl (by omega) (by omega)) (Lq (q_loadFN (k := 0) (vs := [_, _, _, _, _, _, _, _, _]) Tryd.underlying31 rfl ti31 rfl (.head _) rfl rfl rfl) (WL_main rfl (OW_alloc (cs := [_, _, _, _, _, _, _, _, _]) ti31 rfl (by decide) fun b7 => WL_main rfl (OW_storeN (cs' := [_, _, _, _, _, _, _, _, _]) (vs := [_, _, _, _, _, _, _, _, _]) ti31 rfl rfl rfl rfl rfl (Nat.le_of_ble_eq_true rfl) (.z) (WL_nil (thenN (WC_region (Lq (q_move rfl) (Lq (q_loadN (vs := [_, _, _, _, _, _, _, _, _]) Tryd.underlying31 rfl ti31 rfl own0 rfl rfl) (WL_main rfl (OW_call0 (width_s (H.ops.take i)[k] y4.1 y4.2 (by have := (hr.fit _ (List.getElem_mem hke)).text; rw [hop]; omega)) (.cons rfl (.nil)) (by decide) (memc (.tail _ (.tail _ (.tail _ (.head _)))) mem0) fun u5_2 Lo fs hres => ?_))))))))))))
      obtain ⟨rfl, rfl, rfl⟩ := hres
      refine Lq (q_add rfl rfl (wr64 (by have h1 := sumW_le (H.ents.take k) (fun e he => hr.wid e (List.mem_of_mem_take he)); have h2 := hr.wid _ (List.getElem_mem hke); have h3 := widthF_le (H.ops.take i)[k]; rw [hop] at h3; rw [hop]; rw [List.length_take] at h1; omega))) (Lq (q_assign rfl) (WL_nil (blockN (thenN (WC_region (Lq (q_add rfl rfl (wr64 (by omega))) (Lq (q_move rfl) (WL_nil (thenK ?_)))))))))
      have hsum : sumW (H.ents.take k) + widthF (H.ops.take i)[k] = sumW (H.ents.take (k + 1)) := by
        rw [List.take_succ_eq_append_getElem hke, sumW_append, hop]; simp [sumW]
      refine ⟨k + 1, ?_, (.cons (congrArg (fun z => some (Value.int .i64 z)) hsum) (.cons rfl (.cons rfl (.cons rfl (.nil _))))), (List.Sublist.cons _ (List.Sublist.cons_cons _ (List.Sublist.refl _))), (fun _ h => .tail _ (.tail _ h))⟩
      exact ⟨by omega, by omega⟩
    · refine WC_exit (thenExit (thenExit (blockHit (thenN (WC_seq (WC_region (Lq (q_move rfl) (Lq (q_assign rfl) (WL_nil (thenN (WC_ret ?_)))))))))))
      try simp only [Bp, Bq] at *
      obtain rfl : k = i := by omega
      refine ⟨_, [_], [], fun Z w hs => .tmp rfl (.nil), ?_, fun Z w hs => hs.out (List.Sublist.cons_cons _ (List.Sublist.refl _)) (fun _ h => .tail _ h)⟩
      exact ⟨rfl, rfl, rfl⟩

end Go.Proofs.YtggdddkbhigjoaaDoor
/- Walks: history.fits. -/
namespace Go.Proofs.YtggdddkbhigjoaaDoor
open Go Go.GW
theorem keyT : KeyT Tryd.prog 25 := ⟨⟨3, _, _, Tryd.underlying25, Tryd.underlying3, ti3⟩, eq25⟩
theorem bd25Xw13  (w : World) : (Instr.build 25 #[]).run Tryd.prog w = .ok (.agg #[.int .i64 0, .int .i64 0]) w := by kernel_rfl

set_option maxRecDepth 10000 in
theorem fits_s (h m cap : Nat) (A : Option Addr) (H : Hist) (L : List MR) (hr : HR H L) (i : Int) (o : GOp) (Ao : Option Addr) (co : Nat) (ho : Fit o) : Sp Tryd.prog 39 [.pointer (some ⟨h, 0, none⟩), .int .i64 i, opV o Ao co] [hdP h A H.ops.length cap m H.total, mpP m L, mkP L] [barF, RdF opD A cap H.ops, RdF rgD Ao co o.rs] (HIs (.int .i64 (fitsF H i o)) [hdP h A H.ops.length cap m H.total, mpP m L, mkP L]) := by
  have hol := ops_len H
  have hlen := hr.len
  refine Sp.of (n := 91) ⟨_, Tryd.func39, rfl, rfl, rfl, rfl⟩ (Nat.le_of_ble_eq_true rfl) fun Ps As => WC_seq (WC_region (WL_main rfl (OW_box (cs := [_, _, _, _, _, _, _, _, _]) rfl rfl (by decide) fun b5 => Lq (q_assign rfl) (WL_nil (thenN (WC_seq (WC_seq (WC_region (Lq (q_move rfl) (Lq (q_lss rfl rfl) (Lq (q_move rfl) (WL_guard (t := 11) rfl (fun g11 => ?_) (fun g11 => ?_)))))))))))))
  · refine Ln rfl rfl rfl g11 (Ln rfl rfl rfl g11 (Ln rfl rfl rfl g11 (Ln rfl rfl rfl g11 (Ln rfl rfl rfl g11 (Ln rfl rfl rfl g11 (Ln rfl rfl rfl g11 (Lq (q_pickT rfl g11 rfl) (WL_nil (thenN (WC_fr [(19, _), (6, _), (5, _), (0, _), (1, _)] (.cons rfl (.cons rfl (.cons rfl (.cons rfl (.cons rfl (.nil _)))))) ?_))))))))))
    refine WC_true rfl rfl (WC_seq (WC_region (Lq (q_assign rfl) (WL_nil (thenN (WC_ret (thenRet ?_)))))))
    refine ⟨_, [_, _, _], [], fun Z w hs => .tmp rfl (.nil), ?_, fun Z w hs => hs.out (List.Sublist.cons _ (List.Sublist.cons_cons _ (List.Sublist.cons_cons _ (List.Sublist.cons_cons _ (List.Sublist.refl _))))) (fun _ h => h)⟩
    try simp only [Bp, Bq] at *
    refine ⟨congrArg (Value.int .i64) ?_, rfl, rfl⟩
    unfold fitsF fitsT fitsRest
    first | (simp_all; done) | (simp_all; omega) | (repeat' split; all_goals first | rfl | omega | (simp_all; done) | (simp_all; omega))
  · refine Lg rfl rfl rfl g11 (q_move rfl) (Lg rfl rfl rfl g11 (q_move rfl) (Lg rfl rfl rfl g11 (q_nil rfl) (Lg rfl rfl rfl g11 (q_field (o' := 0) Tryd.underlying97 rfl ti45 rfl rfl) (Lg rfl rfl rfl g11 (q_load1 Tryd.underlying45 rfl rfl (ownS (own0)) rfl) (Lg rfl rfl rfl g11 (q_len Tryd.underlying45 rfl) (Lg rfl rfl rfl g11 (q_gtr rfl rfl) (Lq (q_pickF rfl g11 rfl) (WL_nil (thenN (WC_fr [(19, _), (6, _), (5, _), (0, _), (1, _)] (.cons rfl (.cons rfl (.cons rfl (.cons rfl (.cons rfl (.nil _)))))) ?_))))))))))
    refine WC_cond rfl (fun h19 => ?_) (fun h19 => ?_)
    · refine WC_seq (WC_region (Lq (q_assign rfl) (WL_nil (thenN (WC_ret (thenRet ?_))))))
      refine ⟨_, [_, _, _], [], fun Z w hs => .tmp rfl (.nil), ?_, fun Z w hs => hs.out (List.Sublist.cons _ (List.Sublist.cons_cons _ (List.Sublist.cons_cons _ (List.Sublist.cons_cons _ (List.Sublist.refl _))))) (fun _ h => h)⟩
      try simp only [Bp, Bq] at *
      refine ⟨congrArg (Value.int .i64) ?_, rfl, rfl⟩
      unfold fitsF fitsT fitsRest
      first | (simp_all; done) | (simp_all; omega) | (repeat' split; all_goals first | rfl | omega | (simp_all; done) | (simp_all; omega))
    · refine WC_skip (thenN (WC_seq (WC_seq ?_)))
      try simp only [Bp, Bq] at *
      obtain ⟨i, rfl⟩ : ∃ k : Nat, i = (k : Int) := ⟨i.toNat, by omega⟩
      refine WC_draw _ _ [] (.c 0 0 (.c 1 0 (.c 2 0 (.c 3 2 (.c 4 2 (.c 5 0 .nil)))))) mixed (fun _ _ _ _ h => h) (List.Sublist.cons_cons _ (List.Sublist.cons _ (List.Sublist.cons_cons _ (List.Sublist.cons_cons _ (List.Sublist.refl _))))) (fun _ h => h) (by kernel_rfl) (by decide) fun ws Z0 => Qe rfl (q_loadN (vs := [_, _, _, _, _, _, _, _, _]) Tryd.underlying31 rfl ti31 rfl own0 rfl rfl) (Qe rfl (q_move rfl) (Qe rfl (q_move rfl) (WE_main rfl rfl (OW_call1 (before_s h m cap A H L hr i (by omega)) (.cons rfl (.cons rfl (.nil))) (by decide) (.s (.z)) (memc (.tail _ (.head _)) (memc (.tail _ (.tail _ (.head _))) mem0)) fun u3_3 Lo fs hres => ?_))))
      obtain ⟨rfl, rfl, rfl⟩ := hres
      refine ⟨⟨(List.Sublist.cons _ (List.Sublist.cons_cons _ (List.Sublist.cons_cons _ (List.Sublist.cons_cons _ (List.Sublist.refl _))))), (.head _)⟩, ?_⟩
      refine WE_main rfl rfl (OW_call0 (opCheck_s o Ao co (beforeF H i) (by have := ho.text; omega) ho.rs) (.cons rfl (.cons rfl (.nil))) (by decide) (memc (.tail _ (.head _)) (memc (.tail _ (.tail _ (.tail _ (.head _)))) mem0)) fun u3_4 Lo fs hres => ?_)
      obtain ⟨rfl, rfl, rfl⟩ := hres
      refine ⟨⟨(List.Sublist.cons _ (List.Sublist.cons_cons _ (List.Sublist.cons_cons _ (List.Sublist.cons_cons _ (List.Sublist.refl _))))), (.head _)⟩, ?_⟩
      refine Qe rfl (q_assign rfl) (WE_end (WF_nil (thenN (WC_seq (WC_region (Lq (q_move rfl) (Lq (q_neq rfl rfl) (WL_nil (thenN (WC_cond rfl (fun h26 => ?_) (fun h26 => ?_)))))))))))
      · refine WC_seq (WC_region (Lq (q_move rfl) (Lq (q_assign rfl) (WL_nil (thenN (WC_fr [(6, _), (5, _), (0, _), (1, _)] (.cons rfl (.cons rfl (.cons rfl (.cons rfl (.nil _))))) (WC_ret (thenRet ?_))))))))
        refine ⟨_, [_, _, _], [], fun Z w hs => .tmp rfl (.nil), ?_, fun Z w hs => hs.out (List.Sublist.cons_cons _ (List.Sublist.cons _ (List.Sublist.cons_cons _ (List.Sublist.cons_cons _ (List.Sublist.refl _))))) (fun _ h => .tail _ h)⟩
        try simp only [Bp, Bq] at *
        refine ⟨congrArg (Value.int .i64) ?_, rfl, rfl⟩
        unfold fitsF fitsT fitsRest
        first | (simp_all; done) | (simp_all; omega) | (repeat' split; all_goals first | rfl | omega | (simp_all; done) | (simp_all; omega))
      · refine WC_skip (thenN (WC_seq (WC_block (WC_seq (WC_region (Lq (q_field (o' := 0) Tryd.underlying31 rfl ti28 rfl rfl) (Lq (q_field (o' := 2) Tryd.underlying28 rfl ti26 rfl rfl) (Lq (q_load1 Tryd.underlying26 rfl rfl (ownS (own0)) rfl) (Lq (q_eql rfl rfl) (Lq (q_assign rfl) (WL_nil (thenN (WC_fr [(28, _), (6, _), (5, _), (0, _), (1, _)] (.cons rfl (.cons rfl (.cons rfl (.cons rfl (.cons rfl (.nil _)))))) (WC_cond rfl (fun h28 => ?_) (fun h28 => ?_)))))))))))))))
        · refine WC_seq (WC_region (Lq (q_assign rfl) (WL_nil (thenN (WC_ret (blockRet (thenRet ?_)))))))
          refine ⟨_, [_, _, _], [], fun Z w hs => .tmp rfl (.nil), ?_, fun Z w hs => hs.out (List.Sublist.cons_cons _ (List.Sublist.cons _ (List.Sublist.cons_cons _ (List.Sublist.cons_cons _ (List.Sublist.refl _))))) (fun _ h => .tail _ h)⟩
          try simp only [Bp, Bq] at *
          refine ⟨congrArg (Value.int .i64) ?_, rfl, rfl⟩
          unfold fitsF fitsT fitsRest
          first | (simp_all; done) | (simp_all; omega) | (repeat' split; all_goals first | rfl | omega | (simp_all; done) | (simp_all; omega))
        · refine WC_seq (WC_region (Lq (q_field (o' := 0) Tryd.underlying31 rfl ti28 rfl rfl) (Lq (q_field (o' := 0) Tryd.underlying28 rfl ti25 rfl rfl) (Lq (q_loadN (vs := [_, _]) Tryd.underlying25 rfl ti25 rfl (ownS (own0)) rfl rfl) (Lq (q_build (.nil) (bd25Xw13)) (Lq (q_aggeql rfl rfl (eq25 _ _ _ _)) (Lq (q_assign rfl) (WL_nil (thenN (WC_cond rfl (fun h33 => ?_) (fun h33 => ?_)))))))))))
          · refine WC_seq (WC_region (Lq (q_assign rfl) (WL_nil (thenN (WC_ret (blockRet (thenRet ?_)))))))
            refine ⟨_, [_, _, _], [], fun Z w hs => .tmp rfl (.nil), ?_, fun Z w hs => hs.out (List.Sublist.cons_cons _ (List.Sublist.cons _ (List.Sublist.cons_cons _ (List.Sublist.cons_cons _ (List.Sublist.refl _))))) (fun _ h => .tail _ h)⟩
            try simp only [Bp, Bq] at *
            refine ⟨congrArg (Value.int .i64) ?_, rfl, rfl⟩
            unfold fitsF fitsT fitsRest
            first | (simp_all; done) | (simp_all; omega) | (repeat' split; all_goals first | rfl | omega | (simp_all; done) | (simp_all; omega))
          · refine WC_seq ?_
            cases hwd : whereId H.ents o.c o.n with
            | none =>
              have hgd := hr.look0 hwd
              refine WC_draw _ _ [] (.c 0 0 (.c 1 0 (.c 2 0 (.c 3 0 (.c 4 0 (.c 5 0 (.c 6 0 (.c 7 0 (.c 8 0 (.c 9 0 .nil)))))))))) mixed (fun _ _ _ _ h => h) (List.Sublist.cons_cons _ (List.Sublist.cons_cons _ (List.Sublist.cons_cons _ (List.Sublist.cons_cons _ (List.Sublist.refl _))))) (fun _ h => h) (by kernel_rfl) (by decide) fun ws Z0 => Qe rfl (q_move rfl) (Qe rfl (q_nil rfl) (Qe rfl (q_field (o' := 1) Tryd.underlying97 rfl ti95 rfl rfl) (Qe rfl (q_load1 Tryd.underlying95 rfl rfl own0 rfl) (Qe rfl (q_field (o' := 0) Tryd.underlying31 rfl ti28 rfl rfl) (Qe rfl (q_field (o' := 0) Tryd.underlying28 rfl ti25 rfl rfl) (Qe rfl (q_loadN (vs := [_, _]) Tryd.underlying25 rfl ti25 rfl (ownS (own0)) rfl rfl) (Qe rfl (q_lookN keyT hgd Tryd.underlying95 ti99 rfl rfl (ownS (ownS (own0)))) (Qe rfl (q_pneq Tryd.underlying99 rfl rfl (by simp)) ?_))))))))
              refine Qe rfl (q_assign rfl) (WE_end (WF_nil (thenN (WC_fr [(39, _), (6, _), (5, _), (0, _), (1, _)] (.cons rfl (.cons rfl (.cons rfl (.cons rfl (.cons rfl (.nil _)))))) (WC_false rfl rfl (WC_skip (blockN (thenN (WC_seq (WC_seq (WC_region (Lq (q_field (o' := 0) Tryd.underlying31 rfl ti28 rfl rfl) (Lq (q_field (o' := 2) Tryd.underlying28 rfl ti26 rfl rfl) (Lq (q_load1 Tryd.underlying26 rfl rfl (ownS (own0)) rfl) (Lq (q_eql rfl rfl) (WL_nil (thenN ?_)))))))))))))))))
              refine WC_cond rfl (fun h52 => ?_) (fun h52 => ?_)
              · refine WC_seq ?_
                cases hwt : whereId H.ents o.tc o.tn with
                | none =>
                  have hgt := hr.look0 hwt
                  refine WC_draw _ _ [] (.c 0 0 (.c 1 0 (.c 2 0 (.c 3 0 (.c 4 0 (.c 5 0 (.c 6 0 (.c 7 0 .nil)))))))) mixed (fun _ _ _ _ h => h) (List.Sublist.cons_cons _ (List.Sublist.cons_cons _ (List.Sublist.cons_cons _ (List.Sublist.cons_cons _ (List.Sublist.refl _))))) (fun _ h => h) (by kernel_rfl) (by decide) fun ws Z0 => Qe rfl (q_move rfl) (Qe rfl (q_nil rfl) (Qe rfl (q_field (o' := 1) Tryd.underlying97 rfl ti95 rfl rfl) (Qe rfl (q_load1 Tryd.underlying95 rfl rfl own0 rfl) (Qe rfl (q_field (o' := 6) Tryd.underlying31 rfl ti25 rfl rfl) (Qe rfl (q_loadN (vs := [_, _]) Tryd.underlying25 rfl ti25 rfl (ownS (own0)) rfl rfl) (Qe rfl (q_lookN keyT hgt Tryd.underlying95 ti99 rfl rfl (ownS (ownS (own0)))) (Qe rfl (q_assign rfl) (WE_end (WF_nil ?_)))))))))
                  refine thenN (WC_fr [(8, _), (6, _), (5, _), (0, _), (1, _)] (.cons rfl (.cons rfl (.cons rfl (.cons rfl (.cons rfl (.nil _)))))) (WC_seq (WC_seq (WC_region (Lq (q_move rfl) (Lq (q_peql Tryd.underlying99 rfl rfl (by simp)) (Lq (q_move rfl) (Ln rfl rfl rfl rfl (Ln rfl rfl rfl rfl (Ln rfl rfl rfl rfl (Ln rfl rfl rfl rfl ?_)))))))))))
                  refine Ln rfl rfl rfl rfl (Ln rfl rfl rfl rfl (Lq (q_pickT rfl rfl rfl) (WL_nil (thenN (WC_fr [(69, _), (8, _), (6, _), (5, _), (0, _)] (.cons rfl (.cons rfl (.cons rfl (.cons rfl (.cons rfl (.nil _)))))) (WC_true rfl rfl (WC_seq (WC_region (Lq (q_assign rfl) (WL_nil (thenN (WC_ret (thenRet (thenRet ?_))))))))))))))
                  refine ⟨_, [_, _, _], [], fun Z w hs => .tmp rfl (.nil), ?_, fun Z w hs => hs.out (List.Sublist.cons_cons _ (List.Sublist.cons _ (List.Sublist.cons_cons _ (List.Sublist.cons_cons _ (List.Sublist.refl _))))) (fun _ h => .tail _ (.tail _ (.tail _ h)))⟩
                  try simp only [Bp, Bq] at *
                  refine ⟨congrArg (Value.int .i64) ?_, rfl, rfl⟩
                  unfold fitsF fitsT fitsRest
                  first | (simp_all; done) | (simp_all; omega) | (repeat' split; all_goals first | rfl | omega | (simp_all; done) | (simp_all; omega))
                | some kt =>
                  obtain ⟨hkt, jt, xt, hct, hnt, hjt, hmt, hgt⟩ := hr.look1 hwt
                  obtain ⟨xmt, xbt, xAt, xct⟩ := xt
                  obtain rfl : xmt = markAt kt H.ents[kt] := hmt
                  refine WC_draw _ _ [] (.c 0 0 (.c 1 0 (.c 2 0 (.c 3 0 (.c 4 0 (.c 5 0 (.c 6 0 (.c 7 0 .nil)))))))) mixed (fun _ _ _ _ h => h) (List.Sublist.cons_cons _ (List.Sublist.cons_cons _ (List.Sublist.cons_cons _ (List.Sublist.cons_cons _ (List.Sublist.refl _))))) (fun _ h => h) (by kernel_rfl) (by decide) fun ws Z0 => Qe rfl (q_move rfl) (Qe rfl (q_nil rfl) (Qe rfl (q_field (o' := 1) Tryd.underlying97 rfl ti95 rfl rfl) (Qe rfl (q_load1 Tryd.underlying95 rfl rfl own0 rfl) (Qe rfl (q_field (o' := 6) Tryd.underlying31 rfl ti25 rfl rfl) (Qe rfl (q_loadN (vs := [_, _]) Tryd.underlying25 rfl ti25 rfl (ownS (own0)) rfl rfl) (Qe rfl (q_lookS keyT hgt Tryd.underlying95 ti99 rfl rfl (ownS (ownS (own0)))) (Qe rfl (q_assign rfl) (WE_end (WF_nil ?_)))))))))
                  refine thenN (WC_fr [(8, _), (6, _), (5, _), (0, _), (1, _)] (.cons rfl (.cons rfl (.cons rfl (.cons rfl (.cons rfl (.nil _)))))) (WC_seq (WC_seq (WC_region (Lq (q_move rfl) (Lq (q_peql Tryd.underlying99 rfl rfl (by simp)) (Lq (q_move rfl) (Lg rfl rfl rfl rfl (q_move rfl) (Lg rfl rfl rfl rfl (q_nil rfl) (Lg rfl rfl rfl rfl (q_field (o' := 0) Tryd.underlying101 rfl ti3 rfl rfl) (Lg rfl rfl rfl rfl (q_load1 (v := .int .i64 (kt : Int)) Tryd.underlying3 rfl rfl (ownS (ownS (ownS (ownI (mkP_mem hjt))))) rfl) ?_)))))))))))
                  refine Lg rfl rfl rfl rfl (q_move rfl) (Lg rfl rfl rfl rfl (q_geq rfl rfl) (Lq (q_pickF rfl rfl rfl) (WL_nil (thenN (WC_fr [(69, _), (8, _), (6, _), (5, _), (0, _)] (.cons rfl (.cons rfl (.cons rfl (.cons rfl (.cons rfl (.nil _)))))) (WC_cond rfl (fun h69 => ?_) (fun h69 => ?_)))))))
                  · refine WC_seq (WC_region (Lq (q_assign rfl) (WL_nil (thenN (WC_ret (thenRet (thenRet ?_)))))))
                    refine ⟨_, [_, _, _], [], fun Z w hs => .tmp rfl (.nil), ?_, fun Z w hs => hs.out (List.Sublist.cons_cons _ (List.Sublist.cons _ (List.Sublist.cons_cons _ (List.Sublist.cons_cons _ (List.Sublist.refl _))))) (fun _ h => .tail _ (.tail _ (.tail _ h)))⟩
                    try simp only [Bp, Bq] at *
                    refine ⟨congrArg (Value.int .i64) ?_, rfl, rfl⟩
                    unfold fitsF fitsT fitsRest
                    first | (simp_all; done) | (simp_all; omega) | (repeat' split; all_goals first | rfl | omega | (simp_all; done) | (simp_all; omega))
                  · refine WC_skip (thenN (WC_seq ?_))
                    have hko : kt < H.ops.length := by omega
                    refine WC_elem (k := kt) (.tail _ (.tail _ (.tail _ (.tail _ (.head _))))) (List.getElem?_eq_getElem hko) (op_open _) fun bo qo yo eo => ?_
                    cases eo
                    have hop := ops_at hkt
                    refine WC_draw _ _ [] (.c 0 0 (.c 1 0 (.c 2 0 (.c 3 0 (.c 4 0 (.c 5 0 (.c 6 0 (.c 7 0 (.c 8 0 (.c 9 0 (.c 10 0 (.c 11 0 (.c 12 0 .nil))))))))))))) mixed (fun _ _ _ _ h => h) (List.Sublist.cons_cons _ (List.Sublist.cons_cons _ (List.Sublist.cons_cons _ (List.Sublist.cons_cons _ (List.Sublist.refl _))))) (fun _ h => h) (by kernel_rfl) (by decide) fun ws Z0 => Qe rfl (q_move rfl) (Qe rfl (q_nil rfl) (Qe rfl (q_field (o' := 0) Tryd.underlying97 rfl ti45 rfl rfl) (Qe rfl (q_load1 Tryd.underlying45 rfl rfl own0 rfl) (Qe rfl (q_move rfl) (Qe rfl (q_nil rfl) (Qe rfl (q_field (o' := 0) Tryd.underlying101 rfl ti3 rfl rfl) (Qe rfl (q_load1 (v := .int .i64 (kt : Int)) Tryd.underlying3 rfl rfl (ownS (ownS (ownS (ownI (mkP_mem hjt))))) rfl) (Qe rfl (q_idxRd Tryd.underlying45 ti31 rfl rfl (by omega) (by omega)) ?_))))))))
                    refine Qe rfl (q_field (o' := _ + 0) Tryd.underlying31 rfl ti28 rfl rfl) (Qe rfl (q_field (o' := _ + 2) Tryd.underlying28 rfl ti26 rfl rfl) (Qe rfl (q_loadF1 (j := 2) Tryd.underlying26 rfl rfl (.head _) rfl rfl) (Qe rfl (q_eql rfl rfl) (WE_end (WF_nil (thenN (WC_fr [(82, _), (6, _), (5, _), (0, _)] (.cons rfl (.cons rfl (.cons rfl (.cons rfl (.nil _))))) (WC_cond rfl (fun h82 => ?_) (fun h82 => ?_)))))))))
                    · refine WC_seq (WC_region (Lq (q_assign rfl) (WL_nil (thenN (WC_ret (thenRet ?_))))))
                      refine ⟨_, [_, _, _], [], fun Z w hs => .tmp rfl (.nil), ?_, fun Z w hs => hs.out (List.Sublist.cons_cons _ (List.Sublist.cons _ (List.Sublist.cons_cons _ (List.Sublist.cons_cons _ (List.Sublist.refl _))))) (fun _ h => .tail _ (.tail _ (.tail _ (.tail _ (.tail _ (.tail _ h))))))⟩
                      try simp only [Bp, Bq] at *
                      refine ⟨congrArg (Value.int .i64) ?_, rfl, rfl⟩
                      unfold fitsF fitsT fitsRest
                      first | (simp_all; done) | (simp_all; omega) | (repeat' split; all_goals first | rfl | omega | (simp_all; done) | (simp_all; omega))
                    · refine WC_skip (thenN (WC_seq (WC_seq (WC_draw _ _ [] (.c 0 0 (.c 1 0 (.c 2 0 (.c 3 0 (.c 4 0 (.c 5 2 (.c 6 0 (.c 7 0 .nil)))))))) mixed (fun _ _ _ _ h => h) (List.Sublist.cons_cons _ (List.Sublist.cons_cons _ (List.Sublist.cons_cons _ (List.Sublist.cons_cons _ (List.Sublist.refl _))))) (fun _ h => h) (by kernel_rfl) (by decide) fun ws Z0 => Qe rfl (q_move rfl) (Qe rfl (q_nil rfl) (Qe rfl (q_field (o' := 2) Tryd.underlying97 rfl ti3 rfl rfl) (Qe rfl (q_load1 Tryd.underlying3 rfl rfl own0 rfl) (Qe rfl (q_loadN (vs := [_, _, _, _, _, _, _, _, _]) Tryd.underlying31 rfl ti31 rfl (ownS (own0)) rfl rfl) (WE_main rfl rfl (OW_call0 (width_s o Ao co (by have := ho.text; omega)) (.cons rfl (.nil)) (by decide) (memc (.tail _ (.tail _ (.tail _ (.tail _ (.tail _ (.tail _ (.tail _ (.head _)))))))) mem0) fun u18_5 Lo fs hres => ?_))))))))))
                      obtain ⟨rfl, rfl, rfl⟩ := hres
                      refine ⟨⟨(List.Sublist.cons_cons _ (List.Sublist.cons_cons _ (List.Sublist.cons_cons _ (List.Sublist.cons_cons _ (List.Sublist.refl _))))), (.head _)⟩, ?_⟩
                      refine Qe rfl (q_add rfl rfl (wr64 (by have := hr.tot; have := widthF_le o; have := ho.text; omega))) (Qe rfl (q_gtr rfl rfl) (WE_end (WF_nil (thenN (WC_cond rfl (fun h90 => ?_) (fun h90 => ?_))))))
                      · refine WC_seq (WC_region (Lq (q_assign rfl) (WL_nil (thenN (WC_ret (thenRet ?_))))))
                        refine ⟨_, [_, _, _], [], fun Z w hs => .tmp rfl (.nil), ?_, fun Z w hs => hs.out (List.Sublist.cons_cons _ (List.Sublist.cons _ (List.Sublist.cons_cons _ (List.Sublist.cons_cons _ (List.Sublist.refl _))))) (fun _ h => .tail _ (.tail _ (.tail _ (.tail _ (.tail _ (.tail _ (.tail _ h)))))))⟩
                        try simp only [Bp, Bq] at *
                        refine ⟨congrArg (Value.int .i64) ?_, rfl, rfl⟩
                        unfold fitsF fitsT fitsRest
                        first | (simp_all; done) | (simp_all; omega) | (repeat' split; all_goals first | rfl | omega | (simp_all; done) | (simp_all; omega))
                      · refine WC_skip (thenN (WC_seq (WC_region (Lq (q_assign rfl) (WL_nil (thenN (WC_ret ?_)))))))
                        refine ⟨_, [_, _, _], [], fun Z w hs => .tmp rfl (.nil), ?_, fun Z w hs => hs.out (List.Sublist.cons_cons _ (List.Sublist.cons _ (List.Sublist.cons_cons _ (List.Sublist.cons_cons _ (List.Sublist.refl _))))) (fun _ h => .tail _ (.tail _ (.tail _ (.tail _ (.tail _ (.tail _ (.tail _ h)))))))⟩
                        try simp only [Bp, Bq] at *
                        refine ⟨congrArg (Value.int .i64) ?_, rfl, rfl⟩
                        unfold fitsF fitsT fitsRest
                        first | (simp_all; done) | (simp_all; omega) | (repeat' split; all_goals first | rfl | omega | (simp_all; done) | (simp_all; omega))
              · refine WC_skip (thenN (WC_seq (WC_seq (WC_draw _ _ [] (.c 0 0 (.c 1 0 (.c 2 0 (.c 3 0 (.c 4 0 (.c 5 2 (.c 6 0 (.c 7 0 .nil)))))))) mixed (fun _ _ _ _ h => h) (List.Sublist.cons_cons _ (List.Sublist.cons_cons _ (List.Sublist.cons_cons _ (List.Sublist.cons_cons _ (List.Sublist.refl _))))) (fun _ h => h) (by kernel_rfl) (by decide) fun ws Z0 => Qe rfl (q_move rfl) (Qe rfl (q_nil rfl) (Qe rfl (q_field (o' := 2) Tryd.underlying97 rfl ti3 rfl rfl) (Qe rfl (q_load1 Tryd.underlying3 rfl rfl own0 rfl) (Qe rfl (q_loadN (vs := [_, _, _, _, _, _, _, _, _]) Tryd.underlying31 rfl ti31 rfl (ownS (own0)) rfl rfl) (WE_main rfl rfl (OW_call0 (width_s o Ao co (by have := ho.text; omega)) (.cons rfl (.nil)) (by decide) (memc (.tail _ (.tail _ (.tail _ (.head _)))) mem0) fun u18_5 Lo fs hres => ?_))))))))))
                obtain ⟨rfl, rfl, rfl⟩ := hres
                refine ⟨⟨(List.Sublist.cons_cons _ (List.Sublist.cons_cons _ (List.Sublist.cons_cons _ (List.Sublist.cons_cons _ (List.Sublist.refl _))))), (.head _)⟩, ?_⟩
                refine Qe rfl (q_add rfl rfl (wr64 (by have := hr.tot; have := widthF_le o; have := ho.text; omega))) (Qe rfl (q_gtr rfl rfl) (WE_end (WF_nil (thenN (WC_fr [(90, _), (6, _)] (.cons rfl (.cons rfl (.nil _))) (WC_cond rfl (fun h90 => ?_) (fun h90 => ?_)))))))
                · refine WC_seq (WC_region (Lq (q_assign rfl) (WL_nil (thenN (WC_ret (thenRet ?_))))))
                  refine ⟨_, [_, _, _], [], fun Z w hs => .tmp rfl (.nil), ?_, fun Z w hs => hs.out (List.Sublist.cons_cons _ (List.Sublist.cons _ (List.Sublist.cons_cons _ (List.Sublist.cons_cons _ (List.Sublist.refl _))))) (fun _ h => .tail _ (.tail _ (.tail _ h)))⟩
                  try simp only [Bp, Bq] at *
                  refine ⟨congrArg (Value.int .i64) ?_, rfl, rfl⟩
                  unfold fitsF fitsT fitsRest
                  first | (simp_all; done) | (simp_all; omega) | (repeat' split; all_goals first | rfl | omega | (simp_all; done) | (simp_all; omega))
                · refine WC_skip (thenN (WC_seq (WC_region (Lq (q_assign rfl) (WL_nil (thenN (WC_ret ?_)))))))
                  refine ⟨_, [_, _, _], [], fun Z w hs => .tmp rfl (.nil), ?_, fun Z w hs => hs.out (List.Sublist.cons_cons _ (List.Sublist.cons _ (List.Sublist.cons_cons _ (List.Sublist.cons_cons _ (List.Sublist.refl _))))) (fun _ h => .tail _ (.tail _ (.tail _ h)))⟩
                  try simp only [Bp, Bq] at *
                  refine ⟨congrArg (Value.int .i64) ?_, rfl, rfl⟩
                  unfold fitsF fitsT fitsRest
                  first | (simp_all; done) | (simp_all; omega) | (repeat' split; all_goals first | rfl | omega | (simp_all; done) | (simp_all; omega))
            | some kd =>
              obtain ⟨hkd, jd, xd, hcd, hnd, hjd, hmd, hgd⟩ := hr.look1 hwd
              obtain ⟨xmd, xbd, xAd, xcd⟩ := xd
              obtain rfl : xmd = markAt kd H.ents[kd] := hmd
              refine WC_draw _ _ [] (.c 0 0 (.c 1 0 (.c 2 0 (.c 3 0 (.c 4 0 (.c 5 0 (.c 6 0 (.c 7 0 (.c 8 0 (.c 9 0 .nil)))))))))) mixed (fun _ _ _ _ h => h) (List.Sublist.cons_cons _ (List.Sublist.cons_cons _ (List.Sublist.cons_cons _ (List.Sublist.cons_cons _ (List.Sublist.refl _))))) (fun _ h => h) (by kernel_rfl) (by decide) fun ws Z0 => Qe rfl (q_move rfl) (Qe rfl (q_nil rfl) (Qe rfl (q_field (o' := 1) Tryd.underlying97 rfl ti95 rfl rfl) (Qe rfl (q_load1 Tryd.underlying95 rfl rfl own0 rfl) (Qe rfl (q_field (o' := 0) Tryd.underlying31 rfl ti28 rfl rfl) (Qe rfl (q_field (o' := 0) Tryd.underlying28 rfl ti25 rfl rfl) (Qe rfl (q_loadN (vs := [_, _]) Tryd.underlying25 rfl ti25 rfl (ownS (own0)) rfl rfl) (Qe rfl (q_lookS keyT hgd Tryd.underlying95 ti99 rfl rfl (ownS (ownS (own0)))) (Qe rfl (q_pneq Tryd.underlying99 rfl rfl (by simp)) ?_))))))))
              refine Qe rfl (q_assign rfl) (WE_end (WF_nil (thenN (WC_fr [(39, _), (6, _), (5, _), (0, _), (1, _)] (.cons rfl (.cons rfl (.cons rfl (.cons rfl (.cons rfl (.nil _)))))) (WC_true rfl rfl (WC_seq (WC_region (Lq (q_assign rfl) (WL_nil (thenN (WC_ret (blockRet (thenRet ?_)))))))))))))
              refine ⟨_, [_, _, _], [], fun Z w hs => .tmp rfl (.nil), ?_, fun Z w hs => hs.out (List.Sublist.cons_cons _ (List.Sublist.cons _ (List.Sublist.cons_cons _ (List.Sublist.cons_cons _ (List.Sublist.refl _))))) (fun _ h => .tail _ (.tail _ h))⟩
              try simp only [Bp, Bq] at *
              refine ⟨congrArg (Value.int .i64) ?_, rfl, rfl⟩
              unfold fitsF fitsT fitsRest
              first | (simp_all; done) | (simp_all; omega) | (repeat' split; all_goals first | rfl | omega | (simp_all; done) | (simp_all; omega))

end Go.Proofs.YtggdddkbhigjoaaDoor
/- Walks: history.moved. -/
namespace Go.Proofs.YtggdddkbhigjoaaDoor
open Go Go.GW
/-- Cells of the answers. -/
def slC (x : List Rg × Option Addr × Nat) : Value := .slice x.2.1 x.1.length x.2.2
def slsF (ys : List (List Rg × Option Addr × Nat)) : Fact := AllF ys fun x => RdF rgD x.2.1 x.2.2 x.1
structure MvI (ents : List Ent) (at_ n : Int) (k : Nat) (ys : List (List Rg × Option Addr × Nat)) : Prop where
  le : k ≤ ents.length
  len : ys.length = k
  eq : movedAll ents at_ n = (match movedAll (ents.drop k) at_ n with | .error e => .error e | .ok ls => .ok (ys.map Prod.fst ++ ls))
theorem MvI.err {ents : List Ent} {at_ n : Int} {k : Nat} {ys : List (List Rg × Option Addr × Nat)} (h : MvI ents at_ n k ys) (hk : k < ents.length) (h1 : (thrF ents[k].now at_ n).2 ≠ 0) : movedAll ents at_ n = .error (thrF ents[k].now at_ n).2 := by
  rw [h.eq, List.drop_eq_getElem_cons hk, movedAll, if_pos h1]
theorem MvI.next {ents : List Ent} {at_ n : Int} {k : Nat} {ys : List (List Rg × Option Addr × Nat)} (h : MvI ents at_ n k ys) (hk : k < ents.length) (h1 : ¬ (thrF ents[k].now at_ n).2 ≠ 0) (A : Option Addr) (c : Nat) : MvI ents at_ n (k + 1) (ys ++ [((thrF ents[k].now at_ n).1, A, c)]) := by
  refine ⟨hk, by simp [h.len], ?_⟩
  rw [h.eq, List.drop_eq_getElem_cons hk, movedAll, if_neg h1]
  cases movedAll (ents.drop (k + 1)) at_ n with
  | error e => rfl
  | ok ls => simp
theorem MvI.done {ents : List Ent} {at_ n : Int} {k : Nat} {ys : List (List Rg × Option Addr × Nat)} (h : MvI ents at_ n k ys) (hk : ¬ k < ents.length) : movedAll ents at_ n = .ok (ys.map Prod.fst) := by
  rw [h.eq, List.drop_eq_nil_of_le (by have := h.le; omega)]
  simp [movedAll]
theorem sls_reps {ys : List (List Rg × Option Addr × Nat)} {Z : Nat → Prop} {w : World} (h : (slsF ys).holds Z w) : Reps (rsl.rep Z w) (ys.map Prod.fst) (ys.map fun x => [slC x]) := by
  induction ys with
  | nil => exact .nil
  | cons y ys ih => exact .cons ⟨y.2.1, y.2.2, rfl, h y List.mem_cons_self⟩ (ih fun x hx => h x (List.mem_cons_of_mem _ hx))
theorem sls_flat (ys : List (List Rg × Option Addr × Nat)) : (ys.map fun x => [slC x]).flatten = ys.map slC := by
  induction ys with
  | nil => rfl
  | cons y ys ih => simp [ih]
def MvP (r : Except Int (List (List Rg))) (ps : List Part) : Value → List Part → List Fact → Prop := fun v Lo fs => Lo = ps ∧
  match r with
  | .error e => v = .tuple #[.slice none 0 0, .int .i64 e] ∧ fs = []
  | .ok ls => ∃ A c, v = .tuple #[.slice A ls.length c, .int .i64 0] ∧ fs = [RdF rsl A c ls]

set_option maxRecDepth 10000 in
theorem hmoved_s (h m cap : Nat) (A : Option Addr) (H : Hist) (L : List MR) (hr : HR H L) (at_ n : Int) : Sp Tryd.prog 41 [.pointer (some ⟨h, 0, none⟩), .int .i64 at_, .int .i64 n] [hdP h A H.ops.length cap m H.total, mpP m L, mkP L] [RdF opD A cap H.ops, AllF L nowF] (MvP (movedAll H.ents at_ n) [hdP h A H.ops.length cap m H.total, mpP m L, mkP L]) := by
  have hol := ops_len H
  have hlen := hr.len
  refine Sp.of (n := 55) ⟨_, Tryd.func41, rfl, rfl, rfl, rfl⟩ (Nat.le_of_ble_eq_true rfl) fun Ps As => WC_seq (WC_region (Lq (q_assign rfl) (Lq (q_assign rfl) (WL_nil (thenN (WC_seq (WC_region (Lq (q_move rfl) (Lq (q_nil rfl) (Lq (q_field (o' := 0) Tryd.underlying97 rfl ti45 rfl rfl) (Lq (q_load1 Tryd.underlying45 rfl rfl own0 rfl) (Lq (q_len Tryd.underlying45 rfl) ?_))))))))))))
  refine WL_main rfl (OW_make1 Tryd.underlying102 ti29 rfl rfl rfl (by omega) (by unfold maxLen; omega) (by decide) fun bo => Lq (q_assign rfl) (WL_nil (thenN (WC_seq (WC_seq (WC_region (Lq (q_move rfl) (Lq (q_nil rfl) (Lq (q_field (o' := 0) Tryd.underlying97 rfl ti45 rfl rfl) (Lq (q_load1 Tryd.underlying45 rfl rfl (ownS (own0)) rfl) (Lq (q_len Tryd.underlying45 rfl) (Lq (q_move rfl) (WL_nil (thenN ?_))))))))))))))
  refine WC_fr [(24, _), (23, _), (22, _), (8, _), (7, _), (6, _), (0, _), (1, _), (2, _)] (.cons rfl (.cons rfl (.cons rfl (.cons rfl (.cons rfl (.cons rfl (.cons rfl (.cons rfl (.cons rfl (.nil _)))))))))) (WC_block (WC_fact (A := slsF []) (fun Z w hs x hx => by cases hx) ?_))
  refine WC_loopE (α := Nat × List (List Rg × Option Addr × Nat)) (fun (k, ys) => H.ops.length - k)
    (fun (k, ys) => [(0, .pointer (some ⟨h, 0, none⟩)), (1, .int .i64 at_), (2, .int .i64 n), (8, .slice (some ⟨bo, 0, none⟩) H.ops.length H.ops.length), (22, .slice A H.ops.length cap), (23, .int .i64 H.ops.length), (24, .int .i64 k)])
    (fun (k, ys) => ([(bo, cellsO (ys.map slC ++ List.replicate (H.ops.length - k) (Value.slice none 0 0)) 29)] :: hdP h A H.ops.length cap m H.total :: mpP m L :: mkP L :: Ps))
    (fun (k, ys) => (slsF ys :: RdF opD A cap H.ops :: AllF L nowF :: As))
    (fun (k, ys) => MvI H.ents at_ n k ys)
    (0, []) ?_ (.cons rfl (.cons rfl (.cons rfl (.cons rfl (.cons rfl (.cons rfl (.cons rfl (.nil _)))))))) (List.Sublist.cons_cons _ (List.Sublist.cons_cons _ (List.Sublist.cons_cons _ (List.Sublist.cons_cons _ (List.Sublist.refl _))))) (fun _ h => h) ?_
  · exact ⟨Nat.zero_le _, rfl, by cases hq : movedAll H.ents at_ n <;> simp [hq]⟩
  · rintro ⟨k, ys⟩ hI
    refine WC_seq (WC_region (Lq (q_lss rfl rfl) (WL_nil (thenN (WC_seq (WC_cond rfl (fun h25 => ?_) (fun h25 => ?_)))))))
    · refine WC_skip (thenN (WC_seq (WC_block (WC_seq ?_))))
      try simp only [Bp, Bq] at *
      have hke : k < H.ents.length := by omega
      have hk : k < H.ops.length := by omega
      have hop := ops_at hke
      refine WC_elem (k := k) (.tail _ (.head _)) (List.getElem?_eq_getElem hk) (op_open _) fun b4 q4 y4 e4 => ?_
      cases e4
      refine WC_region (Lq (q_move rfl) (Lq (q_idxRd Tryd.underlying45 ti31 rfl rfl (by omega) (by omega)) (Lq (q_loadFN (k := 0) (vs := [_, _, _, _, _, _, _, _, _]) Tryd.underlying31 rfl ti31 rfl (.head _) rfl rfl rfl) (WL_main rfl (OW_alloc (cs := [_, _, _, _, _, _, _, _, _]) ti31 rfl (by decide) fun b10 => Lq (q_assign rfl) (WL_main rfl (OW_storeN (cs' := [_, _, _, _, _, _, _, _, _]) (vs := [_, _, _, _, _, _, _, _, _]) ti31 rfl rfl rfl rfl rfl (Nat.le_of_ble_eq_true rfl) (.z) (WL_nil (thenN (WC_seq ?_))))))))))
      obtain ⟨jm, xm, hjm, hxm, hgm⟩ := hr.look hke
      obtain ⟨xk, xb, xA, xc⟩ := xm
      obtain rfl : xk = markAt k H.ents[k] := hxm
      rw [← hop] at hgm
      refine WC_all _ (.tail _ (.tail _ (.tail _ (.tail _ (.head _))))) (List.mem_of_getElem? hjm) (WC_draw _ _ [] (.c 0 0 (.c 1 0 (.c 2 0 (.c 3 0 (.c 4 0 (.c 5 0 (.c 6 0 (.c 7 0 (.c 8 0 (.c 9 0 (.c 10 0 (.c 11 0 (.c 12 0 (.c 13 2 (.c 14 0 (.c 15 0 (.c 16 0 (.c 17 0 (.c 18 0 .nil))))))))))))))))))) mixed (fun _ _ _ _ h => h) (List.Sublist.cons_cons _ (List.Sublist.cons_cons _ (List.Sublist.cons_cons _ (List.Sublist.cons_cons _ (List.Sublist.cons_cons _ (List.Sublist.refl _)))))) (fun _ h => h) (by kernel_rfl) (by decide) fun ws Z0 => Qe rfl (q_move rfl) (Qe rfl (q_nil rfl) (Qe rfl (q_field (o' := 1) Tryd.underlying97 rfl ti95 rfl rfl) (Qe rfl (q_load1 Tryd.underlying95 rfl rfl (ownS (ownS (own0))) rfl) (Qe rfl (q_field (o' := 0) Tryd.underlying31 rfl ti28 rfl rfl) (Qe rfl (q_field (o' := 0) Tryd.underlying28 rfl ti25 rfl rfl) ?_))))))
      refine Qe rfl (q_loadN (vs := [_, _]) Tryd.underlying25 rfl ti25 rfl own0 rfl rfl) (Qe rfl (q_lookS keyT hgm Tryd.underlying95 ti99 rfl rfl (ownS (ownS (ownS (own0))))) (Qe rfl (q_nil rfl) (Qe rfl (q_field (o' := 1) Tryd.underlying101 rfl ti29 rfl rfl) (Qe rfl (q_load1 Tryd.underlying29 rfl rfl (ownS (ownS (ownS (ownS (ownI (mkP_mem hjm)))))) rfl) (Qe rfl (q_move rfl) (Qe rfl (q_move rfl) (WE_main rfl rfl (OW_call0 (through_s xA xc H.ents[k].now at_ n (hr.now _ (List.getElem_mem hke))) (.cons rfl (.cons rfl (.cons rfl (.nil)))) (by decide) (memc (.tail _ (.head _)) mem0) fun u5_13 Lo fs hres => ?_))))))))
      obtain ⟨A3, c3, rfl, rfl, rfl⟩ := hres
      refine ⟨⟨(List.Sublist.cons_cons _ (List.Sublist.cons_cons _ (List.Sublist.cons_cons _ (List.Sublist.cons_cons _ (List.Sublist.cons_cons _ (List.Sublist.refl _)))))), (.tail _ (.head _))⟩, ?_⟩
      refine Qe rfl (q_move rfl) (Qe rfl (q_extract (vs := [_, _]) rfl rfl) (Qe rfl (q_extract (vs := [_, _]) rfl rfl) (Qe rfl (q_assign rfl) (Qe rfl (q_assign rfl) (WE_end (WF_nil (thenN (WC_seq (WC_seq (WC_region (Lq (q_move rfl) (Lq (q_neq rfl rfl) (WL_nil (thenN ?_))))))))))))))
      refine WC_cond rfl (fun h47 => ?_) (fun h47 => ?_)
      · refine WC_seq (WC_region (Lq (q_move rfl) (Lq (q_assign rfl) (Lq (q_assign rfl) (WL_nil (thenN (WC_ret (thenRet (blockRet (thenRet (thenRet (blockRet (thenRet ?_)))))))))))))
        refine ⟨_, [_, _, _], [], fun Z w hs => .tmp rfl (.tmp rfl (.nil)), ?_, fun Z w hs => hs.out (List.Sublist.cons _ (List.Sublist.cons _ (List.Sublist.cons_cons _ (List.Sublist.cons_cons _ (List.Sublist.cons_cons _ (List.Sublist.refl _)))))) (fun _ h => .tail _ (.tail _ (.tail _ (.tail _ (.tail _ (.tail _ h))))))⟩
        try simp only [Bp, Bq] at *
        refine ⟨rfl, ?_⟩
        rw [hI.err hke (by omega)]
        exact ⟨rfl, rfl⟩
      · refine WC_skip (thenN ?_)
        try simp only [Bp, Bq] at *
        have hrep : List.replicate (H.ops.length - k) (Value.slice none 0 0) = .slice none 0 0 :: List.replicate (H.ops.length - (k + 1)) (Value.slice none 0 0) := by rw [show H.ops.length - k = (H.ops.length - (k + 1)) + 1 from by omega, List.replicate_succ]
        have hyl := hI.len
        refine WC_region (Lq (q_move rfl) (Lq (q_move rfl) (Lq (q_move rfl) (Lq (q_idxOwn Tryd.underlying102 ti29 rfl rfl (by omega) (by omega)) (WL_main rfl (OW_storeC ti29 rfl rfl rfl (by rw [List.length_append, List.length_map, List.length_replicate]; omega) (.s (.z)) (WL_nil (blockN (thenN ?_)))))))))
        have hcell : (ys.map slC ++ List.replicate (H.ops.length - k) (Value.slice none 0 0)).set ((k : Int).toNat * 1) (.slice A3 (thrF (H.ents[k].now) at_ n).1.length c3) = (ys ++ [((thrF H.ents[k].now at_ n).1, A3, c3)]).map slC ++ List.replicate (H.ops.length - (k + 1)) (Value.slice none 0 0) := by
          have hk0 : (k : Int).toNat * 1 = (ys.map slC).length := by rw [List.length_map]; omega
          rw [hk0, List.set_append_right _ _ (Nat.le_refl _), Nat.sub_self, hrep]; simp [slC]
        refine WC_fact (A := slsF (ys ++ [((thrF H.ents[k].now at_ n).1, A3, c3)])) (fun Z w hs x hx => ?_) ?_
        · rcases List.mem_append.1 hx with hx | hx
          · exact hs.facts _ (.tail _ (.tail _ (.tail _ (.tail _ (.tail _ (.head _)))))) x hx
          · obtain rfl := List.mem_singleton.1 hx; exact hs.facts _ (.head _)
        rw [hcell]
        refine WC_region (Lq (q_add rfl rfl (wr64 (by omega))) (Lq (q_move rfl) (WL_nil (thenK ?_))))
        refine ⟨(k + 1, ys ++ [((thrF H.ents[k].now at_ n).1, A3, c3)]), ?_, (.cons rfl (.cons rfl (.cons rfl (.cons rfl (.cons rfl (.cons rfl (.cons rfl (.nil _)))))))), (List.Sublist.cons _ (List.Sublist.cons_cons _ (List.Sublist.cons_cons _ (List.Sublist.cons_cons _ (List.Sublist.cons_cons _ (List.Sublist.refl _)))))), (memc (.head _) (fun _ h => .tail _ (.tail _ (.tail _ (.tail _ (.tail _ (.tail _ (.tail _ h))))))))⟩
        exact ⟨by show H.ops.length - (k + 1) < H.ops.length - k; omega, hI.next hke (by omega) A3 c3⟩
    · refine WC_exit (thenExit (thenExit (blockHit (thenN (WC_seq ?_)))))
      try simp only [Bp, Bq] at *
      have hyl := hI.len
      have hle := hI.le
      have hdone := hI.done (by omega)
      refine WC_fact (A := RepsF rsl (ys.map Prod.fst) (ys.map fun x => [slC x])) (fun Z w hs => sls_reps (hs.facts _ (.head _))) ?_
      have hrow : Row 29 rsl.sz (.slice (some ⟨bo, 0, none⟩) H.ops.length H.ops.length) H.ops.length (ys.map fun x => [slC x]).flatten [(bo, cellsO (ys.map slC ++ List.replicate (H.ops.length - k) (Value.slice none 0 0)) 29)] := by
        rw [sls_flat]
        exact ⟨by rw [List.length_map]; show _ = _ * 1; omega, .inr ⟨bo, _, _, rfl, rfl, by rw [List.length_append, List.length_map, List.length_replicate]; show _ = _ * 1; omega, Nat.le_refl _, by unfold maxLen; omega⟩⟩
      refine WC_freeze (e := rsl) (css := ys.map fun x => [slC x]) (xs := ys.map Prod.fst) hrow (.z) (by rw [List.length_map]; omega) (.head _) fun Ao co eo => ?_
      obtain ⟨rfl, _, rfl⟩ := Value.slice.inj eo
      refine WC_region (Lq (q_move rfl) (Lq (q_assign rfl) (Lq (q_assign rfl) (WL_nil (thenN (WC_ret ?_))))))
      refine ⟨_, [_, _, _], [_], fun Z w hs => .tmp rfl (.tmp rfl (.nil)), ?_, fun Z w hs => hs.out (List.Sublist.cons_cons _ (List.Sublist.cons_cons _ (List.Sublist.cons_cons _ (List.Sublist.refl _)))) (memc (.head _) (fun _ h => .tail _ (.tail _ (.tail _ h))))⟩
      refine ⟨rfl, ?_⟩
      rw [hdone]
      exact ⟨_, _, by rw [List.length_map, hyl, show k = H.ops.length from by omega]; rfl, rfl⟩

end Go.Proofs.YtggdddkbhigjoaaDoor
/- Walks: history.turn, turned. -/
namespace Go.Proofs.YtggdddkbhigjoaaDoor
open Go Go.GW
/-- What a method answers that makes an operation. -/
def OpR (r : GOp) (ps : List Part) : Value → List Part → List Fact → Prop := fun v Lo fs => ∃ (A' : Option Addr) (c' : Nat), v = opV r A' c' ∧ Lo = ps ∧ fs = [RdF rgD A' c' r.rs]
theorem bd28_1Xw15 (x1_ : Int) (w : World) : (Instr.build 28 #[(1, .int .i64 x1_)]).run Tryd.prog w = .ok (.agg #[.int .i64 0, .int .i64 0, .int .i64 x1_]) w := by kernel_rfl
theorem bd31_0_3Xw15 (x0_0a0 : Int) (x0_0a1 : Int) (x0_1 : Int) (x3_A : Option Addr) (x3_n x3_c : Nat) (w : World) : (Instr.build 31 #[(0, .agg #[.int .i64 x0_0a0, .int .i64 x0_0a1, .int .i64 x0_1]), (3, .slice x3_A x3_n x3_c)]).run Tryd.prog w = .ok (.agg #[.int .i64 x0_0a0, .int .i64 x0_0a1, .int .i64 x0_1, .int .i64 0, .string ⟨#[]⟩, .slice x3_A x3_n x3_c, .int .i64 0, .int .i64 0, .bool false]) w := by kernel_rfl

set_option maxRecDepth 10000 in
theorem turn_s (h m cap : Nat) (A : Option Addr) (H : Hist) (L : List MR) (hr : HR H L) (xs : List GOp) (tot : Int) (hx : xs = H.ops) (j k : Nat) (xb : Nat) (xA : Option Addr) (xc : Nat) (hk : k < H.ents.length) (hj : L[j]? = some ⟨markAt k H.ents[k], xb, xA, xc⟩) (on : Bool) : Sp Tryd.prog 59 [.pointer (some ⟨h, 0, none⟩), .pointer (some ⟨xb, 0, none⟩), .bool on] [hdP h A xs.length cap m tot, mkP L] [RdF opD A cap xs, AllF L nowF] (OpR (turnF H.ents[k] on) [hdP h A xs.length cap m tot, mkP L]) := by
  subst hx
  have hol := ops_len H
  have hlen := hr.len
  refine Sp.of (n := 31) ⟨_, Tryd.func59, rfl, rfl, rfl, rfl⟩ (Nat.le_of_ble_eq_true rfl) fun Ps As => WC_seq (WC_region (WL_main rfl (OW_alloc (cs := [_, _, _, _, _, _, _, _, _]) ti31 rfl (by decide) fun b6 => WL_nil (thenN (WC_seq (WC_region (Lq (q_assign rfl) (WL_nil (thenN (WC_seq (WC_seq ?_)))))))))))
  have hko : k < H.ops.length := by omega
  have hop := ops_at hk
  refine WC_elem (k := k) (.head _) (List.getElem?_eq_getElem hko) (op_open _) fun bo qo yo eo => ?_
  cases eo
  refine WC_all _ (.tail _ (.tail _ (.tail _ (.head _)))) (List.mem_of_getElem? hj) (WC_draw _ _ [] (.c 0 0 (.c 1 0 (.c 2 0 (.c 3 0 (.c 4 0 (.c 5 0 (.c 6 0 (.c 7 0 (.c 8 0 (.c 9 0 (.c 10 0 (.c 11 0 (.c 12 0 (.c 13 0 (.c 14 0 .nil))))))))))))))) mixed (fun _ _ _ _ h => h) (List.Sublist.cons_cons _ (List.Sublist.cons_cons _ (List.Sublist.cons_cons _ (List.Sublist.refl _)))) (fun _ h => h) (by kernel_rfl) (by decide) fun ws Z0 => Qe rfl (q_move rfl) (Qe rfl (q_nil rfl) (Qe rfl (q_field (o' := 0) Tryd.underlying97 rfl ti45 rfl rfl) (Qe rfl (q_load1 Tryd.underlying45 rfl rfl (ownS (own0)) rfl) (Qe rfl (q_move rfl) (Qe rfl (q_nil rfl) (Qe rfl (q_field (o' := 0) Tryd.underlying101 rfl ti3 rfl rfl) (Qe rfl (q_load1 (v := .int .i64 (k : Int)) Tryd.underlying3 rfl rfl (ownS (ownS (ownI (mkP_mem hj)))) rfl) ?_))))))))
  refine Qe rfl (q_idxRd Tryd.underlying45 ti31 rfl rfl (by omega) (by omega)) (Qe rfl (q_field (o' := _ + 0) Tryd.underlying31 rfl ti28 rfl rfl) (Qe rfl (q_field (o' := _ + 2) Tryd.underlying28 rfl ti26 rfl rfl) (Qe rfl (q_loadF1 (j := 2) Tryd.underlying26 rfl rfl (.tail _ (.head _)) rfl rfl) (Qe rfl (q_eql rfl rfl) (Qe rfl (q_move rfl) (Qe rfl (q_beql' Tryd.underlying4 rfl rfl) (WE_end (WF_nil (thenN (WC_fr [(22, _), (7, _), (6, _), (1, _)] (.cons rfl (.cons rfl (.cons rfl (.cons rfl (.nil _))))) ?_))))))))))
  refine WC_cond rfl (fun h22 => ?_) (fun h22 => ?_)
  · refine WC_region (Lq (q_assign rfl) (WL_nil (thenN (WC_seq (WC_region (Lq (q_move rfl) (Lq (q_build (.cons rfl (.nil)) (bd28_1Xw15 _)) (Lq (q_move rfl) (Lq (q_nil rfl) (Lq (q_field (o' := 1) Tryd.underlying101 rfl ti29 rfl rfl) (Lq (q_load1 Tryd.underlying29 rfl rfl (ownS (ownS (ownI (mkP_mem hj)))) rfl) (Lq (q_build (.cons rfl (.cons rfl (.nil))) (bd31_0_3Xw15 _ _ _ _ _ _)) ?_))))))))))))
    refine WL_main rfl (OW_call0 (clone_s { zeroOp with kind := 2, rs := H.ents[k].now } xA xc (hr.now _ (List.getElem_mem hk))) (.cons rfl (.nil)) (by decide) (memc (.tail _ (.head _)) mem0) fun u4_7 Lo fs hres => ?_)
    obtain ⟨A1, c1, rfl, rfl, rfl⟩ := hres
    refine WL_main rfl (OW_storeN (cs' := [_, _, _, _, _, _, _, _, _]) (vs := [_, _, _, _, _, _, _, _, _]) ti31 rfl rfl rfl rfl rfl (Nat.le_of_ble_eq_true rfl) (.z) (WL_nil (thenN (WC_ret ?_))))
    refine ⟨_, [_, _], [_], fun Z w hs => RV_ownN hs Tryd.underlying31 rfl ti31 rfl own0 rfl (.nil), ?_, fun Z w hs => hs.out (List.Sublist.cons _ (List.Sublist.cons_cons _ (List.Sublist.cons_cons _ (List.Sublist.refl _)))) (memc (.head _) (fun _ h => .tail _ (.tail _ (.tail _ (.tail _ (.tail _ h))))))⟩
    try simp only [Bp, Bq] at *
    rw [hop] at h22
    have hT : turnF H.ents[k] on = { zeroOp with kind := 2, rs := H.ents[k].now } := by unfold turnF; cases on <;> simp_all
    exact ⟨A1, c1, by rw [hT]; rfl, rfl, by rw [hT]⟩
  · refine WC_skip (thenN (WC_seq (WC_region (Lq (q_move rfl) (Lq (q_build (.cons rfl (.nil)) (bd28_1Xw15 _)) (Lq (q_move rfl) (Lq (q_nil rfl) (Lq (q_field (o' := 1) Tryd.underlying101 rfl ti29 rfl rfl) (Lq (q_load1 Tryd.underlying29 rfl rfl (ownS (ownS (ownI (mkP_mem hj)))) rfl) (Lq (q_build (.cons rfl (.cons rfl (.nil))) (bd31_0_3Xw15 _ _ _ _ _ _)) (WL_main rfl (OW_call0 (clone_s { zeroOp with kind := 3, rs := H.ents[k].now } xA xc (hr.now _ (List.getElem_mem hk))) (.cons rfl (.nil)) (by decide) (memc (.tail _ (.head _)) mem0) fun u4_7 Lo fs hres => ?_))))))))))))
    obtain ⟨A1, c1, rfl, rfl, rfl⟩ := hres
    refine WL_main rfl (OW_storeN (cs' := [_, _, _, _, _, _, _, _, _]) (vs := [_, _, _, _, _, _, _, _, _]) ti31 rfl rfl rfl rfl rfl (Nat.le_of_ble_eq_true rfl) (.z) (WL_nil (thenN (WC_ret ?_))))
    refine ⟨_, [_, _], [_], fun Z w hs => RV_ownN hs Tryd.underlying31 rfl ti31 rfl own0 rfl (.nil), ?_, fun Z w hs => hs.out (List.Sublist.cons _ (List.Sublist.cons_cons _ (List.Sublist.cons_cons _ (List.Sublist.refl _)))) (memc (.head _) (fun _ h => .tail _ (.tail _ (.tail _ (.tail _ (.tail _ h))))))⟩
    try simp only [Bp, Bq] at *
    rw [hop] at h22
    have hT : turnF H.ents[k] on = { zeroOp with kind := 3, rs := H.ents[k].now } := by unfold turnF; cases on <;> simp_all
    exact ⟨A1, c1, by rw [hT]; rfl, rfl, by rw [hT]⟩

def TdP (H : Hist) (i : Nat) (o : GOp) (h m cap : Nat) (A : Option Addr) (L : List MR) : Value → List Part → List Fact → Prop := fun v Lo fs =>
  ∃ (L' : List MR) (A' : Option Addr) (c' : Nat), HR ⟨(turnedF H i o).1, H.total⟩ L' ∧ keys L' = keys L ∧ v = opV (turnedF H i o).2 A' c' ∧ Lo = [hdP h A H.ops.length cap m H.total, mpP m L, mkP L'] ∧ fs = [RdF rgD A' c' (turnedF H i o).2.rs, AllF L' nowF]
structure TdI (H : Hist) (i : Nat) (o : GOp) (k : Nat) : Prop where
  le : k ≤ (H.ops.drop i).length
  eq : laterT (H.ents.drop i) o.tc o.tn = laterT (H.ents.drop (i + k)) o.tc o.tn
theorem laterT_cons (e : Ent) (l : List Ent) (c n : Int) : laterT (e :: l) c n = ((decide (e.op.kind = 4) && (decide (e.op.tc = c) && decide (e.op.tn = n))) || laterT l c n) := rfl
theorem TdI.hit {H : Hist} {i : Nat} {o : GOp} {k : Nat} (h : TdI H i o k) (hk : i + k < H.ents.length) (h1 : H.ents[i + k].op.kind = 4 ∧ H.ents[i + k].op.tc = o.tc ∧ H.ents[i + k].op.tn = o.tn) : laterT (H.ents.drop i) o.tc o.tn = true := by
  rw [h.eq, List.drop_eq_getElem_cons hk, laterT_cons]; simp [h1]
theorem TdI.next {H : Hist} {i : Nat} {o : GOp} {k : Nat} (h : TdI H i o k) (hk : i + k < H.ents.length) (h1 : ¬ (H.ents[i + k].op.kind = 4 ∧ H.ents[i + k].op.tc = o.tc ∧ H.ents[i + k].op.tn = o.tn)) : TdI H i o (k + 1) := by
  refine ⟨by rw [List.length_drop, ops_len]; omega, ?_⟩
  rw [h.eq, List.drop_eq_getElem_cons hk, laterT_cons]
  have : (decide (H.ents[i + k].op.kind = 4) && (decide (H.ents[i + k].op.tc = o.tc) && decide (H.ents[i + k].op.tn = o.tn))) = false := by
    rw [Bool.eq_false_iff]; intro hh; simp at hh; exact h1 hh
  rw [this, Bool.false_or]; rfl
theorem TdI.done {H : Hist} {i : Nat} {o : GOp} {k : Nat} (h : TdI H i o k) (hk : ¬ i + k < H.ents.length) : laterT (H.ents.drop i) o.tc o.tn = false := by
  rw [h.eq, List.drop_eq_nil_of_le (by omega)]; rfl
theorem turnedF_1 {H : Hist} {i : Nat} {o : GOp} (h : laterT (H.ents.drop i) o.tc o.tn = true) : turnedF H i o = (H.ents, zeroOp) := by unfold turnedF; rw [if_pos h]
theorem turnedF_2 {H : Hist} {i : Nat} {o : GOp} {k : Nat} (h : laterT (H.ents.drop i) o.tc o.tn = false) (hw : whereId H.ents o.tc o.tn = some k) (hk : k < H.ents.length) (h2 : H.ents[k].off = !o.on) : turnedF H i o = (H.ents, zeroOp) := by
  unfold turnedF; rw [if_neg (by rw [h]; decide), hw]; simp only [List.getElem?_eq_getElem hk, if_pos h2]
theorem turnedF_3 {H : Hist} {i : Nat} {o : GOp} {k : Nat} (h : laterT (H.ents.drop i) o.tc o.tn = false) (hw : whereId H.ents o.tc o.tn = some k) (hk : k < H.ents.length) (h2 : ¬ H.ents[k].off = !o.on) : turnedF H i o = (H.ents.set k (offE H.ents[k] (!o.on)), turnF H.ents[k] o.on) := by
  unfold turnedF; rw [if_neg (by rw [h]; decide), hw]; simp only [List.getElem?_eq_getElem hk, if_neg h2]
theorem bd31Xw15  (w : World) : (Instr.build 31 #[]).run Tryd.prog w = .ok (.agg #[.int .i64 0, .int .i64 0, .int .i64 0, .int .i64 0, .string ⟨#[]⟩, .slice none 0 0, .int .i64 0, .int .i64 0, .bool false]) w := by kernel_rfl

set_option maxRecDepth 10000 in
theorem turned_s (h m cap : Nat) (A : Option Addr) (H : Hist) (L : List MR) (hr : HR H L) (i : Nat) (hi : i ≤ H.ents.length) (o : GOp) (Ao : Option Addr) (co k : Nat) (hw : whereId H.ents o.tc o.tn = some k) : Sp Tryd.prog 43 [.pointer (some ⟨h, 0, none⟩), .int .i64 i, opV o Ao co] [hdP h A H.ops.length cap m H.total, mpP m L, mkP L] [RdF opD A cap H.ops, AllF L nowF] (TdP H i o h m cap A L) := by
  have hol := ops_len H
  have hlen := hr.len
  obtain ⟨hk, j, x, hc, hn, hj, hm, hg⟩ := hr.look1 hw
  obtain ⟨xm, xb, xA, xc⟩ := x
  obtain rfl : xm = markAt k H.ents[k] := hm
  refine Sp.of (n := 61) ⟨_, Tryd.func43, rfl, rfl, rfl, rfl⟩ (Nat.le_of_ble_eq_true rfl) fun Ps As => WC_seq (WC_region (WL_main rfl (OW_box (cs := [_, _, _, _, _, _, _, _, _]) rfl rfl (by decide) fun b5 => WL_main rfl (OW_alloc (cs := [_, _, _, _, _, _, _, _, _]) ti31 rfl (by decide) fun b6 => WL_nil (thenN (WC_seq (WC_seq (WC_fact (A := RdF rgD none 0 []) (fun Z w hs => RdS.nil _ _ _) (WC_capLe (.tail _ (.head _)) fun hcap hcap2 => ?_)))))))))
  obtain ⟨B, hB⟩ : ∃ B, B = cutA A i cap 9 := ⟨_, rfl⟩
  have hdl : H.ops.length - i = (H.ops.drop i).length := by rw [List.length_drop]
  refine WC_fact (A := RdF opD B (cap - i) (H.ops.drop i)) (fun Z w hs => by rw [hB]; have h1 := RdS.cut (lo := i) (hi := H.ops.length) (m := cap) (hs.facts _ (.tail _ (.head _))) (by omega) (by omega) (by omega) (Nat.le_refl _); rw [List.take_length] at h1; exact h1) (WC_region (Lq (q_move rfl) (Lq (q_nil rfl) (Lq (q_field (o' := 0) Tryd.underlying97 rfl ti45 rfl rfl) (Lq (q_load1 Tryd.underlying45 rfl rfl (ownS (ownS (own0))) rfl) (Lq (q_move rfl) (Lq (q_cutLo Tryd.underlying45 ti31 rfl rfl (by omega) (by omega)) (Lq (q_len Tryd.underlying45 rfl) (Lq (q_move rfl) ?_)))))))))
  refine WL_nil (thenN (WC_block ?_))
  refine WC_loopE (α := Nat) (fun q => (H.ops.drop i).length - q)
    (fun q => [(0, .pointer (some ⟨h, 0, none⟩)), (5, .pointer (some ⟨b5, 0, none⟩)), (6, .pointer (some ⟨b6, 0, none⟩)), (15, .slice B (H.ops.drop i).length (cap - i)), (16, .int .i64 (H.ops.drop i).length), (17, .int .i64 q)])
    (fun q => ([(b6, cellsO (opC zeroOp none 0) 31)] :: [(b5, cellsO (opC o Ao co) 31)] :: hdP h A H.ops.length cap m H.total :: mpP m L :: mkP L :: Ps))
    (fun q => (RdF opD B (cap - i) (H.ops.drop i) :: RdF rgD none 0 [] :: RdF opD A cap H.ops :: AllF L nowF :: As))
    (fun q => TdI H i o q)
    0 ?_ (.cons rfl (.cons rfl (.cons rfl (.cons (by rw [hB, ← hdl]; rfl) (.cons (by rw [← hdl]; rfl) (.cons rfl (.nil _))))))) (List.Sublist.cons_cons _ (List.Sublist.cons_cons _ (List.Sublist.cons_cons _ (List.Sublist.cons_cons _ (List.Sublist.cons_cons _ (List.Sublist.refl _)))))) (fun _ h => h) ?_
  · exact ⟨Nat.zero_le _, rfl⟩
  · rintro q hI
    refine WC_seq (WC_region (Lq (q_lss rfl rfl) (WL_nil (thenN (WC_seq (WC_cond rfl (fun h18 => ?_) (fun h18 => ?_)))))))
    · refine WC_skip (thenN (WC_seq (WC_block (WC_seq ?_))))
      try simp only [Bp, Bq] at *
      have hq : q < (H.ops.drop i).length := by omega
      have hqe : i + q < H.ents.length := by rw [List.length_drop] at hq; omega
      have hop : (H.ops.drop i)[q] = H.ents[i + q].op := by rw [List.getElem_drop, ops_at]
      refine WC_elem (k := q) (.head _) (List.getElem?_eq_getElem hq) (op_open _) fun b3 q3 y3 e3 => ?_
      cases e3
      refine WC_region (Lq (q_idxRd Tryd.underlying45 ti31 rfl rfl (by omega) (by omega)) (Lq (q_loadFN (k := 0) (vs := [_, _, _, _, _, _, _, _, _]) Tryd.underlying31 rfl ti31 rfl (.head _) rfl rfl rfl) (WL_main rfl (OW_alloc (cs := [_, _, _, _, _, _, _, _, _]) ti31 rfl (by decide) fun b8 => WL_main rfl (OW_storeN (cs' := [_, _, _, _, _, _, _, _, _]) (vs := [_, _, _, _, _, _, _, _, _]) ti31 rfl rfl rfl rfl rfl (Nat.le_of_ble_eq_true rfl) (.z) (WL_nil (thenN (WC_seq (WC_region (Lq (q_field (o' := 0) Tryd.underlying31 rfl ti28 rfl rfl) (Lq (q_field (o' := 2) Tryd.underlying28 rfl ti26 rfl rfl) (Lq (q_load1 Tryd.underlying26 rfl rfl own0 rfl) (Lq (q_eql rfl rfl) ?_)))))))))))))
      refine Lq (q_move rfl) (WL_guard (t := 25) rfl (fun g25 => ?_) (fun g25 => ?_))
      · refine Lg rfl rfl rfl g25 (q_field (o' := 6) Tryd.underlying31 rfl ti25 rfl rfl) (Lg rfl rfl rfl g25 (q_loadN (vs := [_, _]) Tryd.underlying25 rfl ti25 rfl own0 rfl rfl) (Lg rfl rfl rfl g25 (q_field (o' := 6) Tryd.underlying31 rfl ti25 rfl rfl) (Lg rfl rfl rfl g25 (q_loadN (vs := [_, _]) Tryd.underlying25 rfl ti25 rfl (ownS (ownS (own0))) rfl rfl) (Lg rfl rfl rfl g25 (q_aggeql rfl rfl (eq25 _ _ _ _)) (Lq (q_pickT rfl g25 rfl) (WL_nil (thenN (WC_cond rfl (fun h31 => ?_) (fun h31 => ?_)))))))))
        · refine WC_seq (WC_region (Lq (q_build (.nil) (bd31Xw15)) (WL_main rfl (OW_storeN (cs' := [_, _, _, _, _, _, _, _, _]) (vs := [_, _, _, _, _, _, _, _, _]) ti31 rfl rfl rfl rfl rfl (Nat.le_of_ble_eq_true rfl) (.s (.z)) (WL_nil (thenN (WC_ret (blockRet (thenRet (thenRet (blockRet (thenRet ?_))))))))))))
          refine ⟨_, [_, _, _], [_, _], fun Z w hs => RV_ownN hs Tryd.underlying31 rfl ti31 rfl (ownS (own0)) rfl (.nil), ?_, fun Z w hs => hs.out (List.Sublist.cons _ (List.Sublist.cons _ (List.Sublist.cons _ (List.Sublist.cons_cons _ (List.Sublist.cons_cons _ (List.Sublist.cons_cons _ (List.Sublist.refl _))))))) (memc (.tail _ (.tail _ (.tail _ (.head _)))) (memc (.tail _ (.tail _ (.tail _ (.tail _ (.tail _ (.head _)))))) (fun _ h => .tail _ (.tail _ (.tail _ (.tail _ h))))))⟩
          try simp only [Bp, Bq] at *
          have hF : turnedF H i o = _ := turnedF_1 (hI.hit hqe (by rw [← hop]; exact ⟨g25, h31.1, h31.2⟩))
          exact ⟨L, none, 0, by rw [hF]; exact hr, rfl, by rw [hF]; rfl, rfl, by rw [hF]; rfl⟩
        · refine WC_skip (blockN (thenN (WC_region (Lq (q_add rfl rfl (wr64 (by omega))) (Lq (q_move rfl) (WL_nil (thenK ?_)))))))
          try simp only [Bp, Bq] at *
          refine ⟨q + 1, ?_, (.cons rfl (.cons rfl (.cons rfl (.cons rfl (.cons rfl (.cons rfl (.nil _))))))), (List.Sublist.cons _ (List.Sublist.cons_cons _ (List.Sublist.cons_cons _ (List.Sublist.cons_cons _ (List.Sublist.cons_cons _ (List.Sublist.cons_cons _ (List.Sublist.refl _))))))), (fun _ h => .tail _ (.tail _ h))⟩
          exact ⟨by omega, hI.next hqe (fun ⟨e1, e2, e3⟩ => by rw [← hop] at e1 e2 e3; first | exact absurd e1 g25 | (rcases h31 with h31 | h31; exact h31 e2; exact h31 e3))⟩
      · refine Ln rfl rfl rfl g25 (Ln rfl rfl rfl g25 (Ln rfl rfl rfl g25 (Ln rfl rfl rfl g25 (Ln rfl rfl rfl g25 (Lq (q_pickF rfl g25 rfl) (WL_nil (thenN (WC_false rfl rfl (WC_skip (blockN (thenN (WC_region (Lq (q_add rfl rfl (wr64 (by omega))) (Lq (q_move rfl) (WL_nil (thenK ?_))))))))))))))))
        try simp only [Bp, Bq] at *
        refine ⟨q + 1, ?_, (.cons rfl (.cons rfl (.cons rfl (.cons rfl (.cons rfl (.cons rfl (.nil _))))))), (List.Sublist.cons _ (List.Sublist.cons_cons _ (List.Sublist.cons_cons _ (List.Sublist.cons_cons _ (List.Sublist.cons_cons _ (List.Sublist.cons_cons _ (List.Sublist.refl _))))))), (fun _ h => .tail _ (.tail _ h))⟩
        exact ⟨by omega, hI.next hqe (fun ⟨e1, e2, e3⟩ => by rw [← hop] at e1 e2 e3; first | exact absurd e1 g25 | (rcases h31 with h31 | h31; exact h31 e2; exact h31 e3))⟩
    · refine WC_exit (thenExit (thenExit (blockHit (thenN (WC_seq (WC_draw _ _ [] (.c 0 0 (.c 1 0 (.c 2 0 (.c 3 0 (.c 4 0 (.c 5 0 (.c 6 0 (.c 7 0 .nil)))))))) mixed (fun _ _ _ _ h => h) (List.Sublist.cons_cons _ (List.Sublist.cons_cons _ (List.Sublist.cons_cons _ (List.Sublist.cons_cons _ (List.Sublist.cons_cons _ (List.Sublist.refl _)))))) (fun _ h => h) (by kernel_rfl) (by decide) fun ws Z0 => Qe rfl (q_move rfl) (Qe rfl (q_nil rfl) (Qe rfl (q_field (o' := 1) Tryd.underlying97 rfl ti95 rfl rfl) (Qe rfl (q_load1 Tryd.underlying95 rfl rfl (ownS (ownS (own0))) rfl) (Qe rfl (q_field (o' := 6) Tryd.underlying31 rfl ti25 rfl rfl) (Qe rfl (q_loadN (vs := [_, _]) Tryd.underlying25 rfl ti25 rfl (ownS (own0)) rfl rfl) (Qe rfl (q_lookS keyT hg Tryd.underlying95 ti99 rfl rfl (ownS (ownS (ownS (own0))))) (Qe rfl (q_assign rfl) ?_)))))))))))))
      refine WE_end (WF_nil (thenN (WC_fr [(9, _), (0, _), (5, _), (6, _)] (.cons rfl (.cons rfl (.cons rfl (.cons rfl (.nil _))))) (WC_seq (WC_seq (WC_draw _ _ [] (.c 0 0 (.c 1 0 (.c 2 0 (.c 3 0 (.c 4 0 (.c 5 0 (.c 6 0 (.c 7 0 .nil)))))))) mixed (fun _ _ _ _ h => h) (List.Sublist.cons_cons _ (List.Sublist.cons_cons _ (List.Sublist.cons_cons _ (List.Sublist.cons_cons _ (List.Sublist.cons_cons _ (List.Sublist.refl _)))))) (fun _ h => h) (by kernel_rfl) (by decide) fun ws Z0 => Qe rfl (q_move rfl) (Qe rfl (q_nil rfl) (Qe rfl (q_field (o' := 2) Tryd.underlying101 rfl ti4 rfl rfl) (Qe rfl (q_load1 (v := .bool H.ents[k].off) Tryd.underlying4 rfl rfl (ownS (ownS (ownS (ownS (ownI (mkP_mem hj)))))) rfl) (Qe rfl (q_field (o' := 8) Tryd.underlying31 rfl ti4 rfl rfl) ?_))))))))))
      refine Qe rfl (q_load1 Tryd.underlying4 rfl rfl (ownS (own0)) rfl) (Qe rfl (q_not rfl) (Qe rfl (q_beql' Tryd.underlying4 rfl rfl) (WE_end (WF_nil (thenN (WC_cond rfl (fun h48 => ?_) (fun h48 => ?_)))))))
      · refine WC_seq (WC_region (Lq (q_build (.nil) (bd31Xw15)) (WL_main rfl (OW_storeN (cs' := [_, _, _, _, _, _, _, _, _]) (vs := [_, _, _, _, _, _, _, _, _]) ti31 rfl rfl rfl rfl rfl (Nat.le_of_ble_eq_true rfl) (.z) (WL_nil (thenN (WC_ret (thenRet ?_))))))))
        refine ⟨_, [_, _, _], [_, _], fun Z w hs => RV_ownN hs Tryd.underlying31 rfl ti31 rfl own0 rfl (.nil), ?_, fun Z w hs => hs.out (List.Sublist.cons _ (List.Sublist.cons _ (List.Sublist.cons_cons _ (List.Sublist.cons_cons _ (List.Sublist.cons_cons _ (List.Sublist.refl _)))))) (memc (.tail _ (.tail _ (.tail _ (.head _)))) (memc (.tail _ (.tail _ (.tail _ (.tail _ (.tail _ (.head _)))))) (fun _ h => .tail _ (.tail _ (.tail _ (.tail _ h))))))⟩
        try simp only [Bp, Bq] at *
        have hF : turnedF H i o = _ := turnedF_2 (hI.done (by have := hI.le; rw [List.length_drop] at this; omega)) hw hk (by simpa using h48)
        exact ⟨L, none, 0, by rw [hF]; exact hr, rfl, by rw [hF]; rfl, rfl, by rw [hF]; rfl⟩
      · refine WC_skip (thenN (WC_seq (WC_region (Lq (q_move rfl) (Lq (q_field (o' := 8) Tryd.underlying31 rfl ti4 rfl rfl) (Lq (q_load1 Tryd.underlying4 rfl rfl (ownS (own0)) rfl) (Lq (q_not rfl) (Lq (q_nil rfl) (Lq (q_field (o' := 2) Tryd.underlying101 rfl ti4 rfl rfl) (WL_main rfl (OW_storeP (i := j) ti4 rfl rfl rfl (mkP_get hj) (.s (.s (.z))) (.s (.s (.s (.s (.z))))) (WL_nil (thenN (WC_fr [(9, _), (0, _), (5, _), (6, _)] (.cons rfl (.cons rfl (.cons rfl (.cons rfl (.nil _))))) ?_))))))))))))))
        refine WC_seq ?_
        try simp only [Bp, Bq] at *
        have hmk : (mkP L).set j (xb, cellsO [.int .i64 (markAt k H.ents[k]).num, .slice xA (markAt k H.ents[k]).now.length xc, .bool (!o.on)] 101) = mkP (L.set j ⟨markAt k (offE H.ents[k] (!o.on)), xb, xA, xc⟩) := by rw [mkP_set]; rfl
        rw [hmk]
        have hr' := hr.upd hk hj rfl (offE H.ents[k] (!o.on)) rfl (hr.now H.ents[k] (List.getElem_mem hk)) xA xc
        refine WC_fact (A := AllF (L.set j ⟨markAt k (offE H.ents[k] (!o.on)), xb, xA, xc⟩) nowF) (fun Z w hs => now_set (hs.facts _ (.tail _ (.tail _ (.tail _ (.tail _ (.tail _ (.head _))))))) (hs.facts _ (.tail _ (.tail _ (.tail _ (.tail _ (.tail _ (.head _)))))) ⟨markAt k H.ents[k], xb, xA, xc⟩ (List.mem_of_getElem? hj))) (WC_region (Lq (q_move rfl) (Lq (q_move rfl) (Lq (q_field (o' := 8) Tryd.underlying31 rfl ti4 rfl rfl) (Lq (q_load1 Tryd.underlying4 rfl rfl (ownS (own0)) rfl) ?_)))))
        refine WL_main rfl (OW_call2 (turn_s h m cap A _ _ hr' H.ops H.total (hops_set hk (offE H.ents[k] (!o.on)) rfl H.total).symm j k xb xA xc (by simpa using hk) (by rw [List.getElem?_set_self (by rcases Nat.lt_or_ge j L.length with hh | hh; exact hh; rw [List.getElem?_eq_none hh] at hj; cases hj)]; simp) o.on) (.cons rfl (.cons rfl (.cons rfl (.nil)))) (by decide) (.s (.s (.z))) (.s (.s (.s (.z)))) (memc (.tail _ (.tail _ (.tail _ (.tail _ (.tail _ (.head _)))))) (memc (.head _) mem0)) fun u11_4 Lo fs hres => ?_)
        obtain ⟨A1, c1, rfl, rfl, rfl⟩ := hres
        refine WL_main rfl (OW_storeN (cs' := [_, _, _, _, _, _, _, _, _]) (vs := [_, _, _, _, _, _, _, _, _]) ti31 rfl rfl rfl rfl rfl (Nat.le_of_ble_eq_true rfl) (.s (.s (.z))) (WL_nil (thenN (WC_ret ?_))))
        refine ⟨_, [_, _, _], [_, _], fun Z w hs => RV_ownN hs Tryd.underlying31 rfl ti31 rfl (ownS (ownS (own0))) rfl (.nil), ?_, fun Z w hs => (((hs.pick (.s (.z))).pick (.s (.s (.s (.s (.z)))))).pick (.s (.s (.z)))).out (List.Sublist.cons_cons _ (List.Sublist.cons_cons _ (List.Sublist.cons_cons _ (List.Sublist.cons _ (List.Sublist.cons _ (List.Sublist.refl _)))))) (memc (.head _) (memc (.tail _ (.head _)) (fun _ h => .tail _ (.tail _ (.tail _ (.tail _ (.tail _ (.tail _ h))))))))⟩
        have hF := turnedF_3 (hI.done (by have := hI.le; rw [List.length_drop] at this; omega)) hw hk (by simpa using h48)
        refine ⟨L.set j ⟨markAt k (offE H.ents[k] (!o.on)), xb, xA, xc⟩, A1, c1, by rw [hF]; exact hr', keys_set hj rfl rfl rfl, ?_, rfl, ?_⟩
        · rw [hF]; simp only [List.getElem_set_self]; rfl
        · rw [hF]; simp only [List.getElem_set_self]; rfl

end Go.Proofs.YtggdddkbhigjoaaDoor
/- Walks: history.Entry, Ops. -/
namespace Go.Proofs.YtggdddkbhigjoaaDoor
open Go Go.GW
structure GEn where
  c : Int
  n : Int
  kind : Int
  on : Bool
  rs : List Rg
  tc : Int
  tn : Int
def enC (e : GEn) (A : Option Addr) (c : Nat) : List Value := [.int .i64 e.c, .int .i64 e.n, .int .i64 e.kind, .bool e.on, .slice A e.rs.length c, .int .i64 e.tc, .int .i64 e.tn]
def enV (e : GEn) (A : Option Addr) (c : Nat) : Value := .agg (enC e A c).toArray
def entE (e : Ent) : GEn := if e.op.kind = 4 then ⟨e.op.c, e.op.n, e.op.kind, e.op.on, [], e.op.tc, e.op.tn⟩ else ⟨e.op.c, e.op.n, e.op.kind, !e.off, e.now, 0, 0⟩
def entryF (H : Hist) (i : Int) : GEn × Int := match H.ents[i.toNat]? with
  | none => (⟨0, 0, 0, false, [], 0, 0⟩, 12)
  | some e => if i < 0 then (⟨0, 0, 0, false, [], 0, 0⟩, 12) else (entE e, 0)
theorem entryF_bad {H : Hist} {i : Int} (h : i < 0 ∨ i ≥ H.ents.length) : entryF H i = (⟨0, 0, 0, false, [], 0, 0⟩, 12) := by
  unfold entryF
  cases hq : H.ents[i.toNat]? with
  | none => rfl
  | some e =>
    rcases h with h | h
    · simp [h]
    · rw [List.getElem?_eq_none (by omega)] at hq; cases hq
theorem entryF_at {H : Hist} {k : Nat} (h : k < H.ents.length) : entryF H k = (entE H.ents[k], 0) := by
  unfold entryF
  rw [Int.toNat_natCast, List.getElem?_eq_getElem h]
  simp only [if_neg (by omega : ¬ (k : Int) < 0)]
def EnP (r : GEn × Int) (ps : List Part) : Value → List Part → List Fact → Prop := fun v Lo fs => ∃ (A' : Option Addr) (c' : Nat), v = .tuple #[enV r.1 A' c', .int .i64 r.2] ∧ Lo = ps ∧ fs = [RdF rgD A' c' r.1.rs]
theorem bd42Xw16  (w : World) : (Instr.build 42 #[]).run Tryd.prog w = .ok (.agg #[.int .i64 0, .int .i64 0, .int .i64 0, .bool false, .slice none 0 0, .int .i64 0, .int .i64 0]) w := by kernel_rfl
theorem bd42_0_1_2_4Xw16 (x0_a0 : Int) (x0_a1 : Int) (x1_ : Int) (x2_ : Bool) (x4_a0 : Int) (x4_a1 : Int) (w : World) : (Instr.build 42 #[(0, .agg #[.int .i64 x0_a0, .int .i64 x0_a1]), (1, .int .i64 x1_), (2, .bool x2_), (4, .agg #[.int .i64 x4_a0, .int .i64 x4_a1])]).run Tryd.prog w = .ok (.agg #[.int .i64 x0_a0, .int .i64 x0_a1, .int .i64 x1_, .bool x2_, .slice none 0 0, .int .i64 x4_a0, .int .i64 x4_a1]) w := by kernel_rfl
theorem bd31_3Xw16 (x3_A : Option Addr) (x3_n x3_c : Nat) (w : World) : (Instr.build 31 #[(3, .slice x3_A x3_n x3_c)]).run Tryd.prog w = .ok (.agg #[.int .i64 0, .int .i64 0, .int .i64 0, .int .i64 0, .string ⟨#[]⟩, .slice x3_A x3_n x3_c, .int .i64 0, .int .i64 0, .bool false]) w := by kernel_rfl
theorem fd31_3Xw16 (x00a0 : Int) (x00a1 : Int) (x01 : Int) (x1 : Int) (x2 : ByteArray) (x3A : Option Addr) (x3n x3c : Nat) (x4a0 : Int) (x4a1 : Int) (x5 : Bool) (w : World) : (Instr.field 31 (.agg #[.int .i64 x00a0, .int .i64 x00a1, .int .i64 x01, .int .i64 x1, .string x2, .slice x3A x3n x3c, .int .i64 x4a0, .int .i64 x4a1, .bool x5]) 3).run Tryd.prog w = .ok (.slice x3A x3n x3c) w := by kernel_rfl
theorem bd42_0_1_2_3Xw16 (x0_a0 : Int) (x0_a1 : Int) (x1_ : Int) (x2_ : Bool) (x3_A : Option Addr) (x3_n x3_c : Nat) (w : World) : (Instr.build 42 #[(0, .agg #[.int .i64 x0_a0, .int .i64 x0_a1]), (1, .int .i64 x1_), (2, .bool x2_), (3, .slice x3_A x3_n x3_c)]).run Tryd.prog w = .ok (.agg #[.int .i64 x0_a0, .int .i64 x0_a1, .int .i64 x1_, .bool x2_, .slice x3_A x3_n x3_c, .int .i64 0, .int .i64 0]) w := by kernel_rfl

set_option maxRecDepth 10000 in
theorem entry_s (h m cap : Nat) (A : Option Addr) (H : Hist) (L : List MR) (hr : HR H L) (i : Int) : Sp Tryd.prog 16 [.pointer (some ⟨h, 0, none⟩), .int .i64 i] [hdP h A H.ops.length cap m H.total, mpP m L, mkP L] [RdF opD A cap H.ops, AllF L nowF] (EnP (entryF H i) [hdP h A H.ops.length cap m H.total, mpP m L, mkP L]) := by
  have hol := ops_len H
  have hlen := hr.len
  refine Sp.of (n := 69) ⟨_, Tryd.func16, rfl, rfl, rfl, rfl⟩ (Nat.le_of_ble_eq_true rfl) fun Ps As => WC_seq (WC_region (WL_main rfl (OW_alloc (cs := [_, _, _, _, _, _, _]) ti42 rfl (by decide) fun b4 => Lq (q_assign rfl) (WL_nil (thenN (WC_seq (WC_seq (WC_fact (A := RdF rgD none 0 []) (fun Z w hs => RdS.nil _ _ _) (WC_region (Lq (q_move rfl) (Lq (q_lss rfl rfl) (Lq (q_move rfl) ?_))))))))))))
  refine WL_guard (t := 10) rfl (fun g10 => ?_) (fun g10 => ?_)
  · refine Ln rfl rfl rfl g10 (Ln rfl rfl rfl g10 (Ln rfl rfl rfl g10 (Ln rfl rfl rfl g10 (Ln rfl rfl rfl g10 (Ln rfl rfl rfl g10 (Ln rfl rfl rfl g10 (Lq (q_pickT rfl g10 rfl) (WL_nil (thenN (WC_fr [(18, _), (5, _), (4, _), (0, _), (1, _)] (.cons rfl (.cons rfl (.cons rfl (.cons rfl (.cons rfl (.nil _)))))) ?_))))))))))
    refine WC_true rfl rfl (WC_seq (WC_region (Lq (q_build (.nil) (bd42Xw16)) (WL_main rfl (OW_storeN (cs' := [_, _, _, _, _, _, _]) (vs := [_, _, _, _, _, _, _]) ti42 rfl rfl rfl rfl rfl (Nat.le_of_ble_eq_true rfl) (.z) (Lq (q_assign rfl) (WL_nil (thenN (WC_ret (thenRet ?_))))))))))
    refine ⟨_, [_, _, _], [_], fun Z w hs => RV_ownN hs Tryd.underlying42 rfl ti42 rfl own0 rfl (.tmp rfl (.nil)), ?_, fun Z w hs => hs.out (List.Sublist.cons _ (List.Sublist.cons_cons _ (List.Sublist.cons_cons _ (List.Sublist.cons_cons _ (List.Sublist.refl _))))) (fun _ h => h)⟩
    try simp only [Bp, Bq] at *
    have hF := entryF_bad (H := H) (i := i) (by omega)
    exact ⟨none, 0, by rw [hF]; rfl, rfl, by rw [hF]⟩
  · refine Lg rfl rfl rfl g10 (q_move rfl) (Lg rfl rfl rfl g10 (q_move rfl) (Lg rfl rfl rfl g10 (q_nil rfl) (Lg rfl rfl rfl g10 (q_field (o' := 0) Tryd.underlying97 rfl ti45 rfl rfl) (Lg rfl rfl rfl g10 (q_load1 Tryd.underlying45 rfl rfl (ownS (own0)) rfl) (Lg rfl rfl rfl g10 (q_len Tryd.underlying45 rfl) (Lg rfl rfl rfl g10 (q_geq rfl rfl) (Lq (q_pickF rfl g10 rfl) (WL_nil (thenN (WC_fr [(18, _), (5, _), (4, _), (0, _), (1, _)] (.cons rfl (.cons rfl (.cons rfl (.cons rfl (.cons rfl (.nil _)))))) ?_))))))))))
    refine WC_cond rfl (fun h18 => ?_) (fun h18 => ?_)
    · refine WC_seq (WC_region (Lq (q_build (.nil) (bd42Xw16)) (WL_main rfl (OW_storeN (cs' := [_, _, _, _, _, _, _]) (vs := [_, _, _, _, _, _, _]) ti42 rfl rfl rfl rfl rfl (Nat.le_of_ble_eq_true rfl) (.z) (Lq (q_assign rfl) (WL_nil (thenN (WC_ret (thenRet ?_)))))))))
      refine ⟨_, [_, _, _], [_], fun Z w hs => RV_ownN hs Tryd.underlying42 rfl ti42 rfl own0 rfl (.tmp rfl (.nil)), ?_, fun Z w hs => hs.out (List.Sublist.cons _ (List.Sublist.cons_cons _ (List.Sublist.cons_cons _ (List.Sublist.cons_cons _ (List.Sublist.refl _))))) (fun _ h => h)⟩
      try simp only [Bp, Bq] at *
      have hF := entryF_bad (H := H) (i := i) (by omega)
      exact ⟨none, 0, by rw [hF]; rfl, rfl, by rw [hF]⟩
    · refine WC_skip (thenN (WC_seq ?_))
      try simp only [Bp, Bq] at *
      obtain ⟨k, rfl⟩ : ∃ k : Nat, i = (k : Int) := ⟨i.toNat, by omega⟩
      have hk : k < H.ents.length := by omega
      have hko : k < H.ops.length := by omega
      have hop := ops_at hk
      refine WC_elem (k := k) (.tail _ (.head _)) (List.getElem?_eq_getElem hko) (op_open _) fun bo qo yo eo => ?_
      cases eo
      refine WC_region (Lq (q_move rfl) (Lq (q_nil rfl) (Lq (q_field (o' := 0) Tryd.underlying97 rfl ti45 rfl rfl) (Lq (q_load1 Tryd.underlying45 rfl rfl (ownS (own0)) rfl) (Lq (q_move rfl) (Lq (q_idxRd Tryd.underlying45 ti31 rfl rfl (by omega) (by omega)) (Lq (q_loadFN (k := 0) (vs := [_, _, _, _, _, _, _, _, _]) Tryd.underlying31 rfl ti31 rfl (.head _) rfl rfl rfl) (WL_main rfl (OW_alloc (cs := [_, _, _, _, _, _, _, _, _]) ti31 rfl (by decide) fun b6 => WL_main rfl (OW_storeN (cs' := [_, _, _, _, _, _, _, _, _]) (vs := [_, _, _, _, _, _, _, _, _]) ti31 rfl rfl rfl rfl rfl (Nat.le_of_ble_eq_true rfl) (.z) ?_))))))))))
      refine WL_nil (thenN (WC_seq (WC_seq (WC_region (Lq (q_field (o' := 0) Tryd.underlying31 rfl ti28 rfl rfl) (Lq (q_field (o' := 2) Tryd.underlying28 rfl ti26 rfl rfl) (Lq (q_load1 Tryd.underlying26 rfl rfl own0 rfl) (Lq (q_eql rfl rfl) (WL_nil (thenN (WC_fr [(30, _), (6, _), (5, _), (4, _), (0, _)] (.cons rfl (.cons rfl (.cons rfl (.cons rfl (.cons rfl (.nil _)))))) (WC_cond rfl (fun h30 => ?_) (fun h30 => ?_)))))))))))))
      · refine WC_seq (WC_region (Lq (q_field (o' := 0) Tryd.underlying31 rfl ti28 rfl rfl) (Lq (q_field (o' := 0) Tryd.underlying28 rfl ti25 rfl rfl) (Lq (q_loadN (vs := [_, _]) Tryd.underlying25 rfl ti25 rfl own0 rfl rfl) (Lq (q_field (o' := 0) Tryd.underlying31 rfl ti28 rfl rfl) (Lq (q_field (o' := 2) Tryd.underlying28 rfl ti26 rfl rfl) (Lq (q_load1 Tryd.underlying26 rfl rfl own0 rfl) (Lq (q_field (o' := 8) Tryd.underlying31 rfl ti4 rfl rfl) (Lq (q_load1 Tryd.underlying4 rfl rfl own0 rfl) (Lq (q_field (o' := 6) Tryd.underlying31 rfl ti25 rfl rfl) ?_))))))))))
        refine Lq (q_loadN (vs := [_, _]) Tryd.underlying25 rfl ti25 rfl own0 rfl rfl) (Lq (q_build (.cons rfl (.cons rfl (.cons rfl (.cons rfl (.nil))))) (bd42_0_1_2_4Xw16 _ _ _ _ _ _)) (WL_main rfl (OW_storeN (cs' := [_, _, _, _, _, _, _]) (vs := [_, _, _, _, _, _, _]) ti42 rfl rfl rfl rfl rfl (Nat.le_of_ble_eq_true rfl) (.s (.z)) (Lq (q_assign rfl) (WL_nil (thenN (WC_fr [(5, _), (6, _), (4, _), (0, _)] (.cons rfl (.cons rfl (.cons rfl (.cons rfl (.nil _))))) (WC_ret (thenRet ?_)))))))))
        refine ⟨_, [_, _, _], [_], fun Z w hs => RV_ownN hs Tryd.underlying42 rfl ti42 rfl (ownS (own0)) rfl (.tmp rfl (.nil)), ?_, fun Z w hs => hs.out (List.Sublist.cons _ (List.Sublist.cons _ (List.Sublist.cons_cons _ (List.Sublist.cons_cons _ (List.Sublist.cons_cons _ (List.Sublist.refl _)))))) (fun _ h => .tail _ (.tail _ h))⟩
        try simp only [Bp, Bq] at *
        rw [hop] at h30
        have hF : entryF H (k : Int) = _ := (entryF_at hk).trans (by unfold entE; rw [if_pos h30])
        exact ⟨none, 0, by rw [hF]; simp only [hop]; rfl, rfl, by rw [hF]⟩
      · refine WC_skip (thenN (WC_seq ?_))
        obtain ⟨jm, xm, hjm, hxm, hgm⟩ := hr.look hk
        obtain ⟨xk, xb, xA, xc⟩ := xm
        obtain rfl : xk = markAt k H.ents[k] := hxm
        rw [← hop] at hgm
        refine WC_all _ (.tail _ (.tail _ (.tail _ (.tail _ (.head _))))) (List.mem_of_getElem? hjm) (WC_draw _ _ [] (.c 0 0 (.c 1 0 (.c 2 0 (.c 3 0 (.c 4 0 (.c 5 0 (.c 6 0 (.c 7 0 (.c 8 0 .nil))))))))) mixed (fun _ _ _ _ h => h) (List.Sublist.cons_cons _ (List.Sublist.cons_cons _ (List.Sublist.cons_cons _ (List.Sublist.cons_cons _ (List.Sublist.cons_cons _ (List.Sublist.refl _)))))) (fun _ h => h) (by kernel_rfl) (by decide) fun ws Z0 => Qe rfl (q_move rfl) (Qe rfl (q_nil rfl) (Qe rfl (q_field (o' := 1) Tryd.underlying97 rfl ti95 rfl rfl) (Qe rfl (q_load1 Tryd.underlying95 rfl rfl (ownS (ownS (own0))) rfl) (Qe rfl (q_field (o' := 0) Tryd.underlying31 rfl ti28 rfl rfl) (Qe rfl (q_field (o' := 0) Tryd.underlying28 rfl ti25 rfl rfl) (Qe rfl (q_loadN (vs := [_, _]) Tryd.underlying25 rfl ti25 rfl own0 rfl rfl) (Qe rfl (q_lookS keyT hgm Tryd.underlying95 ti99 rfl rfl (ownS (ownS (ownS (own0))))) ?_))))))))
        refine Qe rfl (q_assign rfl) (WE_end (WF_nil (thenN (WC_fr [(7, _), (6, _), (5, _), (4, _)] (.cons rfl (.cons rfl (.cons rfl (.cons rfl (.nil _))))) (WC_seq (WC_draw _ _ [19] (.c 0 0 (.c 1 0 (.c 2 0 (.c 3 0 (.c 4 0 (.c 5 0 (.c 6 0 (.c 7 0 (.c 8 0 (.c 9 0 (.c 10 0 (.c 11 0 (.c 12 0 (.c 13 0 (.c 14 0 (.c 15 0 (.c 16 2 (.c 17 0 (.c 18 0 (.c 19 3 (.c 20 1 .nil))))))))))))))))))))) mixed (fun _ _ _ _ h => h) (List.Sublist.cons_cons _ (List.Sublist.cons_cons _ (List.Sublist.cons_cons _ (List.Sublist.cons_cons _ (List.Sublist.cons_cons _ (List.Sublist.refl _)))))) (fun _ h => h) (by kernel_rfl) (by decide) fun ws Z0 => Qe rfl (q_field (o' := 0) Tryd.underlying31 rfl ti28 rfl rfl) (Qe rfl (q_field (o' := 0) Tryd.underlying28 rfl ti25 rfl rfl) (Qe rfl (q_loadN (vs := [_, _]) Tryd.underlying25 rfl ti25 rfl own0 rfl rfl) (Qe rfl (q_field (o' := 0) Tryd.underlying31 rfl ti28 rfl rfl) ?_)))))))))
        refine Qe rfl (q_field (o' := 2) Tryd.underlying28 rfl ti26 rfl rfl) (Qe rfl (q_load1 Tryd.underlying26 rfl rfl own0 rfl) (Qe rfl (q_move rfl) (Qe rfl (q_nil rfl) (Qe rfl (q_field (o' := 2) Tryd.underlying101 rfl ti4 rfl rfl) (Qe rfl (q_load1 (v := .bool H.ents[k].off) Tryd.underlying4 rfl rfl (ownS (ownS (ownS (ownS (ownI (mkP_mem hjm)))))) rfl) (Qe rfl (q_not rfl) (Qe rfl (q_move rfl) (Qe rfl (q_nil rfl) (Qe rfl (q_field (o' := 1) Tryd.underlying101 rfl ti29 rfl rfl) ?_)))))))))
        refine Qe rfl (q_load1 (v := .slice xA H.ents[k].now.length xc) Tryd.underlying29 rfl rfl (ownS (ownS (ownS (ownS (ownI (mkP_mem hjm)))))) rfl) (Qe rfl (q_build (.cons rfl (.nil)) (bd31_3Xw16 _ _ _)) (WE_main rfl rfl (OW_call0 (clone_s { zeroOp with rs := H.ents[k].now } xA xc (hr.now _ (List.getElem_mem hk))) (.cons rfl (.nil)) (by decide) (memc (.tail _ (.tail _ (.head _))) mem0) fun u7_16 Lo fs hres => ?_)))
        obtain ⟨A1, c1, rfl, rfl, rfl⟩ := hres
        refine ⟨⟨(List.Sublist.cons_cons _ (List.Sublist.cons_cons _ (List.Sublist.cons_cons _ (List.Sublist.cons_cons _ (List.Sublist.cons_cons _ (List.Sublist.refl _)))))), (.tail _ (.head _))⟩, ?_⟩
        refine Qe rfl (q_part rfl (fd31_3Xw16 _ _ _ _ _ _ _ _ _ _ _)) (Qe rfl (q_build (.cons rfl (.cons rfl (.cons rfl (.cons rfl (.nil))))) (bd42_0_1_2_3Xw16 _ _ _ _ _ _ _)) (WE_end (WF_last rfl rfl (OW_storeN (cs' := [_, _, _, _, _, _, _]) (vs := [_, _, _, _, _, _, _]) ti42 rfl rfl rfl rfl rfl (Nat.le_of_ble_eq_true rfl) (.s (.z)) (WF_p rfl (q_assign rfl) (by decide) (WF_nil (thenN (WC_fr [(5, _), (4, _)] (.cons rfl (.cons rfl (.nil _))) (WC_ret ?_)))))))))
        refine ⟨_, [_, _, _], [_], fun Z w hs => RV_ownN hs Tryd.underlying42 rfl ti42 rfl (ownS (own0)) rfl (.tmp rfl (.nil)), ?_, fun Z w hs => hs.out (List.Sublist.cons _ (List.Sublist.cons _ (List.Sublist.cons_cons _ (List.Sublist.cons_cons _ (List.Sublist.cons_cons _ (List.Sublist.refl _)))))) (memc (.head _) (fun _ h => .tail _ (.tail _ (.tail _ (.tail _ (.tail _ (.tail _ (.tail _ h))))))))⟩
        try simp only [Bp, Bq] at *
        rw [hop] at h30
        have hF : entryF H (k : Int) = _ := (entryF_at hk).trans (by unfold entE; rw [if_neg h30])
        exact ⟨A1, c1, by rw [hF]; simp only [hop]; rfl, rfl, by rw [hF]⟩

def OsP (H : Hist) (lo hi : Int) (ps : List Part) : Value → List Part → List Fact → Prop := fun v Lo fs => ∃ (A' : Option Addr) (c' : Nat), Lo = ps ∧
  (((lo < 0 ∨ lo > hi ∨ hi > H.ents.length) ∧ v = .tuple #[.slice none 0 0, .int .i64 12] ∧ fs = [RdF opD none 0 []]) ∨
   (¬ (lo < 0 ∨ lo > hi ∨ hi > H.ents.length) ∧ v = .tuple #[.slice A' ((H.ops.take hi.toNat).drop lo.toNat).length c', .int .i64 0] ∧ fs = [RdF opD A' c' ((H.ops.take hi.toNat).drop lo.toNat)]))

set_option maxRecDepth 10000 in
theorem hops_s (h m cap : Nat) (A : Option Addr) (H : Hist) (L : List MR) (hr : HR H L) (lo hi : Int) : Sp Tryd.prog 17 [.pointer (some ⟨h, 0, none⟩), .int .i64 lo, .int .i64 hi] [hdP h A H.ops.length cap m H.total, mpP m L, mkP L] [RdF opD A cap H.ops] (OsP H lo hi [hdP h A H.ops.length cap m H.total, mpP m L, mkP L]) := by
  have hol := ops_len H
  have hlen := hr.len
  refine Sp.of (n := 46) ⟨_, Tryd.func17, rfl, rfl, rfl, rfl⟩ (Nat.le_of_ble_eq_true rfl) fun Ps As => WC_seq (WC_region (Lq (q_assign rfl) (Lq (q_assign rfl) (WL_nil (thenN (WC_seq (WC_seq (WC_fact (A := RdF opD none 0 []) (fun Z w hs => RdS.nil _ _ _) (WC_region (Lq (q_move rfl) (Lq (q_lss rfl rfl) (Lq (q_move rfl) ?_))))))))))))
  refine WL_guard (t := 13) rfl (fun g13 => ?_) (fun g13 => ?_)
  · refine Ln rfl rfl rfl g13 (Ln rfl rfl rfl g13 (Ln rfl rfl rfl g13 (Lq (q_pickT rfl g13 rfl) (Lq (q_move rfl) (Ln rfl rfl rfl rfl (Ln rfl rfl rfl rfl (Ln rfl rfl rfl rfl (Ln rfl rfl rfl rfl (Ln rfl rfl rfl rfl ?_)))))))))
    refine Ln rfl rfl rfl rfl (Ln rfl rfl rfl rfl (Lq (q_pickT rfl rfl rfl) (WL_nil (thenN (WC_fr [(26, _), (7, _), (6, _), (0, _), (1, _), (2, _)] (.cons rfl (.cons rfl (.cons rfl (.cons rfl (.cons rfl (.cons rfl (.nil _))))))) (WC_true rfl rfl (WC_seq (WC_region (Lq (q_assign rfl) (Lq (q_assign rfl) (WL_nil (thenN (WC_ret (thenRet ?_))))))))))))))
    refine ⟨_, [_, _, _], [_], fun Z w hs => .tmp rfl (.tmp rfl (.nil)), ?_, fun Z w hs => hs.out (List.Sublist.cons_cons _ (List.Sublist.cons_cons _ (List.Sublist.cons_cons _ (List.Sublist.refl _)))) (fun _ h => h)⟩
    try simp only [Bp, Bq] at *
    exact ⟨none, 0, rfl, .inl ⟨by omega, rfl, rfl⟩⟩
  · refine Lg rfl rfl rfl g13 (q_move rfl) (Lg rfl rfl rfl g13 (q_move rfl) (Lg rfl rfl rfl g13 (q_gtr rfl rfl) (Lq (q_pickF rfl g13 rfl) (Lq (q_move rfl) (WL_guard (t := 18) rfl (fun g18 => ?_) (fun g18 => ?_))))))
    · refine Ln rfl rfl rfl g18 (Ln rfl rfl rfl g18 (Ln rfl rfl rfl g18 (Ln rfl rfl rfl g18 (Ln rfl rfl rfl g18 (Ln rfl rfl rfl g18 (Ln rfl rfl rfl g18 (Lq (q_pickT rfl g18 rfl) (WL_nil (thenN (WC_fr [(26, _), (7, _), (6, _), (0, _), (1, _), (2, _)] (.cons rfl (.cons rfl (.cons rfl (.cons rfl (.cons rfl (.cons rfl (.nil _))))))) ?_))))))))))
      refine WC_true rfl rfl (WC_seq (WC_region (Lq (q_assign rfl) (Lq (q_assign rfl) (WL_nil (thenN (WC_ret (thenRet ?_))))))))
      refine ⟨_, [_, _, _], [_], fun Z w hs => .tmp rfl (.tmp rfl (.nil)), ?_, fun Z w hs => hs.out (List.Sublist.cons_cons _ (List.Sublist.cons_cons _ (List.Sublist.cons_cons _ (List.Sublist.refl _)))) (fun _ h => h)⟩
      try simp only [Bp, Bq] at *
      exact ⟨none, 0, rfl, .inl ⟨by omega, rfl, rfl⟩⟩
    · refine Lg rfl rfl rfl g18 (q_move rfl) (Lg rfl rfl rfl g18 (q_move rfl) (Lg rfl rfl rfl g18 (q_nil rfl) (Lg rfl rfl rfl g18 (q_field (o' := 0) Tryd.underlying97 rfl ti45 rfl rfl) (Lg rfl rfl rfl g18 (q_load1 Tryd.underlying45 rfl rfl own0 rfl) (Lg rfl rfl rfl g18 (q_len Tryd.underlying45 rfl) (Lg rfl rfl rfl g18 (q_gtr rfl rfl) (Lq (q_pickF rfl g18 rfl) (WL_nil (thenN (WC_fr [(26, _), (7, _), (6, _), (0, _), (1, _), (2, _)] (.cons rfl (.cons rfl (.cons rfl (.cons rfl (.cons rfl (.cons rfl (.nil _))))))) ?_))))))))))
      refine WC_cond rfl (fun h26 => ?_) (fun h26 => ?_)
      · refine WC_seq (WC_region (Lq (q_assign rfl) (Lq (q_assign rfl) (WL_nil (thenN (WC_ret (thenRet ?_)))))))
        refine ⟨_, [_, _, _], [_], fun Z w hs => .tmp rfl (.tmp rfl (.nil)), ?_, fun Z w hs => hs.out (List.Sublist.cons_cons _ (List.Sublist.cons_cons _ (List.Sublist.cons_cons _ (List.Sublist.refl _)))) (fun _ h => h)⟩
        try simp only [Bp, Bq] at *
        exact ⟨none, 0, rfl, .inl ⟨by omega, rfl, rfl⟩⟩
      · refine WC_skip (thenN (WC_seq (WC_region (Lq (q_assign rfl) (WL_nil (thenN (WC_seq (WC_seq ?_))))))))
        try simp only [Bp, Bq] at *
        obtain ⟨lo, rfl⟩ : ∃ k : Nat, lo = (k : Int) := ⟨lo.toNat, by omega⟩
        obtain ⟨hi, rfl⟩ : ∃ k : Nat, hi = (k : Int) := ⟨hi.toNat, by omega⟩
        refine WC_capLe (.tail _ (.head _)) fun hcap hcap2 => ?_
        obtain ⟨B, hB⟩ : ∃ B, B = cutA A lo cap 9 := ⟨_, rfl⟩
        obtain ⟨xs, hxs⟩ : ∃ xs, xs = (H.ops.take hi).drop lo := ⟨_, rfl⟩
        have hxl : hi - lo = xs.length := by rw [hxs, List.length_drop, List.length_take]; omega
        have hfx : ∀ o ∈ xs, Fit o := fun o ho => by rw [hxs] at ho; have h1 := List.mem_of_mem_take (List.mem_of_mem_drop ho); obtain ⟨e, he, rfl⟩ := List.mem_map.1 h1; exact hr.fit e he
        refine WC_fact (A := RdF opD B (cap - lo) xs) (fun Z w hs => by rw [hB, hxs]; exact RdS.cut (lo := lo) (hi := hi) (m := cap) (hs.facts _ (.tail _ (.head _))) (by omega) (by omega) (by omega) (Nat.le_refl _)) (WC_fact (A := RepsF opD (xs.take 0) []) (fun Z w hs => Reps.nil) (WC_nilPart (WC_region (Lq (q_move rfl) (Lq (q_nil rfl) (Lq (q_field (o' := 0) Tryd.underlying97 rfl ti45 rfl rfl) (Lq (q_load1 Tryd.underlying45 rfl rfl (ownS (own0)) rfl) (Lq (q_move rfl) (Lq (q_move rfl) ?_)))))))))
        refine Lq (q_cutLoHi Tryd.underlying45 ti31 rfl rfl rfl (by omega) (by omega) (by omega)) (Lq (q_len Tryd.underlying45 rfl) (Lq (q_move rfl) (WL_nil (thenN (WC_fr [(35, _), (34, _), (33, _), (8, _), (7, _), (6, _)] (.cons rfl (.cons rfl (.cons rfl (.cons rfl (.cons rfl (.cons rfl (.nil _))))))) (WC_block ?_))))))
        refine WC_loopE (α := Nat × Value × Part × List (List Value)) (fun (k, v, p, css) => xs.length - k)
          (fun (k, v, p, css) => [(33, .slice B xs.length (cap - lo)), (34, .int .i64 xs.length), (35, .int .i64 k), (8, v)])
          (fun (k, v, p, css) => (p :: hdP h A H.ops.length cap m H.total :: mpP m L :: mkP L :: Ps))
          (fun (k, v, p, css) => (RepsF opD (xs.take k) css :: RdF opD B (cap - lo) xs :: RdF opD none 0 [] :: RdF opD A cap H.ops :: As))
          (fun (k, v, p, css) => k ≤ xs.length ∧ Row 31 9 v k css.flatten p)
          (0, .slice none 0 0, [], []) ?_ (.cons (by rw [hB, ← hxl]; rfl) (.cons (by rw [← hxl]; rfl) (.cons rfl (.cons rfl (.nil _))))) (List.Sublist.cons_cons _ (List.Sublist.cons_cons _ (List.Sublist.cons_cons _ (List.Sublist.cons_cons _ (List.Sublist.refl _))))) (fun _ h => h) ?_
        · exact ⟨Nat.zero_le _, Row.nil _ _⟩
        · rintro ⟨k, v, p, css⟩ hI
          have hle : k ≤ xs.length := hI.1
          have hxb : xs.length ≤ 1000000 := by rw [hxs, List.length_drop, List.length_take]; omega
          refine WC_seq (WC_region (Lq (q_lss rfl rfl) (WL_nil (thenN (WC_seq (WC_cond rfl (fun h36 => ?_) (fun h36 => ?_)))))))
          · refine WC_skip (thenN (WC_seq (WC_block (WC_seq ?_))))
            try simp only [Bp, Bq] at *
            have hk : k < xs.length := by omega
            refine WC_elem (k := k) (.tail _ (.head _)) (List.getElem?_eq_getElem hk) (op_open _) fun b6 q6 y6 e6 => ?_
            cases e6
            refine WC_region (Lq (q_idxRd Tryd.underlying45 ti31 rfl rfl (by omega) (by omega)) (Lq (q_loadFN (k := 0) (vs := [_, _, _, _, _, _, _, _, _]) Tryd.underlying31 rfl ti31 rfl (.head _) rfl rfl rfl) (WL_main rfl (OW_alloc (cs := [_, _, _, _, _, _, _, _, _]) ti31 rfl (by decide) fun b10 => WL_main rfl (OW_storeN (cs' := [_, _, _, _, _, _, _, _, _]) (vs := [_, _, _, _, _, _, _, _, _]) ti31 rfl rfl rfl rfl rfl (Nat.le_of_ble_eq_true rfl) (.z) (WL_nil (thenN (WC_region (Lq (q_move rfl) (Lq (q_loadN (vs := [_, _, _, _, _, _, _, _, _]) Tryd.underlying31 rfl ti31 rfl own0 rfl rfl) (WL_main rfl (OW_call0 (clone_s xs[k] y6.1 y6.2 (hfx _ (List.getElem_mem hk)).rs) (.cons rfl (.nil)) (by decide) (memc (.tail _ (.head _)) mem0) fun u7_2 Lo fs hres => ?_))))))))))))
            obtain ⟨A1, c1, rfl, rfl, rfl⟩ := hres
            refine WL_main rfl (OW_slice1 (cs := [_, _, _, _, _, _, _, _, _]) Tryd.underlying45 ti31 (by decide) (by decide) rfl rfl rfl rfl (by decide) fun b42 => WL_main rfl (OW_append1 (news := [_, _, _, _, _, _, _, _, _]) Tryd.underlying45 ti31 rfl (by decide) rfl rfl hI.2 own0 rfl rfl (by omega) (by unfold maxLen; omega) (by decide) (DelAt.perm (.s (.s (.z)))) fun v43 p43 hr43 => Lq (q_assign rfl) (WL_nil (blockN (thenN (WC_repsAdd (u := xs[k]) (cs := opC xs[k] A1 c1) (.tail _ (.tail _ (.tail _ (.head _)))) (fun Z w hs => ⟨A1, c1, rfl, hs.facts _ (.head _)⟩) (List.take_succ_eq_append_getElem hk) (WC_region (Lq (q_add rfl rfl (wr64 (by omega))) (Lq (q_move rfl) (WL_nil (thenK ?_)))))))))))
            refine ⟨(k + 1, v43, p43, css ++ [opC xs[k] A1 c1]), ?_, (.cons rfl (.cons rfl (.cons rfl (.cons rfl (.nil _))))), (List.Sublist.cons_cons _ (List.Sublist.cons _ (List.Sublist.cons _ (List.Sublist.cons_cons _ (List.Sublist.cons_cons _ (List.Sublist.cons_cons _ (List.Sublist.refl _))))))), (memc (.head _) (fun _ h => .tail _ (.tail _ (.tail _ (.tail _ (.tail _ h))))))⟩
            refine ⟨by show xs.length - (k + 1) < xs.length - k; omega, by show k + 1 ≤ xs.length; omega, ?_⟩
            rw [List.flatten_append, show [opC xs[k] A1 c1].flatten = opC xs[k] A1 c1 from by simp]
            exact hr43
          · refine WC_exit (thenExit (thenExit (blockHit (thenN (WC_seq ?_)))))
            try simp only [Bp, Bq] at *
            have hI1 : k ≤ xs.length := hI.1
            obtain rfl : k = xs.length := by omega
            refine WC_freeze (e := opD) (css := css) (xs := xs.take xs.length) hI.2 (.z) (by rw [List.take_length]) (.head _) fun Ao co eo => ?_
            subst eo
            rw [List.take_length]
            refine WC_region (Lq (q_move rfl) (Lq (q_assign rfl) (Lq (q_assign rfl) (WL_nil (thenN (WC_ret ?_))))))
            refine ⟨_, [_, _, _], [_], fun Z w hs => .tmp rfl (.tmp rfl (.nil)), ?_, fun Z w hs => hs.out (List.Sublist.cons_cons _ (List.Sublist.cons_cons _ (List.Sublist.cons_cons _ (List.Sublist.refl _)))) (memc (.head _) (fun _ h => .tail _ (.tail _ (.tail _ (.tail _ h)))))⟩
            subst hxs
            exact ⟨Ao, co, rfl, .inr ⟨by omega, rfl, rfl⟩⟩

end Go.Proofs.YtggdddkbhigjoaaDoor
/- Walks: history.Last. -/
namespace Go.Proofs.YtggdddkbhigjoaaDoor
open Go Go.GW
structure LsI (K : List MK) (c : Int) (seen : Array Nat) (v : Int) : Prop where
  le : ∀ (j : Nat) (y : MK), K[j]? = some y → seen.contains j = true → y.c = c → y.n ≤ v
  at_ : v = 0 ∨ ∃ y ∈ K, y.c = c ∧ y.n = v
  pos : 0 ≤ v
theorem LsI.zero (K : List MK) (c : Int) : LsI K c #[] 0 := ⟨fun j y _ h => by simp at h, .inl rfl, Int.le_refl _⟩
theorem seen_push {seen : Array Nat} {i j : Nat} (h : (seen.push j).contains i = true) : seen.contains i = true ∨ i = j := by
  simpa using h
theorem LsI.hit {K : List MK} {c : Int} {seen : Array Nat} {v : Int} (h : LsI K c seen v) {j : Nat} {y : MK} (hj : K[j]? = some y) (hc : y.c = c) : LsI K c (seen.push j) (max v y.n) := by
  refine ⟨fun i z hi hs hz => ?_, ?_, by have := h.pos; omega⟩
  · rcases seen_push hs with hs | rfl
    · have := h.le i z hi hs hz; omega
    · rw [hj] at hi; cases hi; omega
  · by_cases hv : y.n ≤ v
    · rw [show max v y.n = v from by omega]; exact h.at_
    · exact .inr ⟨y, List.mem_of_getElem? hj, hc, by omega⟩
/-- The greatest number of a client. -/
def LastIs (H : Hist) (c r : Int) : Prop := (∀ e ∈ H.ents, e.op.c = c → e.op.n ≤ r) ∧ (r = 0 ∨ ∃ e ∈ H.ents, e.op.c = c ∧ e.op.n = r) ∧ 0 ≤ r
theorem LsI.done {H : Hist} {L : List MR} (hr : HR H L) {c : Int} {seen : Array Nat} {v : Int} (h : LsI (keys L) c seen v) (hall : ∀ j, j < (keys L).length → seen.contains j = true) : LastIs H c v := by
  refine ⟨fun e he hc => ?_, ?_, h.pos⟩
  · obtain ⟨k, hk, rfl⟩ := List.mem_iff_getElem.1 he
    obtain ⟨j, x, hj, hm, _⟩ := hr.look hk
    have hkj := keys_get hj
    have hlt : j < (keys L).length := by
      rcases Nat.lt_or_ge j (keys L).length with h | h
      · exact h
      · rw [List.getElem?_eq_none h] at hkj; cases hkj
    have := h.le j _ hkj (hall j hlt)
    simp only [hm, markAt] at this
    exact this hc
  · rcases h.at_ with h1 | ⟨y, hy, hc, hn⟩
    · exact .inl h1
    · right
      obtain ⟨x, hx, rfl⟩ := List.mem_map.1 hy
      have h4 := (hr.perm.mem_iff).1 (List.mem_map.2 ⟨x, hx, rfl⟩)
      obtain ⟨k, e, h5, h6⟩ := marksFrom_mem h4
      simp only [h6, markAt] at hc hn
      exact ⟨e, List.mem_of_getElem? h5, hc, hn⟩
end Go.Proofs.YtggdddkbhigjoaaDoor
