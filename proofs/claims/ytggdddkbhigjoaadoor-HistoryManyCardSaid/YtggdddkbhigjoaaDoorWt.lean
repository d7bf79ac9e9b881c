/- Walks: HistoryMany. -/
import Derived.Test.YtggdddkbhigjoaaDoorWs
import Derived.Test.YtggdddkbhigjoaaDoorMc
set_option linter.unusedVariables false
set_option linter.unusedSimpArgs false
namespace Go.Proofs.YtggdddkbhigjoaaDoor
open Go Go.GW
theorem OsP.good {H : Hist} {lo hi : Int} {ps : List Part} {v : Value} {Lo : List Part} {fs : List Fact} {xs : List GOp} (h : OsP H lo hi ps v Lo fs) (hb : ¬ (lo < 0 ∨ lo > hi ∨ hi > H.ents.length)) (hx : (H.ops.take hi.toNat).drop lo.toNat = xs) :
    ∃ (A : Option Addr) (c : Nat), v = .tuple #[.slice A xs.length c, .int .i64 0] ∧ Lo = ps ∧ fs = [RdF opD A c xs] := by
  obtain ⟨A, c, h1, ⟨h2, _⟩ | ⟨_, h3, h4⟩⟩ := h
  · exact absurd h2 hb
  · subst hx; exact ⟨A, c, h3, h1, h4⟩
theorem last_0 {H : Hist} {r : Int} (h : LastIs H 3 r) (hn : ∀ e ∈ H.ents, e.op.c ≠ 3) : r = 0 := by
  rcases h.2.1 with h | ⟨e, he, hc, _⟩
  · exact h
  · exact absurd hc (hn e he)
def e7 (T : List Rg) : GEn := ⟨2, 1, 2, true, dRs2 T, 0, 0⟩
theorem entry_7 {T : List Rg} {H2 H3 : Hist} (D : Dk T H2 H3) : entryF H3 257 = (e7 T, 0) := by
  have hk : 257 < H3.ents.length := by rw [D.len3]; decide
  have h1 := entryF_at hk
  have h2 : H3.ents[257] = ⟨dOp2 T, dRs2 T, false⟩ := by have := D.ent3; rw [List.getElem?_eq_getElem hk] at this; exact Option.some.inj this
  rw [h2] at h1
  exact h1
theorem bd25_0_1Xw20 (x0_ : Int) (x1_ : Int) (w : World) : (Instr.build 25 #[(0, .int .i64 x0_), (1, .int .i64 x1_)]).run Tryd.prog w = .ok (.agg #[.int .i64 x0_, .int .i64 x1_]) w := by kernel_rfl
theorem bd37_0_1Xw20 (x0_ : Int) (x1_ : Int) (w : World) : (Instr.build 37 #[(0, .int .i64 x0_), (1, .int .i64 x1_)]).run Tryd.prog w = .ok (.agg #[.int .i64 x0_, .int .i64 x1_]) w := by kernel_rfl

set_option maxRecDepth 10000 in
theorem many_s : Sp Tryd.prog 3 [] [] [barF] (Is (.bool true)) := by
  refine Sp.of (n := 220) ⟨_, Tryd.func3, rfl, rfl, rfl, rfl⟩ (Nat.le_of_ble_eq_true rfl) fun Ps As => ?_
  refine WC_seq ?_
  refine WC_region ?_
  refine WL_q (q_assign rfl) (by decide) ?_
  refine WL_nil ?_
  refine thenN ?_
  refine WC_seq ?_
  refine WC_fact (A := RdF rgD none 0 []) (fun Z w hs => RdS.nil _ _ _) ?_
  refine WC_region ?_
  refine WL_main rfl (OW_call0 (new_s) (.nil) (by decide) mem0 fun u1_0 Lo fs hres => ?_)
  obtain ⟨h, m, rfl, rfl, rfl⟩ := hres
  refine WL_q (q_assign rfl) (by decide) ?_
  refine WL_nil ?_
  refine thenN ?_
  refine WC_seq ?_
  refine WC_seq ?_
  refine WC_region ?_
  refine WL_q (q_move rfl) (by decide) ?_
  refine WL_q (q_peql Tryd.underlying22 rfl rfl (by simp)) (by decide) ?_
  refine WL_nil ?_
  refine thenN ?_
  refine WC_false rfl rfl ?_
  refine WC_skip ?_
  refine thenN ?_
  refine WC_seq ?_
  refine WC_seq ?_
  refine WC_region ?_
  refine WL_q (q_assign rfl) (by decide) ?_
  refine WL_nil ?_
  refine thenN ?_
  refine WC_block ?_
  refine WC_loopE (α := Nat × List MR × Option Addr × Nat) (fun (k, L, A, cap) => 256 - k)
    (fun (k, L, A, cap) => [(1, .pointer (some ⟨h, 0, none⟩)), (2, .int .i64 k)])
    (fun (k, L, A, cap) => (hdP h A (Hk k).ops.length cap m (Hk k).total :: mpP m L :: mkP L :: Ps))
    (fun (k, L, A, cap) => (RdF opD A cap (Hk k).ops :: AllF L nowF :: RdF rgD none 0 [] :: barF :: As))
    (fun (k, L, A, cap) => k ≤ 256 ∧ HR (Hk k) L)
    (0, [], none, 0) ?_ (.cons rfl (.cons rfl (.nil _))) (List.Sublist.cons_cons _ (List.Sublist.cons_cons _ (List.Sublist.cons_cons _ (List.Sublist.refl _)))) (fun _ h => h) ?_
  · exact ⟨Nat.zero_le _, hr0⟩
  · rintro ⟨k, L, A, cap⟩ hI
    refine WC_seq ?_
    refine WC_seq ?_
    refine WC_region ?_
    refine WL_q (q_move rfl) (by decide) ?_
    refine WL_q (q_lss rfl rfl) (by decide) ?_
    refine WL_nil ?_
    refine thenN ?_
    refine WC_cond rfl (fun h23 => ?_) (fun h23 => ?_)
    · refine WC_skip ?_
      refine thenN ?_
      refine WC_seq ?_
      refine WC_block ?_
      refine WC_seq ?_
      try simp only [decide_eq_true_eq, decide_eq_false_iff_not, beq_iff_eq, bne_iff_ne, beq_eq_false_iff_ne, ne_eq, Bool.and_eq_true, Bool.not_eq_true', Bool.not_eq_false', Bool.not_eq_true, Bool.not_eq_false, bne_eq_false_iff_eq, Bool.and_eq_false_iff] at *
      have hkl : k < 256 := by omega
      refine WC_region ?_
      refine WL_main rfl (OW_alloc (cs := [_, _, _, _, _, _, _, _, _]) ti31 rfl (by decide) fun b3 => ?_)
      refine WL_nil ?_
      refine thenN ?_
      refine WC_seq ?_
      refine WC_region ?_
      refine WL_q (q_move rfl) (by decide) ?_
      refine WL_q (q_add rfl rfl (wr64 (by omega))) (by decide) ?_
      refine WL_q (q_build (.cons rfl (.cons rfl (.nil))) (bd25_0_1Xw20 _ _)) (by decide) ?_
      refine WL_q (q_field (o' := 0) Tryd.underlying31 rfl ti28 rfl rfl) (by decide) ?_
      refine WL_q (q_field (o' := 0) Tryd.underlying28 rfl ti25 rfl rfl) (by decide) ?_
      refine WL_main rfl (OW_storeN (cs' := [_, _, _, _, _, _, _, _, _]) (vs := [_, _]) ti25 rfl rfl rfl rfl rfl (Nat.le_of_ble_eq_true rfl) (.z) ?_)
      refine WL_nil ?_
      refine thenN ?_
      refine WC_seq ?_
      refine WC_region ?_
      refine WL_q (q_field (o' := 0) Tryd.underlying31 rfl ti28 rfl rfl) (by decide) ?_
      refine WL_q (q_field (o' := 2) Tryd.underlying28 rfl ti26 rfl rfl) (by decide) ?_
      refine WL_main rfl (OW_store1 ti26 rfl rfl rfl (.s (.s (.z))) (.z) ?_)
      refine WL_nil ?_
      refine thenN ?_
      refine WC_seq ?_
      refine WC_region ?_
      refine WL_q (q_move rfl) (by decide) ?_
      refine WL_q (q_mul rfl rfl (wr64 (by omega))) (by decide) ?_
      refine WL_q (q_field (o' := 3) Tryd.underlying31 rfl ti3 rfl rfl) (by decide) ?_
      refine WL_main rfl (OW_store1 ti3 rfl rfl rfl (.s (.s (.s (.z)))) (.z) ?_)
      refine WL_nil ?_
      refine thenN ?_
      refine WC_seq ?_
      refine WC_region ?_
      refine WL_q (q_move rfl) (by decide) ?_
      refine WL_main rfl (OW_call0 (words_s 256 k (by omega) (by have := hI.1; omega)) (.cons rfl (.cons rfl (.nil))) (by decide) mem0 fun u11_1 Lo fs hres => ?_)
      obtain ⟨rfl, rfl, rfl⟩ := hres
      refine WL_q (q_field (o' := 4) Tryd.underlying31 rfl ti9 rfl rfl) (by decide) ?_
      refine WL_main rfl (OW_store1 ti9 rfl rfl rfl (.s (.s (.s (.s (.z))))) (.z) ?_)
      refine WL_nil ?_
      refine thenN ?_
      refine WC_seq ?_
      refine WC_region ?_
      refine WL_q (q_move rfl) (by decide) ?_
      refine WL_q (q_move rfl) (by decide) ?_
      refine WL_q (q_loadN (vs := [_, _, _, _, _, _, _, _, _]) Tryd.underlying31 rfl ti31 rfl own0 rfl rfl) (by decide) ?_
      refine WL_main rfl (OW_call3 (put_s h m cap A (Hk k) L hI.2 k (insOp k) none 0 (fit_ins k (by omega)) (by rw [hk_ops]; omega)) (.cons rfl (.cons rfl (.cons rfl (.nil)))) (by decide) (.s (.z)) (.s (.z)) (.s (.z)) (memc (.tail _ (.tail _ (.tail _ (.head _)))) (memc (.head _) (memc (.tail _ (.head _)) (memc (.tail _ (.tail _ (.head _))) mem0)))) fun u12_3 Lo fs hres => ?_)
      obtain ⟨L2, A2, cap2, Ae2, ce2, hr2, rfl, rfl, rfl⟩ := hres
      obtain ⟨effk, hput⟩ := put_ins k (by omega)
      rw [hput] at hr2 ⊢
      refine WL_q (q_move rfl) (by decide) ?_
      refine WL_q (q_extract (vs := [_, _]) rfl rfl) (by decide) ?_
      refine WL_q (q_extract (vs := [_, _]) rfl rfl) (by decide) ?_
      refine WL_main rfl (OW_alloc (cs := [_, _, _, _, _, _, _, _, _]) ti31 rfl (by decide) fun b4 => ?_)
      refine WL_main rfl (OW_storeN (cs' := [_, _, _, _, _, _, _, _, _]) (vs := [_, _, _, _, _, _, _, _, _]) ti31 rfl rfl rfl rfl rfl (Nat.le_of_ble_eq_true rfl) (.z) ?_)
      refine WL_q (q_assign rfl) (by decide) ?_
      refine WL_nil ?_
      refine thenN ?_
      refine WC_seq ?_
      refine WC_region ?_
      refine WL_q (q_move rfl) (by decide) ?_
      refine WL_q (q_neq rfl rfl) (by decide) ?_
      refine WL_nil ?_
      refine thenN ?_
      refine WC_false rfl rfl ?_
      refine WC_skip ?_
      refine blockN ?_
      refine thenN ?_
      refine WC_region ?_
      refine WL_q (q_move rfl) (by decide) ?_
      refine WL_q (q_add rfl rfl (wr64 (by omega))) (by decide) ?_
      refine WL_q (q_assign rfl) (by decide) ?_
      refine WL_nil ?_
      refine thenK ?_
      refine ⟨(k + 1, L2, A2, cap2), ?_, (.cons rfl (.cons rfl (.nil _))), (List.Sublist.cons _ (List.Sublist.cons_cons _ (List.Sublist.cons_cons _ (List.Sublist.cons_cons _ (List.Sublist.cons _ (List.Sublist.refl _)))))), (memc (.tail _ (.head _)) (memc (.tail _ (.tail _ (.head _))) (fun _ h => .tail _ (.tail _ (.tail _ (.tail _ (.tail _ h)))))))⟩
      try simp only [decide_eq_true_eq, decide_eq_false_iff_not, beq_iff_eq, bne_iff_ne, beq_eq_false_iff_ne, ne_eq, Bool.and_eq_true, Bool.not_eq_true', Bool.not_eq_false', Bool.not_eq_true, Bool.not_eq_false, bne_eq_false_iff_eq, Bool.and_eq_false_iff] at *
      exact ⟨by show 256 - (k + 1) < 256 - k; omega, by show k + 1 ≤ 256; omega, hr2⟩
    · refine WC_exit ?_
      refine thenExit ?_
      refine thenExit ?_
      refine blockHit ?_
      refine thenN ?_
      refine WC_seq ?_
      try simp only [decide_eq_true_eq, decide_eq_false_iff_not, beq_iff_eq, bne_iff_ne, beq_eq_false_iff_ne, ne_eq, Bool.and_eq_true, Bool.not_eq_true', Bool.not_eq_false', Bool.not_eq_true, Bool.not_eq_false, bne_eq_false_iff_eq, Bool.and_eq_false_iff] at *
      have hk256 : k = 256 := by have := hI.1; omega
      obtain ⟨H1, hH1⟩ : ∃ x, x = Hk k := ⟨_, rfl⟩
      have hr1 := hI.2
      rw [← hH1] at hr1 ⊢
      have hl1 : H1.ents.length < 1000000 := by rw [hH1, hk_ops]; omega
      have hputd : ∀ T, TOk T → ∃ eff, putF H1 256 (dOp T) = (Hd T, eff, 0) := fun T h => by rw [hH1, hk256]; exact put_d h
      refine WC_region ?_
      refine WL_main rfl (OW_alloc (cs := [_, _, _, _, _, _, _, _, _]) ti31 rfl (by decide) fun b6 => ?_)
      refine WL_nil ?_
      refine thenN ?_
      refine WC_seq ?_
      refine WC_region ?_
      refine WL_q (q_build (.cons rfl (.cons rfl (.nil))) (bd25_0_1Xw20 _ _)) (by decide) ?_
      refine WL_q (q_field (o' := 0) Tryd.underlying31 rfl ti28 rfl rfl) (by decide) ?_
      refine WL_q (q_field (o' := 0) Tryd.underlying28 rfl ti25 rfl rfl) (by decide) ?_
      refine WL_main rfl (OW_storeN (cs' := [_, _, _, _, _, _, _, _, _]) (vs := [_, _]) ti25 rfl rfl rfl rfl rfl (Nat.le_of_ble_eq_true rfl) (.z) ?_)
      refine WL_nil ?_
      refine thenN ?_
      refine WC_seq ?_
      refine WC_region ?_
      refine WL_q (q_field (o' := 0) Tryd.underlying31 rfl ti28 rfl rfl) (by decide) ?_
      refine WL_q (q_field (o' := 2) Tryd.underlying28 rfl ti26 rfl rfl) (by decide) ?_
      refine WL_main rfl (OW_store1 ti26 rfl rfl rfl (.s (.s (.z))) (.z) ?_)
      refine WL_nil ?_
      refine thenN ?_
      refine WC_seq ?_
      refine WC_region ?_
      refine WL_q (q_build (.cons rfl (.cons rfl (.nil))) (bd37_0_1Xw20 _ _)) (by decide) ?_
      refine WL_main rfl (OW_slice1 (cs := [_, _]) Tryd.underlying29 ti37 (by decide) (by decide) rfl rfl rfl rfl (by decide) fun b54 => ?_)
      refine WL_q (q_field (o' := 5) Tryd.underlying31 rfl ti29 rfl rfl) (by decide) ?_
      refine WL_main rfl (OW_store1 ti29 rfl rfl rfl (.s (.s (.s (.s (.s (.z)))))) (.s (.z)) ?_)
      refine WL_nil ?_
      refine thenN ?_
      refine WC_seq ?_
      refine WC_seq ?_
      refine WC_region ?_
      refine WL_q (q_assign rfl) (by decide) ?_
      refine WL_nil ?_
      refine thenN ?_
      refine WC_block ?_
      refine WC_pick (.s (.s (.s (.s (.z))))) ?_
      refine WC_pick (.s (.s (.s (.s (.z))))) ?_
      refine WC_pick (.s (.s (.s (.s (.z))))) ?_
      refine WC_pick (.s (.s (.s (.s (.z))))) ?_
      refine WC_pick (.s (.s (.s (.s (.z))))) ?_
      refine WC_loopE (α := Nat × Value × Part) (fun (j, v, p) => 32767 - j)
        (fun (j, v, p) => [(1, .pointer (some ⟨h, 0, none⟩)), (6, .pointer (some ⟨b6, 0, none⟩)), (7, .int .i64 ((j + 1 : Nat) : Int))])
        (fun (j, v, p) => (p :: [(b6, cellsO [.int .i64 2, .int .i64 1, .int .i64 2, .int .i64 0, .string ⟨#[]⟩, v, .int .i64 0, .int .i64 0, .bool false] 31)] :: hdP h A H1.ops.length cap m H1.total :: mpP m L :: mkP L :: Ps))
        (fun (j, v, p) => (RdF opD A cap H1.ops :: AllF L nowF :: RdF rgD none 0 [] :: barF :: As))
        (fun (j, v, p) => j ≤ 32767 ∧ Row 37 2 v (j + 1) (rgs (⟨0, 2⟩ :: tailR 1 j)) p)
        (0, .slice (some ⟨b54, 0, none⟩) 1 1, [(b54, cellsO [.int .i64 0, .int .i64 2] 37)]) ?_ (.cons rfl (.cons rfl (.cons rfl (.nil _)))) (List.Sublist.refl _) (fun _ h => h) ?_
      · exact ⟨Nat.zero_le _, rfl, .inr ⟨b54, 1, [], rfl, rfl, rfl, Nat.le_refl _, by simp [maxLen]⟩⟩
      · rintro ⟨j, v, p⟩ hJ
        refine WC_seq ?_
        refine WC_seq ?_
        refine WC_region ?_
        refine WL_q (q_move rfl) (by decide) ?_
        refine WL_q (q_lss rfl rfl) (by decide) ?_
        refine WL_nil ?_
        refine thenN ?_
        refine WC_cond rfl (fun h57 => ?_) (fun h57 => ?_)
        · refine WC_skip ?_
          refine thenN ?_
          refine WC_seq ?_
          refine WC_block ?_
          refine WC_region ?_
          refine WL_q (q_field (o' := 5) Tryd.underlying31 rfl ti29 rfl rfl) (by decide) ?_
          refine WL_q (q_load1 Tryd.underlying29 rfl rfl (ownS (own0)) rfl) (by decide) ?_
          refine WL_q (q_move rfl) (by decide) ?_
          refine WL_q (q_mul rfl rfl (wr64 (by omega))) (by decide) ?_
          refine WL_q (q_add rfl rfl (wr64 (by omega))) (by decide) ?_
          refine WL_q (q_move rfl) (by decide) ?_
          refine WL_q (q_mul rfl rfl (wr64 (by omega))) (by decide) ?_
          refine WL_q (q_add rfl rfl (wr64 (by omega))) (by decide) ?_
          refine WL_q (q_build (.cons rfl (.cons rfl (.nil))) (bd37_0_1Xw20 _ _)) (by decide) ?_
          refine WL_main rfl (OW_slice1 (cs := [_, _]) Tryd.underlying29 ti37 (by decide) (by decide) rfl rfl rfl rfl (by decide) fun b69 => ?_)
          refine WL_main rfl (OW_append1 (news := [_, _]) Tryd.underlying29 ti37 rfl (by decide) rfl rfl hJ.2 own0 rfl rfl (by omega) (by unfold maxLen; omega) (by decide) (DelAt.perm (.s (.z))) fun v70 p70 hr70 => ?_)
          refine WL_q (q_field (o' := 5) Tryd.underlying31 rfl ti29 rfl rfl) (by decide) ?_
          obtain ⟨Av, cv, rfl⟩ := hr70.slice
          refine WL_main rfl (OW_store1 ti29 rfl rfl rfl (.s (.s (.s (.s (.s (.z)))))) (.s (.s (.z))) ?_)
          refine WL_nil ?_
          refine blockN ?_
          refine thenN ?_
          refine WC_region ?_
          refine WL_q (q_move rfl) (by decide) ?_
          refine WL_q (q_add rfl rfl (wr64 (by omega))) (by decide) ?_
          refine WL_q (q_assign rfl) (by decide) ?_
          refine WL_nil ?_
          refine thenK ?_
          refine ⟨(j + 1, .slice Av (j + 1 + 1) cv, p70), ?_, (.cons rfl (.cons rfl (.cons rfl (.nil _)))), (List.Sublist.cons_cons _ (List.Sublist.cons _ (List.Sublist.refl _))), (fun _ h => h)⟩
          try simp only [decide_eq_true_eq, decide_eq_false_iff_not, beq_iff_eq, bne_iff_ne, beq_eq_false_iff_ne, ne_eq, Bool.and_eq_true, Bool.not_eq_true', Bool.not_eq_false', Bool.not_eq_true, Bool.not_eq_false, bne_eq_false_iff_eq, Bool.and_eq_false_iff] at *
          refine ⟨by show 32767 - (j + 1) < 32767 - j; omega, by show j + 1 ≤ 32767; omega, ?_⟩
          have e1 : rgs (⟨0, 2⟩ :: tailR 1 (j + 1)) = rgs (⟨0, 2⟩ :: tailR 1 j) ++ [.int .i64 (2 * ((j + 1 : Nat) : Int) + 1), .int .i64 (2 * ((j + 1 : Nat) : Int) + 2)] := by
            rw [tailR_snoc, Nat.add_comm 1 j]; show rgs ((⟨0, 2⟩ :: tailR 1 j) ++ [_]) = _; rw [rgs_append, rgs_one]; rfl
          show Row 37 2 _ (j + 1 + 1) (rgs (⟨0, 2⟩ :: tailR 1 (j + 1))) p70
          rw [e1]; exact hr70
        · refine WC_exit ?_
          refine thenExit ?_
          refine thenExit ?_
          refine blockHit ?_
          refine thenN ?_
          refine WC_seq ?_
          try simp only [decide_eq_true_eq, decide_eq_false_iff_not, beq_iff_eq, bne_iff_ne, beq_eq_false_iff_ne, ne_eq, Bool.and_eq_true, Bool.not_eq_true', Bool.not_eq_false', Bool.not_eq_true, Bool.not_eq_false, bne_eq_false_iff_eq, Bool.and_eq_false_iff] at *
          have hj : j = 32767 := by have := hJ.1; omega
          obtain ⟨T, hT⟩ : ∃ x, x = tailR 1 j := ⟨_, rfl⟩
          have hTok : TOk T := TOk.mk' (by rw [hT, hj])
          have hrow := hJ.2
          rw [← hT] at hrow
          have hTl : j + 1 = (dRs T).length := by have := hTok.len; show _ = T.length + 1; omega
          refine WC_fact (A := RepsF rgD (dRs T) ((dRs T).map rgC)) (fun Z w _ => rgs_reps _ Z w) ?_
          refine WC_freeze (e := rgD) (css := (dRs T).map rgC) hrow (.z) hTl (.head _) fun Ad cd ed => ?_
          subst ed
          obtain ⟨effd, hput⟩ := hputd T hTok
          have D0 := Dk.mk' hTok
          obtain ⟨H2, hH2⟩ : ∃ x, x = Hd T := ⟨_, rfl⟩
          obtain ⟨H3, hH3⟩ : ∃ x, x = Hx T := ⟨_, rfl⟩
          rw [← hH2] at hput D0
          rw [← hH3] at D0
          have hl2 := D0.elen
          refine WC_region ?_
          refine WL_q (q_move rfl) (by decide) ?_
          refine WL_q (q_loadN (vs := [_, _, _, _, _, _, _, _, _]) Tryd.underlying31 rfl ti31 rfl own0 rfl rfl) (by decide) ?_
          refine WL_main rfl (OW_call0 (lown_s (dOp T) Ad cd (fit_d hTok).rs) (.cons rfl (.nil)) (by decide) (memc (.head _) mem0) fun u23_2 Lo fs hres => ?_)
          obtain ⟨Aw, cw, rfl, rfl, rfl⟩ := hres
          refine WL_main rfl (OW_call3 (put_s h m cap A H1 L hr1 256 (dOp T) Aw cw (fit_d hTok) (by omega)) (.cons rfl (.cons rfl (.cons rfl (.nil)))) (by decide) (.s (.z)) (.s (.z)) (.s (.z)) (memc (.tail _ (.tail _ (.tail _ (.tail _ (.tail _ (.tail _ (.head _))))))) (memc (.tail _ (.tail _ (.tail _ (.head _)))) (memc (.tail _ (.tail _ (.tail _ (.tail _ (.head _))))) (memc (.head _) mem0)))) fun u23_3 Lo fs hres => ?_)
          obtain ⟨L3, A3, cap3, Ae3, ce3, hr3, rfl, rfl, rfl⟩ := hres
          rw [hput] at hr3 ⊢
          refine WL_q (q_move rfl) (by decide) ?_
          refine WL_q (q_extract (vs := [_, _]) rfl rfl) (by decide) ?_
          refine WL_q (q_extract (vs := [_, _]) rfl rfl) (by decide) ?_
          refine WL_main rfl (OW_alloc (cs := [_, _, _, _, _, _, _, _, _]) ti31 rfl (by decide) fun b8 => ?_)
          refine WL_main rfl (OW_storeN (cs' := [_, _, _, _, _, _, _, _, _]) (vs := [_, _, _, _, _, _, _, _, _]) ti31 rfl rfl rfl rfl rfl (Nat.le_of_ble_eq_true rfl) (.z) ?_)
          refine WL_q (q_assign rfl) (by decide) ?_
          refine WL_nil ?_
          refine thenN ?_
          refine WC_seq ?_
          refine WC_seq ?_
          refine WC_region ?_
          refine WL_q (q_move rfl) (by decide) ?_
          refine WL_q (q_neq rfl rfl) (by decide) ?_
          refine WL_nil ?_
          refine thenN ?_
          refine WC_false rfl rfl ?_
          refine WC_skip ?_
          refine thenN ?_
          refine WC_seq ?_
          refine WC_region ?_
          refine WL_main rfl (OW_alloc (cs := [_, _, _, _, _, _, _, _, _]) ti31 rfl (by decide) fun b10 => ?_)
          refine WL_nil ?_
          refine thenN ?_
          refine WC_seq ?_
          refine WC_region ?_
          refine WL_q (q_build (.cons rfl (.cons rfl (.nil))) (bd25_0_1Xw20 _ _)) (by decide) ?_
          refine WL_q (q_field (o' := 0) Tryd.underlying31 rfl ti28 rfl rfl) (by decide) ?_
          refine WL_q (q_field (o' := 0) Tryd.underlying28 rfl ti25 rfl rfl) (by decide) ?_
          refine WL_main rfl (OW_storeN (cs' := [_, _, _, _, _, _, _, _, _]) (vs := [_, _]) ti25 rfl rfl rfl rfl rfl (Nat.le_of_ble_eq_true rfl) (.z) ?_)
          refine WL_nil ?_
          refine thenN ?_
          refine WC_seq ?_
          refine WC_region ?_
          refine WL_q (q_field (o' := 0) Tryd.underlying31 rfl ti28 rfl rfl) (by decide) ?_
          refine WL_q (q_field (o' := 2) Tryd.underlying28 rfl ti26 rfl rfl) (by decide) ?_
          refine WL_main rfl (OW_store1 ti26 rfl rfl rfl (.s (.s (.z))) (.z) ?_)
          refine WL_nil ?_
          refine thenN ?_
          refine WC_seq ?_
          refine WC_region ?_
          refine WL_q (q_field (o' := 3) Tryd.underlying31 rfl ti3 rfl rfl) (by decide) ?_
          refine WL_main rfl (OW_store1 ti3 rfl rfl rfl (.s (.s (.s (.z)))) (.z) ?_)
          refine WL_nil ?_
          refine thenN ?_
          refine WC_seq ?_
          refine WC_region ?_
          refine WL_q (q_field (o' := 4) Tryd.underlying31 rfl ti9 rfl rfl) (by decide) ?_
          refine WL_main rfl (OW_store1 ti9 rfl rfl rfl (.s (.s (.s (.s (.z))))) (.z) ?_)
          refine WL_nil ?_
          refine thenN ?_
          refine WC_fr [(10, _), (9, _), (1, _), (6, _)] (.cons rfl (.cons rfl (.cons rfl (.cons rfl (.nil _))))) ?_
          refine WC_seq ?_
          refine WC_region ?_
          refine WL_q (q_move rfl) (by decide) ?_
          refine WL_q (q_loadN (vs := [_, _, _, _, _, _, _, _, _]) Tryd.underlying31 rfl ti31 rfl own0 rfl rfl) (by decide) ?_
          refine WL_main rfl (OW_call3 (put_s h m cap3 A3 H2 L3 hr3 256 (xOp 1) none 0 (fit_x (by decide)) (by omega)) (.cons rfl (.cons rfl (.cons rfl (.nil)))) (by decide) (.s (.s (.z))) (.s (.s (.z))) (.s (.s (.z))) (memc (.tail _ (.tail _ (.tail _ (.tail _ (.tail _ (.tail _ (.tail _ (.tail _ (.tail _ (.head _)))))))))) (memc (.tail _ (.head _)) (memc (.tail _ (.tail _ (.head _))) (memc (.tail _ (.tail _ (.tail _ (.tail _ (.tail _ (.tail _ (.tail _ (.tail _ (.head _))))))))) mem0)))) fun u31_2 Lo fs hres => ?_)
          obtain ⟨L4, A4, cap4, Ae4, ce4, hr4, rfl, rfl, rfl⟩ := hres
          rw [D0.x1] at hr4 ⊢
          refine WL_q (q_move rfl) (by decide) ?_
          refine WL_q (q_extract (vs := [_, _]) rfl rfl) (by decide) ?_
          refine WL_q (q_extract (vs := [_, _]) rfl rfl) (by decide) ?_
          refine WL_q (q_assign rfl) (by decide) ?_
          refine WL_nil ?_
          refine thenN ?_
          refine WC_seq ?_
          refine WC_region ?_
          refine WL_q (q_move rfl) (by decide) ?_
          refine WL_q (q_loadN (vs := [_, _, _, _, _, _, _, _, _]) Tryd.underlying31 rfl ti31 rfl (ownS (ownS (ownS (own0)))) rfl rfl) (by decide) ?_
          refine WL_main rfl (OW_call3 (put_s h m cap4 A4 H2 L4 hr4 257 (xOp 1) none 0 (fit_x (by decide)) (by omega)) (.cons rfl (.cons rfl (.cons rfl (.nil)))) (by decide) (.z) (.z) (.z) (memc (.tail _ (.tail _ (.tail _ (.tail _ (.tail _ (.tail _ (.tail _ (.tail _ (.tail _ (.tail _ (.tail _ (.tail _ (.head _))))))))))))) (memc (.tail _ (.head _)) (memc (.tail _ (.tail _ (.head _))) (memc (.tail _ (.tail _ (.tail _ (.tail _ (.tail _ (.tail _ (.tail _ (.tail _ (.tail _ (.tail _ (.tail _ (.head _)))))))))))) mem0)))) fun u32_2 Lo fs hres => ?_)
          obtain ⟨L5, A5, cap5, Ae5, ce5, hr5, rfl, rfl, rfl⟩ := hres
          rw [D0.x2] at hr5 ⊢
          refine WL_q (q_move rfl) (by decide) ?_
          refine WL_q (q_extract (vs := [_, _]) rfl rfl) (by decide) ?_
          refine WL_q (q_extract (vs := [_, _]) rfl rfl) (by decide) ?_
          refine WL_main rfl (OW_alloc (cs := [_, _, _, _, _, _, _, _, _]) ti31 rfl (by decide) fun b11 => ?_)
          refine WL_main rfl (OW_storeN (cs' := [_, _, _, _, _, _, _, _, _]) (vs := [_, _, _, _, _, _, _, _, _]) ti31 rfl rfl rfl rfl rfl (Nat.le_of_ble_eq_true rfl) (.z) ?_)
          refine WL_q (q_assign rfl) (by decide) ?_
          refine WL_nil ?_
          refine thenN ?_
          refine WC_seq ?_
          refine WC_seq ?_
          refine WC_region ?_
          refine WL_q (q_move rfl) (by decide) ?_
          refine WL_q (q_neq rfl rfl) (by decide) ?_
          refine WL_q (q_move rfl) (by decide) ?_
          refine WL_gq rfl rfl rfl rfl (q_move rfl) (by decide) ?_
          refine WL_gq rfl rfl rfl rfl (q_neq rfl rfl) (by decide) ?_
          refine WL_q (q_pickF rfl rfl rfl) (by decide) ?_
          refine WL_q (q_move rfl) (by decide) ?_
          refine WL_gq rfl rfl rfl rfl (q_move rfl) (by decide) ?_
          refine WL_gmain rfl rfl rfl rfl (OW_call1 (hlen_s h m H2.ops.length cap5 A5 H2.total) (.cons rfl (.nil)) (by decide) (.s (.z)) mem0 fun u33_8 Lo fs hres => ?_)
          obtain ⟨rfl, rfl, rfl⟩ := hres
          refine WL_gq rfl rfl rfl rfl (q_neq rfl rfl) (by decide) ?_
          refine WL_q (q_pickF rfl rfl rfl) (by decide) ?_
          refine WL_q (q_move rfl) (by decide) ?_
          refine WL_gq rfl rfl rfl (by simp [D0.len]) (q_move rfl) (by decide) ?_
          refine WL_gmain rfl rfl rfl (by simp [D0.len]) (OW_call1 (htotal_s h m H2.ops.length cap5 A5 H2.total) (.cons rfl (.nil)) (by decide) (.z) mem0 fun u33_13 Lo fs hres => ?_)
          obtain ⟨rfl, rfl, rfl⟩ := hres
          refine WL_gq rfl rfl rfl (by simp [D0.len]) (q_neq rfl rfl) (by decide) ?_
          refine WL_q (q_pickF rfl (by simp [D0.len]) rfl) (by decide) ?_
          refine WL_q (q_move rfl) (by decide) ?_
          refine WL_gq rfl rfl rfl (by simp [D0.tot]) (q_move rfl) (by decide) ?_
          refine WL_gmain rfl rfl rfl (by simp [D0.tot]) (OW_call2 (last_s h m cap5 A5 H2 L5 hr5 3) (.cons rfl (.cons rfl (.nil))) (by decide) (.z) (.s (.z)) mem0 fun u33_18 Lo fs hres => ?_)
          obtain ⟨r, rfl, hlast, rfl, rfl⟩ := hres
          obtain rfl : r = 0 := last_0 hlast D0.last
          refine WL_gq rfl rfl rfl (by simp [D0.tot]) (q_neq rfl rfl) (by decide) ?_
          refine WL_q (q_pickF rfl (by simp [D0.tot]) rfl) (by decide) ?_
          refine WL_nil ?_
          refine thenN ?_
          refine WC_fr [(120, _), (12, _), (9, _), (10, _), (1, _), (6, _)] (.cons rfl (.cons rfl (.cons rfl (.cons rfl (.cons rfl (.cons rfl (.nil _))))))) ?_
          refine WC_false rfl rfl ?_
          refine WC_skip ?_
          refine thenN ?_
          refine WC_seq ?_
          refine WC_region ?_
          refine WL_q (q_field (o' := 3) Tryd.underlying31 rfl ti3 rfl rfl) (by decide) ?_
          refine WL_main rfl (OW_store1 ti3 rfl rfl rfl (.s (.s (.s (.z)))) (.s (.s (.s (.s (.z))))) ?_)
          refine WL_nil ?_
          refine thenN ?_
          refine WC_seq ?_
          refine WC_region ?_
          refine WL_q (q_move rfl) (by decide) ?_
          refine WL_q (q_loadN (vs := [_, _, _, _, _, _, _, _, _]) Tryd.underlying31 rfl ti31 rfl (ownS (ownS (ownS (ownS (own0))))) rfl rfl) (by decide) ?_
          refine WL_main rfl (OW_call3 (put_s h m cap5 A5 H2 L5 hr5 256 (xOp 2) none 0 (fit_x (by decide)) (by omega)) (.cons rfl (.cons rfl (.cons rfl (.nil)))) (by decide) (.z) (.z) (.s (.z)) (memc (.tail _ (.tail _ (.tail _ (.tail _ (.tail _ (.tail _ (.tail _ (.tail _ (.tail _ (.tail _ (.tail _ (.tail _ (.tail _ (.tail _ (.tail _ (.head _)))))))))))))))) (memc (.tail _ (.head _)) (memc (.tail _ (.tail _ (.head _))) (memc (.tail _ (.tail _ (.tail _ (.tail _ (.tail _ (.tail _ (.tail _ (.tail _ (.tail _ (.tail _ (.tail _ (.tail _ (.tail _ (.tail _ (.head _))))))))))))))) mem0)))) fun u36_2 Lo fs hres => ?_)
          obtain ⟨L6, A6, cap6, Ae6, ce6, hr6, rfl, rfl, rfl⟩ := hres
          rw [D0.x3] at hr6 ⊢
          refine WL_q (q_move rfl) (by decide) ?_
          refine WL_q (q_extract (vs := [_, _]) rfl rfl) (by decide) ?_
          refine WL_q (q_extract (vs := [_, _]) rfl rfl) (by decide) ?_
          refine WL_main rfl (OW_alloc (cs := [_, _, _, _, _, _, _, _, _]) ti31 rfl (by decide) fun b13 => ?_)
          refine WL_main rfl (OW_storeN (cs' := [_, _, _, _, _, _, _, _, _]) (vs := [_, _, _, _, _, _, _, _, _]) ti31 rfl rfl rfl rfl rfl (Nat.le_of_ble_eq_true rfl) (.z) ?_)
          refine WL_q (q_assign rfl) (by decide) ?_
          refine WL_nil ?_
          refine thenN ?_
          refine WC_seq ?_
          refine WC_region ?_
          refine WL_q (q_move rfl) (by decide) ?_
          refine WL_main rfl (OW_call3 (entry_s h m cap6 A6 H3 L6 hr6 257) (.cons rfl (.cons rfl (.nil))) (by decide) (.s (.z)) (.s (.z)) (.s (.z)) (memc (.tail _ (.head _)) (memc (.tail _ (.tail _ (.head _))) mem0)) fun u37_1 Lo fs hres => ?_)
          obtain ⟨A7, c7, rfl, rfl, rfl⟩ := hres
          rw [entry_7 D0]
          refine WL_q (q_move rfl) (by decide) ?_
          refine WL_q (q_extract (vs := [_, _]) rfl rfl) (by decide) ?_
          refine WL_q (q_extract (vs := [_, _]) rfl rfl) (by decide) ?_
          refine WL_main rfl (OW_alloc (cs := [_, _, _, _, _, _, _]) ti42 rfl (by decide) fun b14 => ?_)
          refine WL_main rfl (OW_storeN (cs' := [_, _, _, _, _, _, _]) (vs := [_, _, _, _, _, _, _]) ti42 rfl rfl rfl rfl rfl (Nat.le_of_ble_eq_true rfl) (.z) ?_)
          refine WL_q (q_assign rfl) (by decide) ?_
          refine WL_nil ?_
          refine thenN ?_
          refine WC_seq ?_
          refine WC_region ?_
          refine WL_q (q_move rfl) (by decide) ?_
          refine WL_main rfl (OW_call3 (hops_s h m cap6 A6 H3 L6 hr6 257 258) (.cons rfl (.cons rfl (.cons rfl (.nil)))) (by decide) (.s (.z)) (.s (.z)) (.s (.z)) (memc (.tail _ (.tail _ (.head _))) mem0) fun u38_1 Lo fs hres => ?_)
          obtain ⟨Az, cz, hz⟩ := hres
          obtain ⟨A8, c8, rfl, rfl, rfl⟩ := OsP.good (H := H3) (lo := 257) (hi := 258) ⟨Az, cz, hz⟩ (by rw [D0.len3]; decide) D0.ops3
          refine WL_q (q_move rfl) (by decide) ?_
          refine WL_q (q_extract (vs := [_, _]) rfl rfl) (by decide) ?_
          refine WL_q (q_extract (vs := [_, _]) rfl rfl) (by decide) ?_
          refine WL_q (q_assign rfl) (by decide) ?_
          refine WL_q (q_assign rfl) (by decide) ?_
          refine WL_nil ?_
          refine thenN ?_
          refine WC_fr [(16, _), (15, _), (12, _), (14, _), (9, _), (13, _), (1, _), (6, _)] (.cons rfl (.cons rfl (.cons rfl (.cons rfl (.cons rfl (.cons rfl (.cons rfl (.cons rfl (.nil _))))))))) ?_
          refine WC_seq ?_
          refine WC_seq ?_
          refine WC_elem (k := 0) (.head _) rfl (op_open _) fun bw qw yw ew => ?_
          cases ew
          obtain ⟨Ay, cy⟩ := yw
          refine WC_region ?_
          refine WL_q (q_move rfl) (by decide) ?_
          refine WL_q (q_neq rfl rfl) (by decide) ?_
          refine WL_q (q_move rfl) (by decide) ?_
          refine WL_gq rfl rfl rfl rfl (q_move rfl) (by decide) ?_
          refine WL_gq rfl rfl rfl rfl (q_neq rfl rfl) (by decide) ?_
          refine WL_q (q_pickF rfl rfl rfl) (by decide) ?_
          refine WL_q (q_move rfl) (by decide) ?_
          refine WL_gq rfl rfl rfl rfl (q_move rfl) (by decide) ?_
          refine WL_gq rfl rfl rfl rfl (q_neq rfl rfl) (by decide) ?_
          refine WL_q (q_pickF rfl rfl rfl) (by decide) ?_
          refine WL_q (q_move rfl) (by decide) ?_
          refine WL_gq rfl rfl rfl rfl (q_field (o' := 3) Tryd.underlying31 rfl ti3 rfl rfl) (by decide) ?_
          refine WL_gq rfl rfl rfl rfl (q_load1 Tryd.underlying3 rfl rfl (ownS (ownS (ownS (ownS (own0))))) rfl) (by decide) ?_
          refine WL_gq rfl rfl rfl rfl (q_neq rfl rfl) (by decide) ?_
          refine WL_q (q_pickF rfl rfl rfl) (by decide) ?_
          refine WL_q (q_move rfl) (by decide) ?_
          refine WL_gq rfl rfl rfl rfl (q_move rfl) (by decide) ?_
          refine WL_gq rfl rfl rfl rfl (q_len Tryd.underlying45 rfl) (by decide) ?_
          refine WL_gq rfl rfl rfl rfl (q_neq rfl rfl) (by decide) ?_
          refine WL_q (q_pickF rfl rfl rfl) (by decide) ?_
          refine WL_q (q_move rfl) (by decide) ?_
          refine WL_gq rfl rfl rfl rfl (q_field (o' := 4) Tryd.underlying42 rfl ti29 rfl rfl) (by decide) ?_
          refine WL_gq rfl rfl rfl rfl (q_load1 Tryd.underlying29 rfl rfl (ownS (ownS (ownS (own0)))) rfl) (by decide) ?_
          refine WL_gq rfl rfl rfl rfl (q_len Tryd.underlying29 rfl) (by decide) ?_
          refine WL_gq rfl rfl rfl rfl (q_neq rfl rfl) (by decide) ?_
          refine WL_q (q_pickF rfl rfl rfl) (by decide) ?_
          refine WL_q (q_move rfl) (by decide) ?_
          refine WL_gq rfl rfl rfl (by have := hTok.len; simp [e7, this]) (q_move rfl) (by decide) ?_
          refine WL_gq rfl rfl rfl (by have := hTok.len; simp [e7, this]) (q_idxRd Tryd.underlying45 ti31 rfl rfl (by decide) (by simp)) (by decide) ?_
          refine WL_gq rfl rfl rfl (by have := hTok.len; simp [e7, this]) (q_field (o' := _ + 5) Tryd.underlying31 rfl ti29 rfl rfl) (by decide) ?_
          refine WL_gq rfl rfl rfl (by have := hTok.len; simp [e7, this]) (q_loadF1 (j := 5) Tryd.underlying29 rfl rfl (.head _) rfl rfl) (by decide) ?_
          refine WL_gq rfl rfl rfl (by have := hTok.len; simp [e7, this]) (q_len Tryd.underlying29 rfl) (by decide) ?_
          refine WL_gq rfl rfl rfl (by have := hTok.len; simp [e7, this]) (q_neq rfl rfl) (by decide) ?_
          refine WL_q (q_pickF rfl (by have := hTok.len; simp [e7, this]) rfl) (by decide) ?_
          refine WL_nil ?_
          refine thenN ?_
          refine WC_fr [(171, _), (15, _), (14, _), (1, _), (6, _)] (.cons rfl (.cons rfl (.cons rfl (.cons rfl (.cons rfl (.nil _)))))) ?_
          refine WC_false rfl (by have := hTok.len; simp [dOp2, this]) ?_
          refine WC_skip ?_
          refine thenN ?_
          refine WC_seq ?_
          refine WC_seq ?_
          refine WC_region ?_
          refine WL_q (q_assign rfl) (by decide) ?_
          refine WL_nil ?_
          refine thenN ?_
          refine WC_block ?_
          refine WC_pick (.s (.s (.z))) ?_
          refine WC_pick (.s (.s (.z))) ?_
          refine WC_pick (.s (.s (.z))) ?_
          refine WC_pick (.s (.s (.s (.s (.s (.s (.s (.s (.z))))))))) ?_
          refine WC_pick (.s (.s (.s (.s (.z))))) ?_
          refine WC_loopE (α := Nat) (fun k => 32767 - k)
            (fun k => [(1, .pointer (some ⟨h, 0, none⟩)), (6, .pointer (some ⟨b6, 0, none⟩)), (14, .pointer (some ⟨b14, 0, none⟩)), (15, .slice (some ⟨bw, qw, none⟩) 1 c8), (17, .int .i64 ((k + 1 : Nat) : Int))])
            (fun k => ([(b14, cellsO (enC (e7 T) A7 c7) 42)] :: [(b6, cellsO [.int .i64 2, .int .i64 1, .int .i64 2, .int .i64 0, .string ⟨#[]⟩, (.slice Ad (dRs T).length cd), .int .i64 0, .int .i64 0, .bool false] 31)] :: hdP h A6 H3.ops.length cap6 m H3.total :: mpP m L6 :: mkP L6 :: Ps))
            (fun k => (RdF rgD A7 c7 (dRs2 T) :: FzA bw (qw + 0 * opD.sz) (opC (dOp2 T) Ay cy) :: RdF rgD Ay cy (dRs2 T) :: barF :: As))
            (fun k => k ≤ 32767)
            0 ?_ (.cons rfl (.cons rfl (.cons rfl (.cons rfl (.cons rfl (.nil _)))))) (List.Sublist.cons_cons _ (List.Sublist.cons_cons _ (List.Sublist.cons_cons _ (List.Sublist.cons_cons _ (List.Sublist.cons_cons _ (List.Sublist.cons _ (List.Sublist.cons _ (List.Sublist.cons _ (List.Sublist.cons _ (List.Sublist.refl _)))))))))) (memc (.tail _ (.tail _ (.tail _ (.head _)))) (memc (.head _) (memc (.tail _ (.head _)) (fun _ h => .tail _ (.tail _ (.tail _ (.tail _ (.tail _ (.tail _ (.tail _ (.tail _ (.tail _ (.tail _ (.tail _ (.tail _ (.tail _ (.tail _ (.tail _ (.tail _ (.tail _ (.tail _ (.tail _ (.tail _ (.tail _ (.tail _ h))))))))))))))))))))))))) ?_
          · exact Nat.zero_le _
          · rintro k hK
            refine WC_seq ?_
            refine WC_seq ?_
            refine WC_region ?_
            refine WL_q (q_move rfl) (by decide) ?_
            refine WL_q (q_lss rfl rfl) (by decide) ?_
            refine WL_nil ?_
            refine thenN ?_
            refine WC_cond rfl (fun h173 => ?_) (fun h173 => ?_)
            · refine WC_skip ?_
              refine thenN ?_
              refine WC_seq ?_
              refine WC_block ?_
              refine WC_seq ?_
              try simp only [decide_eq_true_eq, decide_eq_false_iff_not, beq_iff_eq, bne_iff_ne, beq_eq_false_iff_ne, ne_eq, Bool.and_eq_true, Bool.not_eq_true', Bool.not_eq_false', Bool.not_eq_true, Bool.not_eq_false, bne_eq_false_iff_eq, Bool.and_eq_false_iff] at *
              have hk : k < 32767 := by omega
              refine WC_region ?_
              refine WL_q (q_move rfl) (by decide) ?_
              refine WL_q (q_mul rfl rfl (wr64 (by omega))) (by decide) ?_
              refine WL_q (q_add rfl rfl (wr64 (by omega))) (by decide) ?_
              refine WL_q (q_move rfl) (by decide) ?_
              refine WL_q (q_mul rfl rfl (wr64 (by omega))) (by decide) ?_
              refine WL_q (q_add rfl rfl (wr64 (by omega))) (by decide) ?_
              refine WL_q (q_build (.cons rfl (.cons rfl (.nil))) (bd37_0_1Xw20 _ _)) (by decide) ?_
              refine WL_main rfl (OW_alloc (cs := [_, _]) ti37 rfl (by decide) fun b18 => ?_)
              refine WL_main rfl (OW_storeN (cs' := [_, _]) (vs := [_, _]) ti37 rfl rfl rfl rfl rfl (Nat.le_of_ble_eq_true rfl) (.z) ?_)
              refine WL_nil ?_
              refine thenN ?_
              refine WC_seq ?_
              have hTk : (dRs2 T)[k + 1]? = some ⟨2 * ((1 + k : Nat) : Int) + 1 + 1, 2 * ((1 + k : Nat) : Int) + 2 + 1⟩ := by rw [List.getElem?_cons_succ, List.getElem?_map, hTok.get k hk]; rfl
              refine WC_elem (k := (k + 1)) (.head _) hTk (rg_open _) fun bz qz yz ez => ?_
              cases ez
              refine WC_elem (k := (k + 1)) (.tail _ (.tail _ (.tail _ (.head _)))) hTk (rg_open _) fun bu qu yu eu => ?_
              cases eu
              refine WC_draw _ _ [] [(0, 0), (1, 0), (2, 0), (3, 0), (4, 0), (5, 0), (6, 0), (7, 0), (8, 0), (9, 0), (10, 0), (11, 0), (12, 0), (13, 0), (14, 0), (15, 0), (16, 0), (17, 0)] mixed (fun _ _ _ _ h => h) (List.Sublist.cons_cons _ (List.Sublist.cons_cons _ (List.Sublist.cons_cons _ (List.Sublist.cons_cons _ (List.Sublist.cons_cons _ (List.Sublist.cons_cons _ (List.Sublist.refl _))))))) (fun _ h => h) (by kernel_rfl) (by decide) fun ws Z0 => ?_
              refine WE_q rfl (q_field (o' := 4) Tryd.underlying42 rfl ti29 rfl rfl) (by decide) ?_
              refine WE_q rfl (q_load1 Tryd.underlying29 rfl rfl (ownS (own0)) rfl) (by decide) ?_
              refine WE_q rfl (q_move rfl) (by decide) ?_
              refine WE_q rfl (q_idxRd Tryd.underlying29 ti37 rfl rfl (by omega) (by have := hTok.len; simp [e7, this]; omega)) (by decide) ?_
              refine WE_q rfl (q_loadFN (k := 0) (vs := [_, _]) Tryd.underlying37 rfl ti37 rfl (.tail _ (.head _)) rfl rfl rfl) (by decide) ?_
              refine WE_q rfl (q_loadN (vs := [_, _]) Tryd.underlying37 rfl ti37 rfl own0 rfl rfl) (by decide) ?_
              refine WE_q rfl (q_aggneq rfl rfl (eq37 _ _ _ _)) (by decide) ?_
              refine WE_q rfl (q_move rfl) (by decide) ?_
              refine WE_gq rfl rfl rfl rfl (by simp; omega) (q_move rfl) (by decide) ?_
              refine WE_gq rfl rfl rfl rfl (by simp; omega) (q_idxRd Tryd.underlying45 ti31 rfl rfl (by decide) (by simp)) (by decide) ?_
              refine WE_gq rfl rfl rfl rfl (by simp; omega) (q_field (o' := _ + 5) Tryd.underlying31 rfl ti29 rfl rfl) (by decide) ?_
              refine WE_gq rfl rfl rfl rfl (by simp; omega) (q_loadF1 (j := 5) Tryd.underlying29 rfl rfl (.tail _ (.tail _ (.tail _ (.head _)))) rfl rfl) (by decide) ?_
              refine WE_gq rfl rfl rfl rfl (by simp; omega) (q_move rfl) (by decide) ?_
              refine WE_gq rfl rfl rfl rfl (by simp; omega) (q_idxRd Tryd.underlying29 ti37 rfl rfl (by omega) (by have := hTok.len; simp [dOp2, this]; omega)) (by decide) ?_
              refine WE_gq rfl rfl rfl rfl (by simp; omega) (q_loadFN (k := 0) (vs := [_, _]) Tryd.underlying37 rfl ti37 rfl (.head _) rfl rfl rfl) (by decide) ?_
              refine WE_gq rfl rfl rfl rfl (by simp; omega) (q_loadN (vs := [_, _]) Tryd.underlying37 rfl ti37 rfl own0 rfl rfl) (by decide) ?_
              refine WE_gq rfl rfl rfl rfl (by simp; omega) (q_aggneq rfl rfl (eq37 _ _ _ _)) (by decide) ?_
              refine WE_q rfl (q_pickF rfl (by simp; omega) rfl) (by decide) ?_
              refine WE_end (WF_nil ?_)
              refine thenN ?_
              refine WC_false rfl (by simp; omega) ?_
              refine WC_skip ?_
              refine blockN ?_
              refine thenN ?_
              refine WC_region ?_
              refine WL_q (q_move rfl) (by decide) ?_
              refine WL_q (q_add rfl rfl (wr64 (by omega))) (by decide) ?_
              refine WL_q (q_assign rfl) (by decide) ?_
              refine WL_nil ?_
              refine thenK ?_
              refine ⟨k + 1, ?_, (.cons rfl (.cons rfl (.cons rfl (.cons rfl (.cons rfl (.nil _)))))), (List.Sublist.cons _ (List.Sublist.cons_cons _ (List.Sublist.cons_cons _ (List.Sublist.cons_cons _ (List.Sublist.cons_cons _ (List.Sublist.cons_cons _ (List.Sublist.refl _))))))), (fun _ h => .tail _ (.tail _ (.tail _ h)))⟩
              try simp only [decide_eq_true_eq, decide_eq_false_iff_not, beq_iff_eq, bne_iff_ne, beq_eq_false_iff_ne, ne_eq, Bool.and_eq_true, Bool.not_eq_true', Bool.not_eq_false', Bool.not_eq_true, Bool.not_eq_false, bne_eq_false_iff_eq, Bool.and_eq_false_iff] at *
              exact ⟨by omega, by omega⟩
            · refine WC_exit ?_
              refine thenExit ?_
              refine thenExit ?_
              refine blockHit ?_
              refine thenN ?_
              refine WC_seq ?_
              refine WC_elem (k := 0) (.head _) rfl (rg_open _) fun bv qv yv ev => ?_
              cases ev
              refine WC_region ?_
              refine WL_q (q_field (o' := 0) Tryd.underlying42 rfl ti25 rfl rfl) (by decide) ?_
              refine WL_q (q_loadN (vs := [_, _]) Tryd.underlying25 rfl ti25 rfl own0 rfl rfl) (by decide) ?_
              refine WL_q (q_field (o' := 0) Tryd.underlying31 rfl ti28 rfl rfl) (by decide) ?_
              refine WL_q (q_field (o' := 0) Tryd.underlying28 rfl ti25 rfl rfl) (by decide) ?_
              refine WL_q (q_loadN (vs := [_, _]) Tryd.underlying25 rfl ti25 rfl (ownS (own0)) rfl rfl) (by decide) ?_
              refine WL_q (q_aggeql rfl rfl (eq25 _ _ _ _)) (by decide) ?_
              refine WL_q (q_move rfl) (by decide) ?_
              refine WL_gq rfl rfl rfl rfl (q_field (o' := 4) Tryd.underlying42 rfl ti29 rfl rfl) (by decide) ?_
              refine WL_gq rfl rfl rfl rfl (q_load1 Tryd.underlying29 rfl rfl own0 rfl) (by decide) ?_
              refine WL_gq rfl rfl rfl rfl (q_idxRd Tryd.underlying29 ti37 rfl rfl (by decide) (by simp [e7])) (by decide) ?_
              refine WL_gq rfl rfl rfl rfl (q_loadFN (k := 0) (vs := [_, _]) Tryd.underlying37 rfl ti37 rfl (.head _) rfl rfl rfl) (by decide) ?_
              refine WL_gq rfl rfl rfl rfl (q_build (.cons rfl (.cons rfl (.nil))) (bd37_0_1Xw20 _ _)) (by decide) ?_
              refine WL_gq rfl rfl rfl rfl (q_aggeql rfl rfl (eq37 _ _ _ _)) (by decide) ?_
              refine WL_q (q_pickT rfl rfl rfl) (by decide) ?_
              refine WL_q (q_move rfl) (by decide) ?_
              refine WL_gq rfl rfl rfl rfl (q_move rfl) (by decide) ?_
              refine WL_gmain rfl rfl rfl rfl (OW_call1 (htotal_s h m H3.ops.length cap6 A6 H3.total) (.cons rfl (.nil)) (by decide) (.s (.s (.z))) mem0 fun u47_16 Lo fs hres => ?_)
              obtain ⟨rfl, rfl, rfl⟩ := hres
              refine WL_gq rfl rfl rfl rfl (q_eql rfl rfl) (by decide) ?_
              refine WL_q (q_pickT rfl rfl rfl) (by decide) ?_
              refine WL_q (q_assign rfl) (by decide) ?_
              refine WL_nil ?_
              refine thenN ?_
              refine WC_fr [(0, _)] (.cons rfl (.nil _)) ?_
              refine WC_ret ?_
              refine ⟨_, [], [], fun Z w hs => .tmp rfl (.nil), ?_, fun Z w hs => hs.out (List.Sublist.cons _ (List.Sublist.cons _ (List.Sublist.cons _ (List.Sublist.cons _ (List.Sublist.cons _ (List.Sublist.refl _)))))) (fun _ h => .tail _ (.tail _ (.tail _ (.tail _ h))))⟩
              exact ⟨by have := D0.tot3; simp [tup, this], rfl, rfl⟩

end Go.Proofs.YtggdddkbhigjoaaDoor
