/- The walks and laws that this claim's card rests on, part 4. -/
import Derived.Laws.RangeString
import Derived.Laws.Concat
import Derived.Test.YtggdddkbhigjoaaDoorQC
set_option linter.unusedVariables false
set_option linter.unusedSimpArgs false
/- Walks: rope, mend. -/
namespace Go.Proofs.YtggdddkbhigjoaaDoor
open Go Go.GW
theorem Row.single {T : TypeId} {sz b : Nat} {cs : List Value} (hl : cs.length = sz) : Row T sz (.slice (some ⟨b, 0, none⟩) 1 1) 1 cs [(b, cellsO cs T)] :=
  ⟨by rw [hl, Nat.one_mul], .inr ⟨b, 1, [], rfl, by simp, by simp [hl], Nat.le_refl _, by simp [maxLen]⟩⟩
structure MeL (X : List Ce) (j : Nat) (t : Tr) (S : List Pc) (v : Value) (p : Part) (css : List (List Value)) : Prop where
  le : j ≤ 2
  wf : Wf t
  ok : PcOk S
  eq : t.row ++ pcsRow S = X
  row : Row 118 2 v S.length css.flatten p
structure MeR (X : List Ce) (l : Tr) (j : Nat) (t : Tr) (S : List Pc) (v : Value) (p : Part) (css : List (List Value)) : Prop where
  le : j ≤ 2
  wf : Wf t
  ok : PcOk S
  eq : l.row ++ (pcsRow S ++ t.row) = X
  row : Row 118 2 v S.length css.flatten p
structure MeJ (X : List Ce) (qs : List Pc) (i : Nat) (t : Tr) : Prop where
  le : i ≤ qs.length
  wf : Wf t
  eq : t.row = X ++ pcsRow (qs.take i)

set_option maxRecDepth 10000 in
theorem mend_r (Al Ar : Option Addr) (l r : Tr) (wl : Wf l) (wr : Wf r) (hb : l.row.length + r.row.length ≤ 1073741824) : Sp Tryd.prog 82 [.pointer Al, .pointer Ar] [] [TrF Al l, TrF Ar r] (NP (l.row ++ r.row)) := by
  refine Sp.of (n := 67) ⟨_, Tryd.func82, rfl, rfl, rfl, rfl⟩ (Nat.le_of_ble_eq_true rfl) fun Ps As => ?_
  refine WC_fact (A := TrF none .nil) (fun _ _ _ => rfl) ?_
  refine WC_seq (WC_region ?_)
  refine Lq (q_assign rfl) ?_
  refine WL_nil (thenN (WC_seq (WC_region ?_)))
  refine Lq (q_assign rfl) ?_
  refine WL_nil (thenN (WC_seq (WC_seq (WC_region ?_))))
  refine Lq (q_move rfl) ?_
  refine WL_nil (thenN (WC_block ?_))
  refine WC_nilPart ?_
  refine WC_fact (A := RepsF pcD [] []) (fun Z w _ => .nil) ?_
  refine WC_loopE (α := Nat × Option Addr × Tr × Value × Part × List Pc × List (List Value)) (fun (j, A, t, v, p, S, css) => 2 - j)
    (fun (j, A, t, v, p, S, css) => [(0, .pointer A), (1, .pointer Ar), (5, v), (14, .int .i64 j)])
    (fun (j, A, t, v, p, S, css) => (p :: Ps))
    (fun (j, A, t, v, p, S, css) => (TrF A t :: RepsF pcD S css :: TrF none .nil :: TrF Al l :: TrF Ar r :: As))
    (fun (j, A, t, v, p, S, css) => MeL l.row j t S v p css)
    (0, Al, l, .slice none 0 0, [], [], []) ?_ (.cons rfl (.cons rfl (.cons rfl (.cons rfl (.nil _))))) (List.Sublist.cons_cons _ (List.Sublist.refl _)) (memc (.tail _ (.tail _ (.head _))) (fun _ h => h)) ?_
  · exact ⟨Nat.zero_le _, wl, (fun p hp => by cases hp), by simp [pcsRow], Row.nil _ _⟩
  · rintro ⟨j, AL, tL, v, pa, S, css⟩ hI
    have wtL := hI.wf
    have eI := congrArg List.length hI.eq
    simp only [List.length_append] at eI
    have okl := hI.ok.len
    refine WC_seq (WC_region ?_)
    refine Lq (q_lss rfl rfl) ?_
    refine WL_nil (thenN (WC_seq ?_))
    refine WC_cond rfl (fun h15 => ?_) (fun h15 => ?_)
    · have hj2 : j < 2 := by simp only [decide_eq_true_eq] at h15; omega
      refine WC_skip (thenN (WC_seq (WC_block (WC_seq ?_))))
      by_cases hztL : tL = .nil
      · rw [hztL]
        refine WC_nilT (.head _) fun e => ?_
        subst e
        refine WC_region ?_
        refine Lq (q_move rfl) ?_
        refine Lq (q_pneq Tryd.underlying113 rfl rfl (by simp)) ?_
        refine WL_nil (thenN (WC_false rfl rfl (WC_skip (blockN (thenN (WC_region ?_))))))
        refine Lq (q_add rfl rfl (wr64 (by omega)) (c := ((j + 1 : Nat) : Int))) ?_
        refine Lq (q_move rfl) ?_
        refine WL_nil (thenK ?_)
        refine ⟨(j + 1, none, .nil, v, pa, S, css), ?_, (.cons rfl (.cons rfl (.cons rfl (.cons rfl (.nil _))))), (List.Sublist.cons_cons _ (List.Sublist.refl _)), (fun _ h => h)⟩
        exact ⟨by show 2 - (j + 1) < 2 - j; omega, by omega, wnilT, hI.ok, by rw [← hztL]; exact hI.eq, hI.row⟩
      · refine WC_some (.head _) hztL fun _ e => ?_
        subst e
        refine WC_region ?_
        refine Lq (q_move rfl) ?_
        refine Lq (q_pneq Tryd.underlying113 rfl rfl (by simp)) ?_
        refine WL_nil (thenN (WC_true rfl rfl (WC_seq (WC_region ?_))))
        refine Lq (q_move rfl) ?_
        refine WL_main rfl (OW_call0 (popLast_r _ tL wtL hztL (by omega)) (.cons rfl (.nil)) (by decide) (memc (.head _) mem0) fun u5_1 Lo fs hres => ?_)
        obtain ⟨A1, t1, s1, k1, C1, d1, rfl, rfl, rfl, wt1, n1, h1, r1⟩ := hres
        have e1 := congrArg List.length r1
        simp only [List.length_append, cellsOf_length] at e1
        have g1 := List.length_pos_iff.2 n1
        refine Lq (q_move rfl) ?_
        refine Lq (q_extract (vs := [_, _]) rfl rfl) ?_
        refine Lq (q_extract (vs := [_, _]) rfl rfl) ?_
        refine WL_main rfl (OW_alloc (cs := [_, _]) ti118 rfl (by decide) fun b7 => ?_)
        refine Lq (q_assign rfl) ?_
        refine WL_main rfl (OW_storeN (cs' := [_, _]) (vs := [_, _]) ti118 rfl rfl rfl rfl rfl (Nat.le_of_ble_eq_true rfl) (.z) ?_)
        refine WL_nil (thenN ?_)
        refine WC_freeze (e := pcD) (xs := S) (css := css) hI.row (.s (.z)) rfl (.tail _ (.tail _ (.tail _ (.head _)))) fun A6 c6 e6 => ?_
        subst e6
        refine WC_region ?_
        refine Lq (q_move rfl) ?_
        refine Lq (q_loadN (vs := [_, _]) Tryd.underlying118 rfl ti118 rfl own0 rfl rfl) ?_
        refine WL_main rfl (OW_slice1 (cs := [_, _]) Tryd.underlying161 ti118 (by decide) (by decide) rfl rfl rfl rfl (by decide) fun b25 => ?_)
        refine Lq (q_move rfl) ?_
        refine WL_main rfl (OW_appendS (e := pcD) (ys := S) Tryd.underlying161 ti118 rfl (by decide) rfl rfl (Row.single rfl) (.head _) (by omega) (by unfold maxLen; omega) (by decide) (List.Perm.refl _) fun v27 p27 cs27 hr27 => ?_)
        refine Lq (q_assign rfl) ?_
        refine Lq (q_assign rfl) ?_
        refine WL_nil (blockN (thenN ?_))
        refine WC_fact (A := RepsF pcD (⟨s1, k1⟩ :: S) (pcC s1 k1 C1 d1 :: cs27)) (fun Z w hs => .cons ⟨_, _, rfl, hs.facts _ (.tail _ (.tail _ (.tail _ (.head _))))⟩ (hs.facts _ (.head _))) ?_
        refine WC_region ?_
        refine Lq (q_add rfl rfl (wr64 (by omega)) (c := ((j + 1 : Nat) : Int))) ?_
        refine Lq (q_move rfl) ?_
        refine WL_nil (thenK ?_)
        refine ⟨(j + 1, A1, t1, v27, p27, ⟨s1, k1⟩ :: S, pcC s1 k1 C1 d1 :: cs27), ?_, (.cons rfl (.cons rfl (.cons rfl (.cons rfl (.nil _))))), (List.Sublist.cons_cons _ (List.Sublist.cons _ (List.Sublist.refl _))), (memc (.tail _ (.tail _ (.tail _ (.head _)))) (memc (.head _) (fun _ h => .tail _ (.tail _ (.tail _ (.tail _ (.tail _ (.tail _ (.tail _ h)))))))))⟩
        refine ⟨by show 2 - (j + 1) < 2 - j; omega, by omega, wt1, fun p hp => ?_, by rw [pcsRow_cons, ← List.append_assoc, ← r1]; exact hI.eq, ?_⟩
        · rcases List.mem_cons.1 hp with rfl | hp
          · exact ⟨n1, h1⟩
          · exact hI.ok p hp
        · rw [List.length_cons, Nat.add_comm, List.flatten_cons]; exact hr27
    · refine WC_exit (thenExit (thenExit (blockHit (thenN (WC_seq (WC_seq (WC_region ?_)))))))
      refine Lq (q_move rfl) ?_
      refine WL_nil (thenN (WC_block ?_))
      have hL := hI
      clear hI
      have wtL := hL.wf
      refine WC_loopE (α := Nat × Option Addr × Tr × Value × Part × List Pc × List (List Value)) (fun (j, A, t, v, p, S, css) => 2 - j)
        (fun (j, A, t, v, p, S, css) => [(1, .pointer A), (0, .pointer AL), (5, v), (29, .int .i64 j)])
        (fun (j, A, t, v, p, S, css) => (p :: Ps))
        (fun (j, A, t, v, p, S, css) => (TrF A t :: RepsF pcD S css :: TrF AL tL :: TrF none .nil :: TrF Al l :: TrF Ar r :: As))
        (fun (j, A, t, v, p, S, css) => MeR (l.row ++ r.row) tL j t S v p css)
        (0, Ar, r, v, pa, S, css) ?_ (.cons rfl (.cons rfl (.cons rfl (.cons rfl (.nil _))))) (List.Sublist.cons_cons _ (List.Sublist.refl _)) (memc (.tail _ (.tail _ (.tail _ (.tail _ (.head _))))) (memc (.tail _ (.head _)) (memc (.head _) (fun _ h => .tail _ (.tail _ h))))) ?_
      · exact ⟨Nat.zero_le _, wr, hL.ok, by rw [← List.append_assoc, hL.eq], hL.row⟩
      · rintro ⟨j, AR, tR, v, pa, S, css⟩ hI
        have wtR := hI.wf
        have eI := congrArg List.length hI.eq
        simp only [List.length_append] at eI
        have okl := hI.ok.len
        refine WC_seq (WC_region ?_)
        refine Lq (q_lss rfl rfl) ?_
        refine WL_nil (thenN (WC_seq ?_))
        refine WC_cond rfl (fun h30 => ?_) (fun h30 => ?_)
        · have hj2 : j < 2 := by simp only [decide_eq_true_eq] at h30; omega
          refine WC_skip (thenN (WC_seq (WC_block (WC_seq ?_))))
          by_cases hztR : tR = .nil
          · rw [hztR]
            refine WC_nilT (.head _) fun e => ?_
            subst e
            refine WC_region ?_
            refine Lq (q_move rfl) ?_
            refine Lq (q_pneq Tryd.underlying113 rfl rfl (by simp)) ?_
            refine WL_nil (thenN (WC_false rfl rfl (WC_skip (blockN (thenN (WC_region ?_))))))
            refine Lq (q_add rfl rfl (wr64 (by omega)) (c := ((j + 1 : Nat) : Int))) ?_
            refine Lq (q_move rfl) ?_
            refine WL_nil (thenK ?_)
            refine ⟨(j + 1, none, .nil, v, pa, S, css), ?_, (.cons rfl (.cons rfl (.cons rfl (.cons rfl (.nil _))))), (List.Sublist.cons_cons _ (List.Sublist.refl _)), (fun _ h => h)⟩
            exact ⟨by show 2 - (j + 1) < 2 - j; omega, by omega, wnilT, hI.ok, by rw [← hztR]; exact hI.eq, hI.row⟩
          · refine WC_some (.head _) hztR fun _ e => ?_
            subst e
            refine WC_region ?_
            refine Lq (q_move rfl) ?_
            refine Lq (q_pneq Tryd.underlying113 rfl rfl (by simp)) ?_
            refine WL_nil (thenN (WC_true rfl rfl (WC_seq (WC_region ?_))))
            refine Lq (q_move rfl) ?_
            refine WL_main rfl (OW_call0 (popFirst_r _ tR wtR hztR (by omega)) (.cons rfl (.nil)) (by decide) (memc (.head _) mem0) fun u11_1 Lo fs hres => ?_)
            obtain ⟨A2, t2, s2, k2, C2, d2, rfl, rfl, rfl, wt2, n2, h2, r2⟩ := hres
            have e2 := congrArg List.length r2
            simp only [List.length_append, cellsOf_length] at e2
            have g2 := List.length_pos_iff.2 n2
            refine Lq (q_move rfl) ?_
            refine Lq (q_extract (vs := [_, _]) rfl rfl) ?_
            refine Lq (q_extract (vs := [_, _]) rfl rfl) ?_
            refine WL_main rfl (OW_alloc (cs := [_, _]) ti118 rfl (by decide) fun b8 => ?_)
            refine WL_main rfl (OW_storeN (cs' := [_, _]) (vs := [_, _]) ti118 rfl rfl rfl rfl rfl (Nat.le_of_ble_eq_true rfl) (.z) ?_)
            refine Lq (q_assign rfl) ?_
            refine WL_nil (thenN (WC_region ?_))
            refine Lq (q_move rfl) ?_
            refine Lq (q_move rfl) ?_
            refine Lq (q_loadN (vs := [_, _]) Tryd.underlying118 rfl ti118 rfl own0 rfl rfl) ?_
            refine WL_main rfl (OW_slice1 (cs := [_, _]) Tryd.underlying161 ti118 (by decide) (by decide) rfl rfl rfl rfl (by decide) fun b41 => ?_)
            refine WL_main rfl (OW_append1 (news := [_, _]) Tryd.underlying161 ti118 rfl (by decide) rfl rfl hI.row own0 rfl rfl (by omega) (by unfold maxLen; omega) (by decide) (DelAt.perm (.s (.s (.z)))) fun v42 p42 hr42 => ?_)
            refine Lq (q_assign rfl) ?_
            refine Lq (q_assign rfl) ?_
            refine WL_nil (blockN (thenN ?_))
            refine WC_repsAdd (u := (⟨s2, k2⟩ : Pc)) (cs := pcC s2 k2 C2 d2) (.tail _ (.tail _ (.tail _ (.head _)))) (fun Z w hs => ⟨_, _, rfl, hs.facts _ (.tail _ (.head _))⟩) rfl ?_
            refine WC_region ?_
            refine Lq (q_add rfl rfl (wr64 (by omega)) (c := ((j + 1 : Nat) : Int))) ?_
            refine Lq (q_move rfl) ?_
            refine WL_nil (thenK ?_)
            refine ⟨(j + 1, A2, t2, v42, p42, S ++ [⟨s2, k2⟩], css ++ [pcC s2 k2 C2 d2]), ?_, (.cons rfl (.cons rfl (.cons rfl (.cons rfl (.nil _))))), (List.Sublist.cons_cons _ (List.Sublist.cons _ (List.Sublist.cons _ (List.Sublist.refl _)))), (memc (.tail _ (.head _)) (memc (.head _) (fun _ h => .tail _ (.tail _ (.tail _ (.tail _ (.tail _ h)))))))⟩
            refine ⟨by show 2 - (j + 1) < 2 - j; omega, by omega, wt2, PcOk.append.2 ⟨hI.ok, PcOk.one n2 h2⟩, ?_, ?_⟩
            · rw [pcsRow_append, pcsRow_one, List.append_assoc, ← r2]; exact hI.eq
            · rw [List.length_append, List.flatten_append]; exact hr42
        · refine WC_exit (thenExit (thenExit (blockHit (thenN (WC_seq (WC_seq ?_))))))
          refine WC_freeze (e := pcD) (xs := S) (css := css) hI.row (.z) rfl (.tail _ (.head _)) fun A14 c14 e14 => ?_
          subst e14
          refine WC_region ?_
          refine Lq (q_move rfl) ?_
          refine WL_main rfl (OW_call0 (evened_s A14 c14 S hI.ok (by omega)) (.cons rfl (.nil)) (by decide) (memc (.head _) mem0) fun u14_1 Lo fs hres => ?_)
          obtain ⟨Aq, cq, qs, rfl, rfl, rfl, hqok, hqs⟩ := hres
          have eq0 := congrArg List.length hqs
          have hql := hqok.len
          refine Lq (q_len Tryd.underlying161 rfl) ?_
          refine Lq (q_move rfl) ?_
          refine WL_nil (thenN (WC_block ?_))
          refine WC_loopE (α := Nat × Option Addr × Tr) (fun (i, A, t) => qs.length - i)
            (fun (i, A, t) => [(0, .pointer A), (1, .pointer AR), (45, .slice Aq qs.length cq), (46, .int .i64 qs.length), (47, .int .i64 i)])
            (fun (i, A, t) => Ps)
            (fun (i, A, t) => (TrF A t :: RdF pcD Aq cq qs :: TrF AR tR :: TrF none .nil :: TrF Al l :: TrF Ar r :: As))
            (fun (i, A, t) => MeJ tL.row qs i t)
            (0, AL, tL) ?_ (.cons rfl (.cons rfl (.cons rfl (.cons rfl (.cons rfl (.nil _)))))) (List.Sublist.refl _) (memc (.tail _ (.tail _ (.tail _ (.tail _ (.head _))))) (memc (.head _) (memc (.tail _ (.tail _ (.head _))) (fun _ h => .tail _ (.tail _ (.tail _ (.tail _ (.tail _ h)))))))) ?_
          · exact ⟨Nat.zero_le _, wtL, by simp [pcsRow]⟩
          · rintro ⟨i, AJ, tJ⟩ hJ
            have wtJ := hJ.wf
            refine WC_seq (WC_region ?_)
            refine Lq (q_lss rfl rfl) ?_
            refine WL_nil (thenN (WC_seq ?_))
            refine WC_cond rfl (fun h48 => ?_) (fun h48 => ?_)
            · refine WC_skip (thenN (WC_seq (WC_block (WC_seq ?_))))
              try simp only [Bq0, Bq1, Bq2, Bq3, Bq4, Bq5, Bq6, Bq7, Bq8, Bq9, Bq10, Bq11, Bq12] at *
              have hiq : i < qs.length := by omega
              have hsub := pcsRow_sub qs 0 i
              have hsub2 := pcsRow_sub qs 0 (i + 1)
              rw [List.drop_zero] at hsub hsub2
              have ht1 : qs.take (i + 1) = qs.take i ++ [qs[i]] := by rw [List.take_succ_eq_append_getElem hiq]
              rw [ht1, pcsRow_append, pcsRow_one, List.length_append, cellsOf_length] at hsub2
              have eJ := congrArg List.length hJ.eq
              rw [List.length_append] at eJ
              refine WC_elem (k := i) (.tail _ (.head _)) (List.getElem?_eq_getElem hiq) (pc_open _) fun bk qk yk ek => ?_
              cases ek
              refine WC_region ?_
              refine Lq (q_idxRd Tryd.underlying161 ti118 rfl rfl (by omega) (by omega)) ?_
              refine Lq (q_loadFN (k := 0) (vs := [_, _]) Tryd.underlying118 rfl ti118 rfl (.head _) rfl rfl rfl) ?_
              refine WL_main rfl (OW_alloc (cs := [_, _]) ti118 rfl (by decide) fun b11 => ?_)
              refine WL_main rfl (OW_storeN (cs' := [_, _]) (vs := [_, _]) ti118 rfl rfl rfl rfl rfl (Nat.le_of_ble_eq_true rfl) (.z) ?_)
              refine WL_nil (thenN (WC_region ?_))
              refine Lq (q_move rfl) ?_
              refine Lq (q_loadN (vs := [_, _]) Tryd.underlying118 rfl ti118 rfl own0 rfl rfl) ?_
              refine WL_main rfl (OW_call0 (join_r AJ none yk.1 yk.2 tJ Tr.nil (qs[i]).rs (qs[i]).hid wtJ wnilT (hqok _ (List.getElem_mem hiq)).1 (hqok _ (List.getElem_mem hiq)).2 (by simp only [Tr.row, List.length_nil]; omega)) (.cons rfl (.cons rfl (.cons rfl (.nil)))) (by decide) (memc (.tail _ (.tail _ (.head _))) (memc (.tail _ (.tail _ (.tail _ (.tail _ (.tail _ (.head _)))))) (memc (.tail _ (.head _)) mem0))) fun u17_2 Lo fs hres => ?_)
              obtain ⟨T3, t3, rfl, rfl, rfl, wt3, r3⟩ := hres
              have e3 := congrArg List.length r3
              simp only [List.length_append, cellsOf_length, Tr.row, List.length_nil, List.length_take, List.length_drop] at e3
              refine Lq (q_assign rfl) ?_
              refine WL_nil (blockN (thenN (WC_region ?_)))
              refine Lq (q_add rfl rfl (wr64 (by omega)) (c := ((i + 1 : Nat) : Int))) ?_
              refine Lq (q_move rfl) ?_
              refine WL_nil (thenK ?_)
              refine ⟨(i + 1, T3, t3), ?_, (.cons rfl (.cons rfl (.cons rfl (.cons rfl (.cons rfl (.nil _)))))), (List.Sublist.cons _ (List.Sublist.refl _)), (memc (.head _) (fun _ h => .tail _ (.tail _ (.tail _ (.tail _ h)))))⟩
              exact ⟨by show qs.length - (i + 1) < qs.length - i; omega, hiq, wt3, by rw [r3, hJ.eq, ht1, pcsRow_append, pcsRow_one]; simp [Tr.row]⟩
            · refine WC_exit (thenExit (thenExit (blockHit (thenN (WC_seq (WC_seq ?_))))))
              try simp only [Bq0, Bq1, Bq2, Bq3, Bq4, Bq5, Bq6, Bq7, Bq8, Bq9, Bq10, Bq11, Bq12] at *
              have hfin : i = qs.length := by have := hJ.le; omega
              have rJ : tJ.row ++ tR.row = l.row ++ r.row := by rw [hJ.eq, hfin, List.take_length, hqs, List.append_assoc]; exact hI.eq
              have eJ := congrArg List.length rJ
              simp only [List.length_append] at eJ
              by_cases hztR : tR = .nil
              · rw [hztR]
                refine WC_nilT (.tail _ (.tail _ (.head _))) fun e => ?_
                subst e
                refine WC_region ?_
                refine Lq (q_move rfl) ?_
                refine Lq (q_peql Tryd.underlying113 rfl rfl (by simp)) ?_
                refine WL_nil (thenN (WC_true rfl rfl (WC_seq (WC_region ?_))))
                refine Lq (q_move rfl) ?_
                refine Lq (q_assign rfl) ?_
                refine WL_nil (thenN (WC_ret (thenRet ?_)))
                refine ⟨_, [], [_], fun Z w hs => .tmp rfl (.nil), ?_, fun Z w hs => hs.out (List.Sublist.refl _) (memc (.head _) (fun _ h => .tail _ (.tail _ (.tail _ (.tail _ h)))))⟩
                exact ⟨_, _, rfl, rfl, rfl, wtJ, by rw [← rJ, hztR]; simp [Tr.row]⟩
              · refine WC_some (.tail _ (.tail _ (.head _))) hztR fun _ e => ?_
                subst e
                refine WC_region ?_
                refine Lq (q_move rfl) ?_
                refine Lq (q_peql Tryd.underlying113 rfl rfl (by simp)) ?_
                refine WL_nil (thenN (WC_false rfl rfl (WC_skip (thenN (WC_seq (WC_region ?_))))))
                refine Lq (q_move rfl) ?_
                refine WL_main rfl (OW_call0 (popFirst_r _ tR wtR hztR (by omega)) (.cons rfl (.nil)) (by decide) (memc (.tail _ (.tail _ (.head _))) mem0) fun u21_1 Lo fs hres => ?_)
                obtain ⟨A4, t4, s4, k4, C4, d4, rfl, rfl, rfl, wt4, n4, h4, r4⟩ := hres
                have e4 := congrArg List.length r4
                simp only [List.length_append, cellsOf_length] at e4
                have g4 := List.length_pos_iff.2 n4
                refine Lq (q_move rfl) ?_
                refine Lq (q_extract (vs := [_, _]) rfl rfl) ?_
                refine Lq (q_extract (vs := [_, _]) rfl rfl) ?_
                refine WL_main rfl (OW_alloc (cs := [_, _]) ti118 rfl (by decide) fun b12 => ?_)
                refine WL_main rfl (OW_storeN (cs' := [_, _]) (vs := [_, _]) ti118 rfl rfl rfl rfl rfl (Nat.le_of_ble_eq_true rfl) (.z) ?_)
                refine Lq (q_assign rfl) ?_
                refine WL_nil (thenN (WC_seq (WC_region ?_)))
                refine Lq (q_move rfl) ?_
                refine Lq (q_loadN (vs := [_, _]) Tryd.underlying118 rfl ti118 rfl own0 rfl rfl) ?_
                refine Lq (q_move rfl) ?_
                refine WL_main rfl (OW_call0 (join_r AJ A4 C4 d4 tJ t4 s4 k4 wtJ wt4 n4 h4 (by omega)) (.cons rfl (.cons rfl (.cons rfl (.nil)))) (by decide) (memc (.tail _ (.tail _ (.head _))) (memc (.head _) (memc (.tail _ (.head _)) mem0))) fun u22_3 Lo fs hres => ?_)
                obtain ⟨T5, t5, rfl, rfl, rfl, wt5, r5⟩ := hres
                have e5 := congrArg List.length r5
                simp only [List.length_append, cellsOf_length, Tr.row, List.length_nil, List.length_take, List.length_drop] at e5
                refine Lq (q_assign rfl) ?_
                refine WL_nil (thenN (WC_ret ?_))
                refine ⟨_, [], [_], fun Z w hs => .tmp rfl (.nil), ?_, fun Z w hs => hs.out (List.Sublist.cons _ (List.Sublist.refl _)) (memc (.head _) (fun _ h => .tail _ (.tail _ (.tail _ (.tail _ (.tail _ (.tail _ (.tail _ h))))))))⟩
                exact ⟨_, _, rfl, rfl, rfl, wt5, by rw [r5, ← rJ, r4]⟩

end Go.Proofs.YtggdddkbhigjoaaDoor
/- The counters' rule: each cell's counter is the number of inserts that are off and of deletes that are on that have it; a right command keeps it. -/
namespace Go.Proofs.YtggdddkbhigjoaaDoor
open Go Go.GW
def hidE (e : Ent) : Bool := (decide (e.op.kind = 1) && e.off) || (decide (e.op.kind = 2) && !e.off)
def cnt (es : List Ent) (q : Int) : Nat := es.countP fun e => hidE e && inRb q e.now
structure Rule (H : Hist) (row : List Ce) : Prop where
  len : (row.length : Int) = H.total
  cnt : ∀ (q : Nat) c, row[q]? = some c → c.2 = cnt H.ents q
structure EffOk (x : GOp) (row : List Ce) : Prop where
  ck : checkF x row.length = 0
  kind : x.kind = 1 ∨ x.kind = 2 ∨ x.kind = 3
  up : x.kind = 2 → ∀ (q : Nat) c, row[q]? = some c → inRb q x.rs = true → c.2 < 1048576
  dn : x.kind = 3 → ∀ (q : Nat) c, row[q]? = some c → inRb q x.rs = true → 1 ≤ c.2
theorem hidE_off (e : Ent) (b : Bool) : hidE (offE e b) = ((decide (e.op.kind = 1) && b) || (decide (e.op.kind = 2) && !b)) := rfl
theorem emptyB : ((⟨#[]⟩ : ByteArray) == ⟨#[]⟩) = true := by decide
theorem cnt_append (a b : List Ent) (q : Int) : cnt (a ++ b) q = cnt a q + cnt b q := by unfold cnt; rw [List.countP_append]
theorem cnt_cons (e : Ent) (b : List Ent) (q : Int) : cnt (e :: b) q = cnt b q + (if (hidE e && inRb q e.now) = true then 1 else 0) := by unfold cnt; rw [List.countP_cons]
theorem cnt_zipE (q : Int) : ∀ (xs : List GOp) (es : List Ent), Sames (es.map (·.op)) xs → cnt (zipE xs es) q = cnt es q
  | [], [], _ => rfl
  | x :: xs, e :: es, h => by
    cases h with
    | cons h hr =>
      unfold zipE
      rw [cnt_cons, cnt_cons, cnt_zipE q xs es hr]
      have : hidE ⟨x, e.now, e.off⟩ = hidE e := by unfold hidE; simp only [h.kind]
      rw [this]
  | [], e :: es, h => by cases h
  | x :: xs, [], h => by cases h
theorem cnt_new (q : Int) {i : Nat} {o : GOp} {nw : List Rg} {es : List Ent} {later : List GOp} (h : Sames ((es.drop i).map (·.op)) later) : cnt (newEnts i o nw es later) q = cnt es q + (if (decide (o.kind = 2) && inRb q nw) = true then 1 else 0) := by
  unfold newEnts
  rw [cnt_append, cnt_cons, cnt_zipE q _ _ h]
  have e1 : hidE ⟨o, nw, false⟩ = decide (o.kind = 2) := by unfold hidE; simp
  rw [e1]
  conv => rhs; rw [← List.take_append_drop i es, cnt_append]
  simp only
  omega
theorem cnt_le (es : List Ent) (q : Int) : cnt es q ≤ es.length := List.countP_le_length
theorem cnt_shift {T at_ n : Int} (q : Int) (ha : 0 ≤ at_ ∧ at_ ≤ T) (hn : 0 ≤ n) (hs : T + n ≤ 65535) : ∀ (es : List Ent), (∀ e ∈ es, Pls T e.now) → cnt (es.map (shiftE at_ n)) q = if q < at_ then cnt es q else if q < at_ + n then 0 else cnt es (q - n)
  | [], _ => by simp [cnt]
  | e :: es, h => by
    have ih := cnt_shift q ha hn hs es fun x hx => h x (List.mem_cons_of_mem _ hx)
    obtain ⟨t1, t2, t3, t4⟩ := thr_ok (h e List.mem_cons_self) (by omega) ha hn hs
    rw [List.map_cons, cnt_cons, ih]
    have e1 : hidE (shiftE at_ n e) = hidE e := rfl
    have e2 : inRb q (shiftE at_ n e).now = if q < at_ then inRb q e.now else if q < at_ + n then false else inRb (q - n) e.now := by
      rw [Bool.eq_iff_iff]
      have := t3 q
      rw [show (inRb q (shiftE at_ n e).now = true) ↔ memR q (thrF e.now at_ n).1 from inRb_iff, this]
      by_cases c1 : q < at_
      · rw [if_pos c1, inRb_iff]
        constructor
        · rintro (h | h)
          · exact h.2
          · omega
        · intro h; exact .inl ⟨c1, h⟩
      · rw [if_neg c1]
        by_cases c2 : q < at_ + n
        · rw [if_pos c2]
          constructor
          · rintro (h | h) <;> omega
          · intro h; cases h
        · rw [if_neg c2, inRb_iff]
          constructor
          · rintro (h | h)
            · omega
            · exact h.2
          · intro h; exact .inr ⟨by omega, h⟩
    rw [e1, e2]
    by_cases c1 : q < at_
    · simp only [if_pos c1]; rw [cnt_cons]
    · by_cases c2 : q < at_ + n
      · simp only [if_neg c1, if_pos c2]; simp
      · simp only [if_neg c1, if_neg c2]; rw [cnt_cons]
theorem effHead {x : GOp} (hk : x.kind = 1 ∨ x.kind = 2 ∨ x.kind = 3) (hc : x.c = 0) (hn : x.n = 0) (he : extraF x = false) : headF x := by
  refine ⟨by omega, fun h => ?_, by rw [he]; simp⟩
  omega
theorem runes_width {w : Int} {o : GOp} (h : Right w o) (hk : o.kind = 1) : ((runesF o.text).length : Int) = widthF o := by
  have h3 := insF_ok.1 ((check_ins hk h.w0).1 h.ck).2
  rw [(h.width.2.2.1 hk).2, utF_runes h3.1]
theorem put_row {H : Hist} (h : HV H) {i : Nat} {o : GOp} {es : List Ent} {nw : List Rg} {eff : GOp} (g : Good H i o) (p : PutIs H i o es nw eff) {row : List Ce} (hr : Rule H row) (hl : H.ents.length ≤ 1000) :
    (eff.kind ≠ 0 → EffOk eff row) ∧ (eff.kind = 0 → eff = zeroOp ∧ o.kind = 4) ∧ Rule ⟨newEnts i o nw es (carryF o (H.ops.drop i)).2, H.total + widthF o⟩ (applyRow eff row) := by
  obtain ⟨c1, c2, c3, c4, c5⟩ := cross_good h g
  have h0 := h.total0
  have hs := p.sames h g
  have hroom := g.room
  have hwid := g.right.width
  have hlen := hr.len
  rcases g.right.kind with hk | hk | hk
  · obtain ⟨e1, e2, e3⟩ := p.ins hk
    have hti := c2.ins (c4.kind.trans hk)
    have hw2 : widthF (carryF o (H.ops.drop i)).1 = widthF o := c4.width
    have hins := insF_ok.1 ((check_ins hk g.right.w0).1 g.right.ck).2
    have hwk := (hwid.2.2.1 hk).2
    have hrun := runes_width g.right hk
    generalize hta : (carryF o (H.ops.drop i)).1.at_ = ta at *
    have hek : eff.kind = 1 := by rw [e3]; exact hk
    refine ⟨fun _ => ⟨?_, .inl hek, fun e => by omega, fun e => by omega⟩, fun e => by omega, ?_, ?_⟩
    · rw [e3]
      refine (check_ins (o := { effF o with at_ := ta, text := o.text }) hk (by omega)).2 ⟨effHead (.inl hk) rfl rfl ?_, insF_ok.2 ⟨hins.1, hins.2.1, by show 0 ≤ ta ∧ ta ≤ _; omega, by show _ + (utF o.text).1 ≤ _; omega⟩⟩
      simp [extraF, effF, zeroOp, hk, emptyB]
    · unfold applyRow
      rw [if_pos hek, e3]
      simp only [List.length_append, List.length_take, List.length_drop, cellsOf_length]
      omega
    · intro q c hq
      show c.2 = (cnt (newEnts i o nw es (carryF o (H.ops.drop i)).2) q : Nat)
      rw [cnt_new q hs, e1, cnt_shift (T := H.total) q ⟨hti.1, hti.2.1⟩ hwid.1 (by omega) H.ents h.pls]
      simp only [hk, show ((1 : Int) = 2) = False from by simp, decide_false, Bool.false_and, Bool.false_eq_true, if_false, Nat.add_zero]
      unfold applyRow at hq
      rw [if_pos hek, e3] at hq
      simp only at hq
      have el1 : (row.take ta.toNat).length = ta.toNat := by rw [List.length_take]; omega
      by_cases d1 : (q : Int) < ta
      · rw [List.getElem?_append_left (by omega), List.getElem?_take, if_pos (by omega)] at hq
        rw [if_pos d1]; exact hr.cnt q c hq
      · rw [List.getElem?_append_right (by omega), el1] at hq
        rw [if_neg d1]
        by_cases d2 : (q : Int) < ta + widthF o
        · rw [List.getElem?_append_left (by rw [cellsOf_length]; omega)] at hq
          rw [if_pos d2]
          unfold cellsOf at hq
          rw [List.getElem?_map] at hq
          cases hx : (runesF o.text)[q - ta.toNat]? with
          | none => rw [hx] at hq; cases hq
          | some x => rw [hx] at hq; simp only [Option.map_some, Option.some.injEq] at hq; subst hq; rfl
        · rw [List.getElem?_append_right (by rw [cellsOf_length]; omega), cellsOf_length, List.getElem?_drop] at hq
          rw [if_neg d2]
          have := hr.cnt _ c hq
          rw [this]
          congr 2
          omega
  · obtain ⟨e1, e2, e3⟩ := p.hide hk
    obtain ⟨t1, t2⟩ := c2.cov (c4.kind.trans hk) (by omega)
    generalize htr : (carryF o (H.ops.drop i)).1.rs = tr at *
    have hek : eff.kind = 2 := by rw [e3]; exact hk
    have hers : eff.rs = tr := by rw [e3]
    have hget := bumpL_get (k := 1) tr 0 row (Int.le_refl _) t2.norm (by rw [hlen]; exact t2.below)
    have happ : applyRow eff row = bumpL tr 1 row := by unfold applyRow; rw [if_neg (by omega), if_pos hek, hers]
    refine ⟨fun _ => ⟨?_, .inr (.inl hek), fun _ q c hq _ => ?_, fun e => by omega⟩, fun e => by omega, ?_, ?_⟩
    · rw [e3]
      refine (check_cov (o := { effF o with rs := tr }) (.inl hk) (by omega)).2 ⟨effHead (.inr (.inl hk)) rfl rfl ?_, (rangesF_ok (by omega)).2 ⟨t1, by rw [hlen]; exact t2⟩⟩
      simp [extraF, effF, zeroOp, hk, emptyB]
    · have := hr.cnt q c hq
      have := cnt_le H.ents q
      omega
    · rw [happ, hget.1, hlen, hwid.2.2.2 (by omega)]; simp
    · intro q c hq
      show c.2 = (cnt (newEnts i o nw es (carryF o (H.ops.drop i)).2) q : Nat)
      rw [cnt_new q hs, e1, e2]
      rw [happ, hget.2 q] at hq
      cases hx : row[q]? with
      | none => rw [hx] at hq; cases hq
      | some d =>
        rw [hx] at hq
        simp only [Option.map_some, Option.some.injEq] at hq
        have := hr.cnt q d hx
        subst hq
        simp only [hk, decide_true, Bool.true_and]
        by_cases hb : inRb q tr = true
        · simp only [hb, if_true]; omega
        · simp only [hb]; simpa using this
  · obtain ⟨e1, e2, e3⟩ := p.status hk
    have hw0 := hwid.2.2.2 (by omega)
    obtain ⟨k0, hk0, hk1, e0, he0, hek0⟩ := g.target hk
    have hcn : ∀ q, cnt (newEnts i o nw es (carryF o (H.ops.drop i)).2) q = cnt es q := fun q => by
      rw [cnt_new q hs]; simp [hk]
    rcases turned_cases H i o with e | ⟨k, e, g1, g2, g3, g4, g5⟩
    · rw [e] at e1 e3
      simp only at e1 e3
      have happ : applyRow eff row = row := by rw [e3]; rfl
      refine ⟨fun hh => absurd (by rw [e3]; rfl) hh, fun _ => ⟨e3, hk⟩, ?_, ?_⟩
      · rw [happ, hlen, hw0]; simp
      · intro q c hq
        rw [happ] at hq
        show c.2 = (cnt (newEnts i o nw es (carryF o (H.ops.drop i)).2) q : Nat)
        rw [hcn, e1]; exact hr.cnt q c hq
    · rw [g5] at e1 e3
      simp only at e1 e3
      have hkk : k < H.ents.length := by
        rcases Nat.lt_or_ge k H.ents.length with h | h
        · exact h
        · rw [List.getElem?_eq_none h] at g2; cases g2
      have hge : H.ents[k] = e := by rw [List.getElem?_eq_getElem hkk] at g2; exact Option.some.inj g2
      obtain rfl : k0 = k := Option.some.inj (hk0.symm.trans g1)
      obtain rfl : e0 = e := Option.some.inj (he0.symm.trans g2)
      have hem : e0 ∈ H.ents := List.mem_of_getElem? g2
      have hpe := h.pls e0 hem
      have hne : e0.now ≠ [] := fun hh => hek0 ((h.edit e0 hem).2 hh)
      have hek : e0.op.kind = 1 ∨ e0.op.kind = 2 := by
        have h1 := h.ctx
        have h2 : ∀ (l : List GOp) (w : Int), CtxOk w l → ∀ x ∈ l, x.kind = 1 ∨ x.kind = 2 ∨ x.kind = 4 := by
          intro l
          induction l with
          | nil => intro w _ x hx; cases hx
          | cons y l ih =>
            intro w hc x hx
            rcases List.mem_cons.1 hx with rfl | hx
            · exact hc.1.kind
            · exact ih _ hc.2 x hx
        have := h2 _ _ h1 e0.op (List.mem_map.2 ⟨e0, hem, rfl⟩)
        omega
      have hcs : ∀ q, cnt es q + (if (hidE e0 && inRb q e0.now) = true then 1 else 0) = cnt H.ents q + (if (hidE (offE e0 (!o.on)) && inRb q e0.now) = true then 1 else 0) := by
        intro q
        rw [e1]
        unfold cnt
        rw [List.countP_set hkk]
        simp only [hge]
        have hpos : (if (hidE e0 && inRb q e0.now) = true then 1 else 0) ≤ H.ents.countP fun e => hidE e && inRb q e.now := by
          split
          · rename_i hh
            exact List.countP_pos_iff.2 ⟨e0, hem, hh⟩
          · omega
        have : (offE e0 (!o.on)).now = e0.now := rfl
        rw [this]
        omega
      have hcheck : ∀ kd : Int, (kd = 2 ∨ kd = 3) → eff.kind = kd → checkF eff row.length = 0 := by
        intro kd hkd hekd
        refine (check_cov (by omega) (by omega)).2 ⟨effHead (by omega) (by rw [e3]; rfl) (by rw [e3]; rfl) ?_, (rangesF_ok (by omega)).2 ⟨by rw [e3]; exact hne, by rw [hlen, e3]; exact hpe⟩⟩
        have h1 : eff.at_ = 0 := by rw [e3]; rfl
        have h2 : eff.text = ⟨#[]⟩ := by rw [e3]; rfl
        have h3 : eff.tc = 0 := by rw [e3]; rfl
        have h4 : eff.tn = 0 := by rw [e3]; rfl
        have h5 : eff.on = false := by rw [e3]; rfl
        have h6 : (⟨#[]⟩ : ByteArray) == ⟨#[]⟩ := by decide
        unfold extraF
        rw [h1, h2, h3, h4, h5]
        rcases hkd with rfl | rfl <;> simp [hekd, h6]
      have hers : eff.rs = e0.now := by rw [e3]; rfl
      have hon : o.on = e0.off := g3.symm
      by_cases hcase : (decide (e0.op.kind = 2) == o.on) = true
      · have hekd : eff.kind = 2 := by rw [e3]; unfold turnF; simp only; rw [if_pos hcase]
        have happ : applyRow eff row = bumpL e0.now 1 row := by unfold applyRow; rw [if_neg (by omega), if_pos hekd, hers]
        have hget := bumpL_get (k := 1) e0.now 0 row (Int.le_refl _) hpe.norm (by rw [hlen]; exact hpe.below)
        have hh1 : hidE e0 = false ∧ hidE (offE e0 (!o.on)) = true := by
          rw [hidE_off]
          unfold hidE
          rw [hon] at hcase ⊢
          rcases hek with hh | hh <;> (rw [hh] at hcase ⊢; revert hcase; cases e0.off <;> decide)
        refine ⟨fun _ => ⟨hcheck 2 (.inl rfl) hekd, .inr (.inl hekd), fun _ q c hq _ => ?_, fun e => by omega⟩, fun e => by omega, ?_, ?_⟩
        · have := hr.cnt q c hq
          have := cnt_le H.ents q
          omega
        · rw [happ, hget.1, hlen, hw0]; simp
        · intro q c hq
          show c.2 = (cnt (newEnts i o nw es (carryF o (H.ops.drop i)).2) q : Nat)
          rw [hcn]
          have hc := hcs q
          rw [hh1.1, hh1.2] at hc
          simp only [Bool.false_and, Bool.false_eq_true, if_false, Nat.add_zero, Bool.true_and] at hc
          rw [happ, hget.2 q] at hq
          cases hx : row[q]? with
          | none => rw [hx] at hq; cases hq
          | some d =>
            rw [hx] at hq
            simp only [Option.map_some, Option.some.injEq] at hq
            have := hr.cnt q d hx
            subst hq
            by_cases hb : inRb q e0.now = true
            · rw [if_pos hb] at hc ⊢; simp only; omega
            · rw [if_neg hb] at hc ⊢; omega
      · have hekd : eff.kind = 3 := by rw [e3]; unfold turnF; simp only; rw [if_neg hcase]
        have happ : applyRow eff row = bumpL e0.now (-1) row := by unfold applyRow; rw [if_neg (by omega), if_neg (by omega), if_pos hekd, hers]
        have hget := bumpL_get (k := -1) e0.now 0 row (Int.le_refl _) hpe.norm (by rw [hlen]; exact hpe.below)
        have hh1 : hidE e0 = true ∧ hidE (offE e0 (!o.on)) = false := by
          rw [hidE_off]
          unfold hidE
          rw [hon] at hcase ⊢
          rcases hek with hh | hh <;> (rw [hh] at hcase ⊢; revert hcase; cases e0.off <;> decide)
        refine ⟨fun _ => ⟨hcheck 3 (.inr rfl) hekd, .inr (.inr hekd), fun e => by omega, fun _ q c hq hb => ?_⟩, fun e => by omega, ?_, ?_⟩
        · have h1 := hr.cnt q c hq
          rw [hers] at hb
          have h2 : 0 < cnt H.ents q := by
            unfold cnt
            exact List.countP_pos_iff.2 ⟨e0, hem, by rw [hh1.1, hb]; rfl⟩
          omega
        · rw [happ, hget.1, hlen, hw0]; simp
        · intro q c hq
          show c.2 = (cnt (newEnts i o nw es (carryF o (H.ops.drop i)).2) q : Nat)
          rw [hcn]
          have hc := hcs q
          rw [hh1.1, hh1.2] at hc
          simp only [Bool.false_and, Bool.false_eq_true, if_false, Nat.add_zero, Bool.true_and] at hc
          rw [happ, hget.2 q] at hq
          cases hx : row[q]? with
          | none => rw [hx] at hq; cases hq
          | some d =>
            rw [hx] at hq
            simp only [Option.map_some, Option.some.injEq] at hq
            have := hr.cnt q d hx
            subst hq
            by_cases hb : inRb q e0.now = true
            · rw [if_pos hb] at hc ⊢; simp only; omega
            · rw [if_neg hb] at hc ⊢; omega
end Go.Proofs.YtggdddkbhigjoaaDoor
/- Bump's loop, plain. -/
namespace Go.Proofs.YtggdddkbhigjoaaDoor
open Go Go.GW
abbrev rpP (b : Nat) (A : Option Addr) : Part := [(b, cellsO [.pointer A] 115)]
def RpP (b : Nat) (X : List Ce) : Value → List Part → List Fact → Prop := fun v Lo fs => ∃ (A : Option Addr) (t : Tr), v = .int .i64 0 ∧ Lo = [rpP b A] ∧ fs = [TrF A t] ∧ Wf t ∧ t.row = X
/-- What a bump asks of the row. -/
structure BuOk (rs : List Rg) (k : Int) (row : List Ce) : Prop where
  ck : (ckF rs).2 = 0
  below : BelowR row.length rs
  cells : ∀ (q : Nat) c, row[q]? = some c → inRb q rs = true → 0 ≤ c.2 + k ∧ c.2 + k ≤ 1048576
structure BuI (rs : List Rg) (k : Int) (row : List Ce) (i : Nat) (t : Tr) : Prop where
  le : i ≤ rs.length
  wf : Wf t
  eq : t.row = bumpL (rs.take i) k row
theorem norm_take {b : Int} {rs : List Rg} (h : NormB b rs) (i : Nat) : NormB b (rs.take i) := by
  rw [← List.take_append_drop i rs] at h
  exact (normB_append.1 h).1
theorem BuOk.norm {rs : List Rg} {k : Int} {row : List Ce} (h : BuOk rs k row) : NormB 0 rs := (ckF_norm.1 h.ck).2.1
theorem BuI.len {rs : List Rg} {k : Int} {row : List Ce} {i : Nat} {t : Tr} (h : BuI rs k row i t) (ho : BuOk rs k row) : t.row.length = row.length := by
  rw [h.eq]
  exact (bumpL_get (k := k) _ 0 row (Int.le_refl _) (norm_take ho.norm i) (fun r hr => ho.below r (List.mem_of_mem_take hr))).1
theorem bumpL_succ {rs : List Rg} {k : Int} {row : List Ce} {i : Nat} (hi : i < rs.length) : bumpL (rs.take (i + 1)) k row = bump1 rs[i] k (bumpL (rs.take i) k row) := by
  unfold bumpL
  rw [List.take_succ_eq_append_getElem hi, List.foldl_append]; rfl
theorem BuI.slice {rs : List Rg} {k : Int} {row : List Ce} {i : Nat} {t : Tr} (h : BuI rs k row i t) (ho : BuOk rs k row) (hi : i < rs.length) : InR (up k ((t.row.drop rs[i].lo.toNat).take (rs[i].hi - rs[i].lo).toNat)) := by
  intro c hc
  obtain ⟨d, hd, rfl⟩ := mem_up.1 hc
  obtain ⟨j, hj, rfl⟩ := List.mem_iff_getElem.1 hd
  have hm := ho.norm.mem _ (List.getElem_mem hi)
  have hget := (bumpL_get (k := k) _ 0 row (Int.le_refl _) (norm_take ho.norm i) (fun r hr => ho.below r (List.mem_of_mem_take hr))).2
  rw [List.length_take, List.length_drop] at hj
  have e1 : ((t.row.drop rs[i].lo.toNat).take (rs[i].hi - rs[i].lo).toNat)[j]? = (bumpL (rs.take i) k row)[rs[i].lo.toNat + j]? := by
    rw [List.getElem?_take, if_pos (by omega), List.getElem?_drop, h.eq]
  rw [List.getElem?_eq_getElem (by rw [List.length_take, List.length_drop]; omega), hget] at e1
  have hnot : inRb ((rs[i].lo.toNat + j : Nat) : Int) (rs.take i) = false := inRb_false.2 fun hmem => by
    have hn := ho.norm
    rw [← List.take_append_drop i rs, List.drop_eq_getElem_cons hi] at hn
    have h2 := (normB_append.1 hn).2
    obtain ⟨r, hr, hq⟩ := hmem
    have h3 : ∀ (xs : List Rg) (b : Int), NormB b xs → ∀ r ∈ xs, r.hi + 1 ≤ endB b xs := by
      intro xs
      induction xs with
      | nil => intro b _ r hr; cases hr
      | cons x xs ih =>
        intro b hb r hr
        have h4 : ∀ (ys : List Rg) (b : Int), NormB b ys → b ≤ endB b ys := by
          intro ys
          induction ys with
          | nil => intro b _; exact Int.le_refl _
          | cons y ys ih2 => intro b hb; have := ih2 _ hb.2.2; have := hb.1; have := hb.2.1; simp only [endB]; omega
        rcases List.mem_cons.1 hr with rfl | hr
        · exact h4 xs _ hb.2.2
        · exact ih _ hb.2.2 r hr
    have h5 := h3 _ _ (normB_append.1 hn).1 r hr
    have h6 := h2.1
    omega
  have hin : inRb ((rs[i].lo.toNat + j : Nat) : Int) rs = true := inRb_iff.2 ⟨_, List.getElem_mem hi, by omega⟩
  cases hx : row[rs[i].lo.toNat + j]? with
  | none => rw [hx] at e1; cases e1
  | some c =>
    rw [hx, hnot] at e1
    simp only [Bool.false_eq_true, if_false, Option.map_some, Option.some.injEq] at e1
    have := ho.cells _ c hx hin
    rw [e1]
    exact this
theorem BuI.next {rs : List Rg} {k : Int} {row : List Ce} {i : Nat} {t t' : Tr} (h : BuI rs k row i t) (hi : i < rs.length) (hw : Wf t') (he : t'.row = bump1 rs[i] k t.row) : BuI rs k row (i + 1) t' := ⟨hi, hw, by rw [he, bumpL_succ hi, h.eq]⟩
theorem BuI.done {rs : List Rg} {k : Int} {row : List Ce} {i : Nat} {t : Tr} (h : BuI rs k row i t) (hi : ¬ i < rs.length) : t.row = bumpL rs k row := by
  have e : i = rs.length := by have := h.le; omega
  rw [h.eq, e, List.take_length]
theorem wf_mn {t : Tr} (h : Wf t) (hn : t.row ≠ []) : (∃ c ∈ t.row, c.2 = (allF t).mn) ∧ ∃ c ∈ t.row, c.2 = (allF t).mx := by
  cases t with
  | nil => exact absurd rfl hn
  | nd s l rs hid r plus => have := wf_sum h (by simp); exact ⟨this.mnI, this.mxI⟩
end Go.Proofs.YtggdddkbhigjoaaDoor
/- Walks: add. -/
namespace Go.Proofs.YtggdddkbhigjoaaDoor
open Go Go.GW
set_option maxRecDepth 10000 in
theorem add_1 (v : Value) (xs : List Rg) (p : Part) (lo hi : Int) (hr : Row 37 2 v xs.length (rgs xs) p) (h : hi ≤ lo) : Sp Tryd.prog 90 [v, .int .i64 lo, .int .i64 hi] [p] [] (fun v' Lo fs => ∃ p', Row 37 2 v' (addF xs lo hi).length (rgs (addF xs lo hi)) p' ∧ Lo = [p'] ∧ fs = []) := by
  refine Sp.of (n := 46) ⟨_, Tryd.func90, rfl, rfl, rfl, rfl⟩ (Nat.le_of_ble_eq_true rfl) fun Ps As => ?_
  refine WC_seq (WC_region ?_)
  refine Lq (q_assign rfl) ?_
  refine WL_nil (thenN (WC_seq (WC_seq (WC_region ?_))))
  refine Lq (q_move rfl) ?_
  refine Lq (q_move rfl) ?_
  refine Lq (q_geq rfl rfl) ?_
  refine WL_nil (thenN ?_)
  refine WC_true rfl (by simpa using h) ?_
  refine WC_seq (WC_region ?_)
  refine Lq (q_move rfl) ?_
  refine Lq (q_assign rfl) ?_
  refine WL_nil (thenN (WC_ret (thenRet ?_)))
  refine ⟨_, [p], [], fun Z w hs => .tmp rfl (.nil), ?_, fun Z w hs => hs.out (List.Sublist.cons_cons _ (List.Sublist.refl _)) (fun _ h => h)⟩
  exact ⟨p, by rw [addF_skip h]; exact hr, rfl, rfl⟩

theorem bd37_0_1Xw3 (x0_ : Int) (x1_ : Int) (w : World) : (Instr.build 37 #[(0, .int .i64 x0_), (1, .int .i64 x1_)]).run Tryd.prog w = .ok (.agg #[.int .i64 x0_, .int .i64 x1_]) w := by kernel_rfl

set_option maxRecDepth 10000 in
theorem add_2 (v : Value) (p : Part) (lo hi : Int) (hr : Row 37 2 v 0 (rgs []) p) (h : ¬ hi ≤ lo) : Sp Tryd.prog 90 [v, .int .i64 lo, .int .i64 hi] [p] [] (fun v' Lo fs => ∃ p', Row 37 2 v' (addF [] lo hi).length (rgs (addF [] lo hi)) p' ∧ Lo = [p'] ∧ fs = []) := by
  obtain ⟨A, cap, rfl⟩ := hr.slice
  refine Sp.of (n := 46) ⟨_, Tryd.func90, rfl, rfl, rfl, rfl⟩ (Nat.le_of_ble_eq_true rfl) fun Ps As => ?_
  refine WC_seq (WC_region ?_)
  refine Lq (q_assign rfl) ?_
  refine WL_nil (thenN (WC_seq (WC_seq (WC_region ?_))))
  refine Lq (q_move rfl) ?_
  refine Lq (q_move rfl) ?_
  refine Lq (q_geq rfl rfl) ?_
  refine WL_nil (thenN ?_)
  refine WC_false rfl (by simpa using h) ?_
  refine WC_skip (thenN (WC_seq (WC_seq (WC_region ?_))))
  refine Lq (q_move rfl) ?_
  refine Lq (q_len Tryd.underlying29 rfl) ?_
  refine Lq (q_assign rfl) ?_
  refine WL_nil (thenN (WC_seq (WC_region ?_)))
  refine Lq (q_move rfl) ?_
  refine Lq (q_gtr rfl rfl) ?_
  refine Lq (q_move rfl) ?_
  refine Ln rfl rfl rfl (by simp) ?_
  refine Ln rfl rfl rfl (by simp) ?_
  refine Ln rfl rfl rfl (by simp) ?_
  refine Ln rfl rfl rfl (by simp) ?_
  refine Ln rfl rfl rfl (by simp) ?_
  refine Ln rfl rfl rfl (by simp) ?_
  refine Ln rfl rfl rfl (by simp) ?_
  refine Ln rfl rfl rfl (by simp) ?_
  refine Lq (q_pickF rfl (by simp) rfl) ?_
  refine WL_nil (thenN ?_)
  refine WC_fr [(25, _), (7, _), (6, _), (0, _), (1, _), (2, _)] (.cons rfl (.cons rfl (.cons rfl (.cons rfl (.cons rfl (.cons rfl (.nil _))))))) ?_
  refine WC_false rfl rfl (WC_skip (thenN (WC_seq (WC_region ?_))))
  refine Lq (q_move rfl) ?_
  refine Lq (q_move rfl) ?_
  refine Lq (q_move rfl) ?_
  refine Lq (q_build (.cons rfl (.cons rfl (.nil))) (bd37_0_1Xw3 _ _)) ?_
  refine WL_main rfl (OW_slice1 (cs := [_, _]) Tryd.underlying29 ti37 (by decide) (by decide) rfl rfl rfl rfl (by decide) fun b44 => ?_)
  refine WL_main rfl (OW_append1 (news := [_, _]) Tryd.underlying29 ti37 rfl (by decide) rfl rfl hr own0 rfl rfl (by omega) (by unfold maxLen; omega) (by decide) (DelAt.perm (.s (.z))) fun v45 p45 hr45 => ?_)
  refine Lq (q_assign rfl) ?_
  refine WL_nil (thenN (WC_ret ?_))
  refine ⟨_, [p45], [], fun Z w hs => .tmp rfl (.nil), ?_, fun Z w hs => hs.out (List.Sublist.cons_cons _ (List.Sublist.cons _ (List.Sublist.refl _))) (fun _ h => h)⟩
  exact ⟨p45, by rw [addF_nil h, rgs_one]; exact hr45, rfl, rfl⟩


set_option maxRecDepth 10000 in
theorem add_3 (v : Value) (ys : List Rg) (r : Rg) (p : Part) (lo hi : Int) (hr : Row 37 2 v (ys ++ [r]).length (rgs (ys ++ [r])) p) (hb : ys.length ≤ 1000000) (h : ¬ hi ≤ lo) (hj : lo ≤ r.hi) : Sp Tryd.prog 90 [v, .int .i64 lo, .int .i64 hi] [p] [] (fun v' Lo fs => ∃ p', Row 37 2 v' (addF (ys ++ [r]) lo hi).length (rgs (addF (ys ++ [r]) lo hi)) p' ∧ Lo = [p'] ∧ fs = []) := by
  have hn : (ys ++ [r]).length = ys.length + 1 := by simp
  obtain ⟨hlen, ⟨_, h0, _⟩ | ⟨b, cap, jk, rfl, rfl, h1, h2, h3⟩⟩ := hr
  · omega
  have hcs : (rgs (ys ++ [r]) ++ jk).length = ((ys ++ [r]).length) * 2 + jk.length := by rw [List.length_append, hlen]
  have hix : ((((ys ++ [r]).length : Nat) : Int) - 1).toNat = ys.length := by omega
  refine Sp.of (n := 46) ⟨_, Tryd.func90, rfl, rfl, rfl, rfl⟩ (Nat.le_of_ble_eq_true rfl) fun Ps As => ?_
  refine WC_seq (WC_region ?_)
  refine Lq (q_assign rfl) ?_
  refine WL_nil (thenN (WC_seq (WC_seq (WC_region ?_))))
  refine Lq (q_move rfl) ?_
  refine Lq (q_move rfl) ?_
  refine Lq (q_geq rfl rfl) ?_
  refine WL_nil (thenN ?_)
  refine WC_false rfl (by simpa using h) ?_
  refine WC_skip (thenN (WC_seq (WC_seq (WC_region ?_))))
  refine Lq (q_move rfl) ?_
  refine Lq (q_len Tryd.underlying29 rfl) ?_
  refine Lq (q_assign rfl) ?_
  refine WL_nil (thenN (WC_seq (WC_region ?_)))
  refine Lq (q_move rfl) ?_
  refine Lq (q_gtr rfl rfl) ?_
  refine Lq (q_move rfl) ?_
  refine Lg rfl rfl rfl (by simp) (q_move rfl) ?_
  refine Lg rfl rfl rfl (by simp) (q_move rfl) ?_
  refine Lg rfl rfl rfl (by simp) (q_sub rfl rfl (wr64 (by omega))) ?_
  refine Lg rfl rfl rfl (by simp) (q_idxOwn Tryd.underlying29 ti37 rfl rfl (by omega) (by omega)) ?_
  refine Lg rfl rfl rfl (by simp) (q_field (o' := _ + 1) Tryd.underlying37 rfl ti3 rfl rfl) ?_
  refine Lg rfl rfl rfl (by simp) (q_load1 Tryd.underlying3 rfl rfl own0 (by rw [hix]; exact rgs_last ys r jk)) ?_
  refine Lg rfl rfl rfl (by simp) (q_move rfl) ?_
  refine Lg rfl rfl rfl (by simp) (q_geq rfl rfl) ?_
  refine Lq (q_pickT rfl (by simp) rfl) ?_
  refine WL_nil (thenN ?_)
  refine WC_fr [(25, _), (7, _), (6, _), (0, _), (1, _), (2, _)] (.cons rfl (.cons rfl (.cons rfl (.cons rfl (.cons rfl (.cons rfl (.nil _))))))) ?_
  refine WC_true rfl (by simpa using hj) ?_
  refine WC_seq (WC_region ?_)
  refine Lq (q_move rfl) ?_
  refine Lq (q_move rfl) ?_
  refine Lq (q_sub rfl rfl (wr64 (by omega))) ?_
  refine Lq (q_move rfl) ?_
  refine Lq (q_move rfl) ?_
  refine Lq (q_sub rfl rfl (wr64 (by omega))) ?_
  refine Lq (q_idxOwn Tryd.underlying29 ti37 rfl rfl (by omega) (by omega)) ?_
  refine Lq (q_field (o' := _ + 1) Tryd.underlying37 rfl ti3 rfl rfl) ?_
  refine Lq (q_load1 Tryd.underlying3 rfl rfl own0 (by rw [hix]; exact rgs_last ys r jk)) ?_
  refine Lq (q_move rfl) ?_
  refine Lq (q_max rfl rfl) ?_
  refine Lq (q_idxOwn Tryd.underlying29 ti37 rfl rfl (by omega) (by omega)) ?_
  refine Lq (q_field (o' := _ + 1) Tryd.underlying37 rfl ti3 rfl rfl) ?_
  refine WL_main rfl (OW_storeC ti3 rfl rfl rfl (by rw [hcs, hix]; omega) (.z) ?_)
  refine WL_nil (thenN ?_)
  refine WC_fr [(6, _), (0, _), (1, _), (2, _)] (.cons rfl (.cons rfl (.cons rfl (.cons rfl (.nil _))))) ?_
  refine WC_seq (WC_region ?_)
  refine Lq (q_move rfl) ?_
  refine Lq (q_assign rfl) ?_
  refine WL_nil (thenN (WC_ret (thenRet ?_)))
  refine ⟨_, [_], [], fun Z w hs => .tmp rfl (.nil), ?_, fun Z w hs => hs.out (List.Sublist.cons_cons _ (List.Sublist.refl _)) (fun _ h => h)⟩
  refine ⟨_, ?_, rfl, rfl⟩
  rw [addF_join h hj, hix, rgs_set, show (ys ++ [r]).length = (ys ++ [(⟨r.lo, max r.hi hi⟩ : Rg)]).length from by simp]
  refine ⟨rgs_length _, .inr ⟨b, cap, jk, rfl, rfl, ?_, by simpa using h2, h3⟩⟩
  rw [List.length_append, rgs_length] at h1 ⊢
  simpa using h1


set_option maxRecDepth 10000 in
theorem add_4 (v : Value) (ys : List Rg) (r : Rg) (p : Part) (lo hi : Int) (hr : Row 37 2 v (ys ++ [r]).length (rgs (ys ++ [r])) p) (hb : ys.length ≤ 1000000) (h : ¬ hi ≤ lo) (hj : ¬ lo ≤ r.hi) : Sp Tryd.prog 90 [v, .int .i64 lo, .int .i64 hi] [p] [] (fun v' Lo fs => ∃ p', Row 37 2 v' (addF (ys ++ [r]) lo hi).length (rgs (addF (ys ++ [r]) lo hi)) p' ∧ Lo = [p'] ∧ fs = []) := by
  have hr0 := hr
  have hn : (ys ++ [r]).length = ys.length + 1 := by simp
  obtain ⟨hlen, ⟨_, h0, _⟩ | ⟨b, cap, jk, rfl, rfl, h1, h2, h3⟩⟩ := hr
  · omega
  have hcs : (rgs (ys ++ [r]) ++ jk).length = ((ys ++ [r]).length) * 2 + jk.length := by rw [List.length_append, hlen]
  have hix : ((((ys ++ [r]).length : Nat) : Int) - 1).toNat = ys.length := by omega
  refine Sp.of (n := 46) ⟨_, Tryd.func90, rfl, rfl, rfl, rfl⟩ (Nat.le_of_ble_eq_true rfl) fun Ps As => ?_
  refine WC_seq (WC_region ?_)
  refine Lq (q_assign rfl) ?_
  refine WL_nil (thenN (WC_seq (WC_seq (WC_region ?_))))
  refine Lq (q_move rfl) ?_
  refine Lq (q_move rfl) ?_
  refine Lq (q_geq rfl rfl) ?_
  refine WL_nil (thenN ?_)
  refine WC_false rfl (by simpa using h) ?_
  refine WC_skip (thenN (WC_seq (WC_seq (WC_region ?_))))
  refine Lq (q_move rfl) ?_
  refine Lq (q_len Tryd.underlying29 rfl) ?_
  refine Lq (q_assign rfl) ?_
  refine WL_nil (thenN (WC_seq (WC_region ?_)))
  refine Lq (q_move rfl) ?_
  refine Lq (q_gtr rfl rfl) ?_
  refine Lq (q_move rfl) ?_
  refine Lg rfl rfl rfl (by simp) (q_move rfl) ?_
  refine Lg rfl rfl rfl (by simp) (q_move rfl) ?_
  refine Lg rfl rfl rfl (by simp) (q_sub rfl rfl (wr64 (by omega))) ?_
  refine Lg rfl rfl rfl (by simp) (q_idxOwn Tryd.underlying29 ti37 rfl rfl (by omega) (by omega)) ?_
  refine Lg rfl rfl rfl (by simp) (q_field (o' := _ + 1) Tryd.underlying37 rfl ti3 rfl rfl) ?_
  refine Lg rfl rfl rfl (by simp) (q_load1 Tryd.underlying3 rfl rfl own0 (by rw [hix]; exact rgs_last ys r jk)) ?_
  refine Lg rfl rfl rfl (by simp) (q_move rfl) ?_
  refine Lg rfl rfl rfl (by simp) (q_geq rfl rfl) ?_
  refine Lq (q_pickT rfl (by simp) rfl) ?_
  refine WL_nil (thenN ?_)
  refine WC_fr [(25, _), (7, _), (6, _), (0, _), (1, _), (2, _)] (.cons rfl (.cons rfl (.cons rfl (.cons rfl (.cons rfl (.cons rfl (.nil _))))))) ?_
  refine WC_false rfl (by simpa using hj) ?_
  refine WC_skip (thenN (WC_seq (WC_region ?_)))
  refine Lq (q_move rfl) ?_
  refine Lq (q_move rfl) ?_
  refine Lq (q_move rfl) ?_
  refine Lq (q_build (.cons rfl (.cons rfl (.nil))) (bd37_0_1Xw3 _ _)) ?_
  refine WL_main rfl (OW_slice1 (cs := [_, _]) Tryd.underlying29 ti37 (by decide) (by decide) rfl rfl rfl rfl (by decide) fun b44 => ?_)
  refine WL_main rfl (OW_append1 (news := [_, _]) Tryd.underlying29 ti37 rfl (by decide) rfl rfl hr0 own0 rfl rfl (by omega) (by unfold maxLen; omega) (by decide) (DelAt.perm (.s (.z))) fun v45 p45 hr45 => ?_)
  refine Lq (q_assign rfl) ?_
  refine WL_nil (thenN (WC_ret ?_))
  refine ⟨_, [p45], [], fun Z w hs => .tmp rfl (.nil), ?_, fun Z w hs => hs.out (List.Sublist.cons_cons _ (List.Sublist.cons _ (List.Sublist.refl _))) (fun _ h => h)⟩
  exact ⟨p45, by rw [addF_more h hj, rgs_append (ys ++ [r]), rgs_one, List.length_append]; exact hr45, rfl, rfl⟩

theorem add_s (v : Value) (xs : List Rg) (p : Part) (lo hi : Int) (hr : Row 37 2 v xs.length (rgs xs) p) (hb : xs.length ≤ 1000000) : Sp Tryd.prog 90 [v, .int .i64 lo, .int .i64 hi] [p] [] (fun v' Lo fs => ∃ p', Row 37 2 v' (addF xs lo hi).length (rgs (addF xs lo hi)) p' ∧ Lo = [p'] ∧ fs = []) := by
  by_cases h : hi ≤ lo
  · exact add_1 v xs p lo hi hr h
  · rcases List.eq_nil_or_concat xs with rfl | ⟨ys, r, rfl⟩
    · exact add_2 v p lo hi hr h
    · rw [List.concat_eq_append] at *
      have hb' : ys.length ≤ 1000000 := by simp at hb; omega
      by_cases hj : lo ≤ r.hi
      · exact add_3 v ys r p lo hi hr hb' h hj
      · exact add_4 v ys r p lo hi hr hb' h hj
theorem bounded_1 (A : Option Addr) (c : Nat) (xs : List Rg) (h : xs.length > 32768) : Sp Tryd.prog 91 [.slice A xs.length c] [] [] (Is (.tuple #[.slice none 0 0, .int .i64 21])) := by
  have := bounded_s A c xs
  unfold bndV at this
  rwa [if_pos h] at this
theorem bounded_2 (A : Option Addr) (c : Nat) (xs : List Rg) (h : ¬ xs.length > 32768) : Sp Tryd.prog 91 [.slice A xs.length c] [] [] (Is (.tuple #[.slice A xs.length c, .int .i64 0])) := by
  have := bounded_s A c xs
  unfold bndV at this
  rwa [if_neg h] at this
end Go.Proofs.YtggdddkbhigjoaaDoor
/- Walks: span.Check. -/
namespace Go.Proofs.YtggdddkbhigjoaaDoor
open Go Go.GW
set_option maxRecDepth 10000 in
theorem check_s (A : Option Addr) (c : Nat) (xs : List Rg) (hl : xs.length ≤ 4398046511104) : Sp Tryd.prog 86 [.slice A xs.length c] [] [RdF rgD A c xs] (Is (.tuple #[.int .i64 (ckF xs).1, .int .i64 (ckF xs).2])) := by
  refine Sp.of (n := 47) ⟨_, Tryd.func86, rfl, rfl, rfl, rfl⟩ (Nat.le_of_ble_eq_true rfl) fun Ps As => ?_
  refine WC_seq (WC_region ?_)
  refine Lq (q_assign rfl) ?_
  refine Lq (q_assign rfl) ?_
  refine WL_nil (thenN (WC_seq (WC_seq (WC_region ?_))))
  refine Lq (q_move rfl) ?_
  refine Lq (q_len Tryd.underlying29 rfl) ?_
  refine Lq (q_gtr rfl rfl) ?_
  refine WL_nil (thenN ?_)
  refine WC_cond rfl (fun h8 => ?_) (fun h8 => ?_)
  · refine WC_seq (WC_region ?_)
    refine Lq (q_assign rfl) ?_
    refine Lq (q_assign rfl) ?_
    refine WL_nil (thenN (WC_ret (thenRet ?_)))
    refine ⟨_, [], [], fun Z w hs => .tmp rfl (.tmp rfl (.nil)), ?_, fun Z w hs => hs.out (List.Sublist.refl _) (fun _ h => h)⟩
    try simp only [Bq0, Bq1, Bq2, Bq3, Bq4, Bq5, Bq6, Bq7, Bq8, Bq9, Bq10, Bq11, Bq12] at *
    exact ⟨by unfold ckF; rw [if_pos (by omega)]; rfl, rfl, rfl⟩
  · refine WC_skip (thenN (WC_seq (WC_seq (WC_region ?_))))
    refine Lq (q_move rfl) ?_
    refine Lq (q_len Tryd.underlying29 rfl) ?_
    refine Lq (q_move rfl) ?_
    refine WL_nil (thenN (WC_block ?_))
    refine WC_loopE (α := Nat) (fun k => xs.length - k)
      (fun k => [(0, .slice A xs.length c), (9, .slice A xs.length c), (10, .int .i64 xs.length), (11, .int .i64 k)])
      (fun k => Ps)
      (fun k => (RdF rgD A c xs :: As))
      (fun k => CkI xs k)
      0 ?_ (.cons rfl (.cons rfl (.cons rfl (.cons rfl (.nil _))))) (List.Sublist.refl _) (fun _ h => h) ?_
    · simp only [decide_eq_false_iff_not] at h8
      exact CkI.zero (by omega)
    · rintro k hI
      refine WC_seq (WC_region ?_)
      refine Lq (q_lss rfl rfl) ?_
      refine WL_nil (thenN (WC_seq ?_))
      refine WC_cond rfl (fun h12 => ?_) (fun h12 => ?_)
      · refine WC_skip (thenN (WC_seq (WC_block (WC_seq ?_))))
        have hk : k < xs.length := by simpa using h12
        refine WC_elem (k := k) (.head _) (List.getElem?_eq_getElem hk) (rg_open _) fun b5 q5 y5 e5 => ?_
        cases e5
        refine WC_region ?_
        refine Lq (q_move rfl) ?_
        refine Lq (q_idxRd Tryd.underlying29 ti37 rfl rfl (by omega) (by omega)) ?_
        refine Lq (q_loadFN (k := 0) (vs := [_, _]) Tryd.underlying37 rfl ti37 rfl (.head _) rfl rfl rfl) ?_
        refine WL_main rfl (OW_alloc (cs := [_, _]) ti37 rfl (by decide) fun b5 => ?_)
        refine Lq (q_assign rfl) ?_
        refine WL_main rfl (OW_storeN (cs' := [_, _]) (vs := [_, _]) ti37 rfl rfl rfl rfl rfl (Nat.le_of_ble_eq_true rfl) (.z) ?_)
        refine WL_nil (thenN (WC_seq (WC_seq (WC_region ?_))))
        refine Lq (q_field (o' := 0) Tryd.underlying37 rfl ti3 rfl rfl) ?_
        refine Lq (q_load1 Tryd.underlying3 rfl rfl own0 rfl) ?_
        refine Lq (q_lss rfl rfl) ?_
        refine Lq (q_move rfl) ?_
        refine WL_guard (t := 19) rfl (fun g19 => ?_) (fun g19 => ?_)
        · refine Ln rfl rfl rfl g19 ?_
          refine Ln rfl rfl rfl g19 ?_
          refine Ln rfl rfl rfl g19 ?_
          refine Lq (q_pickT rfl g19 rfl) ?_
          refine Lq (q_move rfl) ?_
          refine Ln rfl rfl rfl rfl ?_
          refine Ln rfl rfl rfl rfl ?_
          refine Ln rfl rfl rfl rfl ?_
          refine Ln rfl rfl rfl rfl ?_
          refine Ln rfl rfl rfl rfl ?_
          refine Lq (q_pickT rfl rfl rfl) ?_
          refine WL_nil (thenN (WC_true rfl rfl (WC_seq (WC_region ?_))))
          refine Lq (q_move rfl) ?_
          refine Lq (q_assign rfl) ?_
          refine Lq (q_assign rfl) ?_
          refine WL_nil (thenN (WC_ret (thenRet (blockRet (thenRet (thenRet (blockRet ?_)))))))
          refine thenRet ?_
          refine ⟨_, [], [], fun Z w hs => .tmp rfl (.tmp rfl (.nil)), ?_, fun Z w hs => hs.out (List.Sublist.cons _ (List.Sublist.refl _)) (fun _ h => .tail _ h)⟩
          try simp only [Bq0, Bq1, Bq2, Bq3, Bq4, Bq5, Bq6, Bq7, Bq8, Bq9, Bq10, Bq11, Bq12] at *
          first
            | (have hF := CkI.bad hI hk (by omega); exact ⟨by rw [hF]; rfl, rfl, rfl⟩)
            | (have hF := CkI.ord hI hk (by omega) (by omega); exact ⟨by rw [hF]; rfl, rfl, rfl⟩)
            | (have hF := CkI.done hI (by omega); exact ⟨by rw [hF]; rfl, rfl, rfl⟩)
        · refine Lg rfl rfl rfl g19 (q_field (o' := 1) Tryd.underlying37 rfl ti3 rfl rfl) ?_
          refine Lg rfl rfl rfl g19 (q_load1 Tryd.underlying3 rfl rfl own0 rfl) ?_
          refine Lg rfl rfl rfl g19 (q_gtr rfl rfl) ?_
          refine Lq (q_pickF rfl g19 rfl) ?_
          refine Lq (q_move rfl) ?_
          refine WL_guard (t := 24) rfl (fun g24 => ?_) (fun g24 => ?_)
          · refine Ln rfl rfl rfl g24 ?_
            refine Ln rfl rfl rfl g24 ?_
            refine Ln rfl rfl rfl g24 ?_
            refine Ln rfl rfl rfl g24 ?_
            refine Ln rfl rfl rfl g24 ?_
            refine Lq (q_pickT rfl g24 rfl) ?_
            refine WL_nil (thenN (WC_true rfl rfl (WC_seq (WC_region ?_))))
            refine Lq (q_move rfl) ?_
            refine Lq (q_assign rfl) ?_
            refine Lq (q_assign rfl) ?_
            refine WL_nil (thenN (WC_ret (thenRet (blockRet (thenRet (thenRet (blockRet ?_)))))))
            refine thenRet ?_
            refine ⟨_, [], [], fun Z w hs => .tmp rfl (.tmp rfl (.nil)), ?_, fun Z w hs => hs.out (List.Sublist.cons _ (List.Sublist.refl _)) (fun _ h => .tail _ h)⟩
            try simp only [Bq0, Bq1, Bq2, Bq3, Bq4, Bq5, Bq6, Bq7, Bq8, Bq9, Bq10, Bq11, Bq12] at *
            first
              | (have hF := CkI.bad hI hk (by omega); exact ⟨by rw [hF]; rfl, rfl, rfl⟩)
              | (have hF := CkI.ord hI hk (by omega) (by omega); exact ⟨by rw [hF]; rfl, rfl, rfl⟩)
              | (have hF := CkI.done hI (by omega); exact ⟨by rw [hF]; rfl, rfl, rfl⟩)
          · refine Lg rfl rfl rfl g24 (q_field (o' := 0) Tryd.underlying37 rfl ti3 rfl rfl) ?_
            refine Lg rfl rfl rfl g24 (q_load1 Tryd.underlying3 rfl rfl own0 rfl) ?_
            refine Lg rfl rfl rfl g24 (q_field (o' := 1) Tryd.underlying37 rfl ti3 rfl rfl) ?_
            refine Lg rfl rfl rfl g24 (q_load1 Tryd.underlying3 rfl rfl own0 rfl) ?_
            refine Lg rfl rfl rfl g24 (q_geq rfl rfl) ?_
            refine Lq (q_pickF rfl g24 rfl) ?_
            refine WL_nil (thenN ?_)
            refine WC_cond rfl (fun h30 => ?_) (fun h30 => ?_)
            · refine WC_seq (WC_region ?_)
              refine Lq (q_move rfl) ?_
              refine Lq (q_assign rfl) ?_
              refine Lq (q_assign rfl) ?_
              refine WL_nil (thenN (WC_ret (thenRet (blockRet (thenRet (thenRet (blockRet ?_)))))))
              refine thenRet ?_
              refine ⟨_, [], [], fun Z w hs => .tmp rfl (.tmp rfl (.nil)), ?_, fun Z w hs => hs.out (List.Sublist.cons _ (List.Sublist.refl _)) (fun _ h => .tail _ h)⟩
              try simp only [Bq0, Bq1, Bq2, Bq3, Bq4, Bq5, Bq6, Bq7, Bq8, Bq9, Bq10, Bq11, Bq12] at *
              first
                | (have hF := CkI.bad hI hk (by omega); exact ⟨by rw [hF]; rfl, rfl, rfl⟩)
                | (have hF := CkI.ord hI hk (by omega) (by omega); exact ⟨by rw [hF]; rfl, rfl, rfl⟩)
                | (have hF := CkI.done hI (by omega); exact ⟨by rw [hF]; rfl, rfl, rfl⟩)
            · refine WC_skip (thenN (WC_seq ?_))
              rcases k with _ | k
              · refine WC_draw _ _ [] (.c 0 0 (.c 1 0 (.c 2 0 (.c 3 0 (.c 4 0 (.c 5 0 (.c 6 0 (.c 7 0 (.c 8 0 (.c 9 0 (.c 10 0 (.c 11 0 (.c 12 0 .nil))))))))))))) mixed (fun _ _ _ _ h => h) (List.Sublist.cons_cons _ (List.Sublist.refl _)) (fun _ h => h) (by kernel_rfl) (by decide) fun ws Z0 => ?_
                refine Qe rfl (q_move rfl) ?_
                refine Qe rfl (q_gtr rfl rfl) ?_
                refine Qe rfl (q_move rfl) ?_
                refine WE_gno rfl rfl rfl rfl (by simp) (by decide) ?_
                refine WE_gno rfl rfl rfl rfl (by simp) (by decide) ?_
                refine WE_gno rfl rfl rfl rfl (by simp) (by decide) ?_
                refine WE_gno rfl rfl rfl rfl (by simp) (by decide) ?_
                refine WE_gno rfl rfl rfl rfl (by simp) (by decide) ?_
                refine WE_gno rfl rfl rfl rfl (by simp) (by decide) ?_
                refine WE_gno rfl rfl rfl rfl (by simp) (by decide) ?_
                refine WE_gno rfl rfl rfl rfl (by simp) (by decide) ?_
                refine WE_gno rfl rfl rfl rfl (by simp) (by decide) ?_
                refine Qe rfl (q_pickF rfl (by simp) rfl) ?_
                refine WE_end (WF_nil ?_)
                refine thenN (WC_false rfl rfl (WC_skip (blockN (thenN (WC_region ?_)))))
                refine Lq (q_add rfl rfl (wr64 (by omega))) ?_
                refine Lq (q_move rfl) ?_
                refine WL_nil (thenK ?_)
                refine ⟨0 + 1, ?_, (.cons rfl (.cons rfl (.cons rfl (.cons rfl (.nil _))))), (List.Sublist.cons _ (List.Sublist.refl _)), (fun _ h => .tail _ (.tail _ h))⟩
                try simp only [Bq0, Bq1, Bq2, Bq3, Bq4, Bq5, Bq6, Bq7, Bq8, Bq9, Bq10, Bq11, Bq12] at *
                exact ⟨by omega, by first | exact CkI.first hI hk (by omega) | exact CkI.next hI hk (by omega) (by omega)⟩
              · refine WC_elem (k := k) (.tail _ (.head _)) (List.getElem?_eq_getElem (by omega : k < xs.length)) (rg_open _) fun b7 q7 y7 e7 => ?_
                cases e7
                refine WC_draw _ _ [] (.c 0 0 (.c 1 0 (.c 2 0 (.c 3 0 (.c 4 0 (.c 5 0 (.c 6 0 (.c 7 0 (.c 8 0 (.c 9 0 (.c 10 0 (.c 11 0 (.c 12 0 .nil))))))))))))) mixed (fun _ _ _ _ h => h) (List.Sublist.cons_cons _ (List.Sublist.refl _)) (fun _ h => h) (by kernel_rfl) (by decide) fun ws Z0 => ?_
                refine Qe rfl (q_move rfl) ?_
                refine Qe rfl (q_gtr rfl rfl) ?_
                refine Qe rfl (q_move rfl) ?_
                refine WE_gq rfl rfl rfl rfl (by first | (simp; done) | (simp; omega)) (q_field (o' := 0) Tryd.underlying37 rfl ti3 rfl rfl) (by decide) ?_
                refine WE_gq rfl rfl rfl rfl (by first | (simp; done) | (simp; omega)) (q_load1 Tryd.underlying3 rfl rfl own0 rfl) (by decide) ?_
                refine WE_gq rfl rfl rfl rfl (by first | (simp; done) | (simp; omega)) (q_move rfl) (by decide) ?_
                refine WE_gq rfl rfl rfl rfl (by first | (simp; done) | (simp; omega)) (q_move rfl) (by decide) ?_
                refine WE_gq rfl rfl rfl rfl (by first | (simp; done) | (simp; omega)) (q_sub rfl rfl (by rw [wr64 (by omega)]; omega) (c := (k : Int))) (by decide) ?_
                refine WE_gq rfl rfl rfl rfl (by first | (simp; done) | (simp; omega)) (q_idxRd Tryd.underlying29 ti37 rfl rfl (by omega) (by omega)) (by decide) ?_
                refine WE_gq rfl rfl rfl rfl (by first | (simp; done) | (simp; omega)) (q_field (o' := _ + 1) Tryd.underlying37 rfl ti3 rfl rfl) (by decide) ?_
                refine WE_gq rfl rfl rfl rfl (by first | (simp; done) | (simp; omega)) (q_loadF1 (j := 1) Tryd.underlying3 rfl rfl (.head _) rfl rfl) (by decide) ?_
                refine WE_gq rfl rfl rfl rfl (by first | (simp; done) | (simp; omega)) (q_leq rfl rfl) (by decide) ?_
                refine Qe rfl (q_pickT rfl (by first | (simp; done) | (simp; omega)) rfl) ?_
                refine WE_end (WF_nil ?_)
                refine thenN ?_
                refine WC_cond rfl (fun h44 => ?_) (fun h44 => ?_)
                · refine WC_seq (WC_region ?_)
                  refine Lq (q_move rfl) ?_
                  refine Lq (q_assign rfl) ?_
                  refine Lq (q_assign rfl) ?_
                  refine WL_nil (thenN (WC_ret (blockRet (thenRet (thenRet (blockRet (thenRet ?_)))))))
                  refine ⟨_, [], [], fun Z w hs => .tmp rfl (.tmp rfl (.nil)), ?_, fun Z w hs => hs.out (List.Sublist.cons _ (List.Sublist.refl _)) (fun _ h => .tail _ (.tail _ (.tail _ h)))⟩
                  try simp only [Bq0, Bq1, Bq2, Bq3, Bq4, Bq5, Bq6, Bq7, Bq8, Bq9, Bq10, Bq11, Bq12] at *
                  first
                    | (have hF := CkI.bad hI hk (by omega); exact ⟨by rw [hF]; rfl, rfl, rfl⟩)
                    | (have hF := CkI.ord hI hk (by omega) (by omega); exact ⟨by rw [hF]; rfl, rfl, rfl⟩)
                    | (have hF := CkI.done hI (by omega); exact ⟨by rw [hF]; rfl, rfl, rfl⟩)
                · refine WC_skip (blockN (thenN (WC_region ?_)))
                  refine Lq (q_add rfl rfl (wr64 (by omega))) ?_
                  refine Lq (q_move rfl) ?_
                  refine WL_nil (thenK ?_)
                  refine ⟨(k + 1) + 1, ?_, (.cons rfl (.cons rfl (.cons rfl (.cons rfl (.nil _))))), (List.Sublist.cons _ (List.Sublist.refl _)), (fun _ h => .tail _ (.tail _ (.tail _ h)))⟩
                  try simp only [Bq0, Bq1, Bq2, Bq3, Bq4, Bq5, Bq6, Bq7, Bq8, Bq9, Bq10, Bq11, Bq12] at *
                  exact ⟨by omega, by first | exact CkI.first hI hk (by omega) | exact CkI.next hI hk (by omega) (by omega)⟩
      · refine WC_exit (thenExit (thenExit (blockHit (thenN (WC_seq (WC_region ?_))))))
        refine Lq (q_assign rfl) ?_
        refine Lq (q_assign rfl) ?_
        refine WL_nil (thenN (WC_ret ?_))
        refine ⟨_, [], [], fun Z w hs => .tmp rfl (.tmp rfl (.nil)), ?_, fun Z w hs => hs.out (List.Sublist.refl _) (fun _ h => h)⟩
        try simp only [Bq0, Bq1, Bq2, Bq3, Bq4, Bq5, Bq6, Bq7, Bq8, Bq9, Bq10, Bq11, Bq12] at *
        first
          | (have hF := CkI.bad hI hk (by omega); exact ⟨by rw [hF]; rfl, rfl, rfl⟩)
          | (have hF := CkI.ord hI hk (by omega) (by omega); exact ⟨by rw [hF]; rfl, rfl, rfl⟩)
          | (have hF := CkI.done hI (by omega); exact ⟨by rw [hF]; rfl, rfl, rfl⟩)

end Go.Proofs.YtggdddkbhigjoaaDoor
/- Walks: span.Through. -/
namespace Go.Proofs.YtggdddkbhigjoaaDoor
open Go Go.GW
def ThrP (xs : List Rg) (at_ n : Int) : Value → List Part → List Fact → Prop := fun v Lo fs =>
  ∃ (A' : Option Addr) (c' : Nat), v = .tuple #[.slice A' (thrF xs at_ n).1.length c', .int .i64 (thrF xs at_ n).2] ∧ Lo = [] ∧ fs = [RdF rgD A' c' (thrF xs at_ n).1]

set_option maxRecDepth 10000 in
theorem through_s (A : Option Addr) (c : Nat) (xs : List Rg) (at_ n : Int) (hl : xs.length ≤ 4398046511104) : Sp Tryd.prog 67 [.slice A xs.length c, .int .i64 at_, .int .i64 n] [] [RdF rgD A c xs] (ThrP xs at_ n) := by
  refine Sp.of (n := 78) ⟨_, Tryd.func67, rfl, rfl, rfl, rfl⟩ (Nat.le_of_ble_eq_true rfl) fun Ps As => ?_
  refine WC_seq (WC_region ?_)
  refine Lq (q_assign rfl) ?_
  refine Lq (q_assign rfl) ?_
  refine WL_nil (thenN (WC_seq (WC_seq (WC_region ?_))))
  refine Lq (q_move rfl) ?_
  refine WL_main rfl (OW_call0 (check_s A c xs hl) (.cons rfl (.nil)) (by decide) (memc (.head _) mem0) fun u1_1 Lo fs hres => ?_)
  obtain ⟨rfl, rfl, rfl⟩ := hres
  refine Lq (q_move rfl) ?_
  refine Lq (q_extract (vs := [_, _]) rfl rfl) ?_
  refine Lq (q_extract (vs := [_, _]) rfl rfl) ?_
  refine Lq (q_assign rfl) ?_
  refine Lq (q_assign rfl) ?_
  refine WL_nil (thenN (WC_seq (WC_region ?_)))
  refine Lq (q_move rfl) ?_
  refine Lq (q_neq rfl rfl) ?_
  refine WL_nil (thenN ?_)
  refine WC_fr [(20, _), (9, _), (7, _), (6, _), (0, _), (1, _), (2, _)] (.cons rfl (.cons rfl (.cons rfl (.cons rfl (.cons rfl (.cons rfl (.cons rfl (.nil _)))))))) ?_
  refine WC_cond rfl (fun h20 => ?_) (fun h20 => ?_)
  · refine WC_seq (WC_region ?_)
    refine Lq (q_move rfl) ?_
    refine Lq (q_assign rfl) ?_
    refine Lq (q_assign rfl) ?_
    refine WL_nil (thenN (WC_ret (thenRet ?_)))
    refine ⟨_, [], [RdF rgD none 0 []], fun Z w hs => .tmp rfl (.tmp rfl (.nil)), ?_, fun Z w hs => ⟨Z, ((hs.subParts (List.Sublist.refl _)).subFacts (fun _ h => h)).addFact (A := RdF rgD none 0 []) (RdS.nil _ _ _)⟩⟩
    try simp only [Bq0, Bq1, Bq2, Bq3, Bq4, Bq5, Bq6, Bq7, Bq8, Bq9, Bq10, Bq11, Bq12] at *
    have hF : thrF xs at_ n = _ := thrF_ck (by omega)
    exact ⟨none, 0, by rw [hF]; rfl, rfl, by rw [hF]⟩
  · refine WC_skip (thenN (WC_seq (WC_seq (WC_region ?_))))
    refine Lq (q_move rfl) ?_
    refine WL_main rfl (OW_call0 (outside_s at_) (.cons rfl (.nil)) (by decide) mem0 fun u4_1 Lo fs hres => ?_)
    obtain ⟨rfl, rfl, rfl⟩ := hres
    refine Lq (q_move rfl) ?_
    refine WL_guard (t := 24) rfl (fun g24 => ?_) (fun g24 => ?_)
    · refine Ln rfl rfl rfl g24 ?_
      refine Ln rfl rfl rfl g24 ?_
      refine Lq (q_pickT rfl g24 rfl) ?_
      refine WL_nil (thenN (WC_true rfl rfl (WC_seq (WC_region ?_))))
      refine Lq (q_assign rfl) ?_
      refine Lq (q_assign rfl) ?_
      refine WL_nil (thenN (WC_ret (thenRet ?_)))
      refine ⟨_, [], [RdF rgD none 0 []], fun Z w hs => .tmp rfl (.tmp rfl (.nil)), ?_, fun Z w hs => ⟨Z, ((hs.subParts (List.Sublist.refl _)).subFacts (fun _ h => h)).addFact (A := RdF rgD none 0 []) (RdS.nil _ _ _)⟩⟩
      try simp only [Bq0, Bq1, Bq2, Bq3, Bq4, Bq5, Bq6, Bq7, Bq8, Bq9, Bq10, Bq11, Bq12] at *
      have hF : thrF xs at_ n = _ := thrF_out (by omega) (by omega)
      exact ⟨none, 0, by rw [hF]; rfl, rfl, by rw [hF]⟩
    · refine Lg rfl rfl rfl g24 (q_move rfl) ?_
      refine WL_gmain rfl rfl rfl g24 (OW_call0 (outside_s n) (.cons rfl (.nil)) (by decide) mem0 fun u4_4 Lo fs hres => ?_)
      obtain ⟨rfl, rfl, rfl⟩ := hres
      refine Lq (q_pickF rfl g24 rfl) ?_
      refine WL_nil (thenN ?_)
      refine WC_cond rfl (fun h27 => ?_) (fun h27 => ?_)
      · refine WC_seq (WC_region ?_)
        refine Lq (q_assign rfl) ?_
        refine Lq (q_assign rfl) ?_
        refine WL_nil (thenN (WC_ret (thenRet ?_)))
        refine ⟨_, [], [RdF rgD none 0 []], fun Z w hs => .tmp rfl (.tmp rfl (.nil)), ?_, fun Z w hs => ⟨Z, ((hs.subParts (List.Sublist.refl _)).subFacts (fun _ h => h)).addFact (A := RdF rgD none 0 []) (RdS.nil _ _ _)⟩⟩
        try simp only [Bq0, Bq1, Bq2, Bq3, Bq4, Bq5, Bq6, Bq7, Bq8, Bq9, Bq10, Bq11, Bq12] at *
        have hF : thrF xs at_ n = _ := thrF_out (by omega) (by omega)
        exact ⟨none, 0, by rw [hF]; rfl, rfl, by rw [hF]⟩
      · refine WC_skip (thenN (WC_seq (WC_seq (WC_region ?_))))
        refine Lq (q_move rfl) ?_
        refine Lq (q_len Tryd.underlying29 rfl) ?_
        refine Lq (q_gtr rfl rfl) ?_
        refine WL_nil (thenN ?_)
        refine WC_fr [(30, _), (7, _), (6, _), (0, _), (1, _), (2, _)] (.cons rfl (.cons rfl (.cons rfl (.cons rfl (.cons rfl (.cons rfl (.nil _))))))) ?_
        refine WC_cond rfl (fun h30 => ?_) (fun h30 => ?_)
        · refine WC_seq ?_
          try simp only [Bq0, Bq1, Bq2, Bq3, Bq4, Bq5, Bq6, Bq7, Bq8, Bq9, Bq10, Bq11, Bq12] at *
          have hk0 : xs.length - 1 < xs.length := by omega
          have hg := ckF_at (by omega) hk0
          refine WC_elem (k := (xs.length - 1)) (.head _) (List.getElem?_eq_getElem hk0) (rg_open _) fun b7 q7 y7 e7 => ?_
          cases e7
          refine WC_region ?_
          refine Lq (q_move rfl) ?_
          refine Lq (q_move rfl) ?_
          refine Lq (q_len Tryd.underlying29 rfl) ?_
          refine Lq (q_sub rfl rfl (by rw [wr64 (by omega)]; omega) (c := ((xs.length - 1 : Nat) : Int))) ?_
          refine Lq (q_idxRd Tryd.underlying29 ti37 rfl rfl (by omega) (by omega)) ?_
          refine Lq (q_field (o' := _ + 1) Tryd.underlying37 rfl ti3 rfl rfl) ?_
          refine Lq (q_loadF1 (j := 1) Tryd.underlying3 rfl rfl (.head _) rfl rfl) ?_
          refine Lq (q_assign rfl) ?_
          refine WL_nil (thenN ?_)
          refine WC_fr [(10, _), (7, _), (6, _), (0, _), (1, _), (2, _)] (.cons rfl (.cons rfl (.cons rfl (.cons rfl (.cons rfl (.cons rfl (.nil _))))))) ?_
          refine WC_seq (WC_region ?_)
          refine Lq (q_move rfl) ?_
          refine Lq (q_move rfl) ?_
          refine Lq (q_gtr rfl rfl) ?_
          refine Lq (q_move rfl) ?_
          refine WL_guard (t := 41) rfl (fun g41 => ?_) (fun g41 => ?_)
          · refine Lg rfl rfl rfl g41 (q_move rfl) ?_
            refine Lg rfl rfl rfl g41 (q_move rfl) ?_
            refine Lg rfl rfl rfl g41 (q_add rfl rfl (wr64 (by omega))) ?_
            refine Lg rfl rfl rfl g41 (q_gtr rfl rfl) ?_
            refine Lq (q_pickT rfl g41 rfl) ?_
            refine WL_nil (thenN ?_)
            refine WC_fr [(46, _), (7, _), (6, _), (0, _), (1, _), (2, _)] (.cons rfl (.cons rfl (.cons rfl (.cons rfl (.cons rfl (.cons rfl (.nil _))))))) ?_
            refine WC_cond rfl (fun h46 => ?_) (fun h46 => ?_)
            · refine WC_seq (WC_region ?_)
              refine Lq (q_assign rfl) ?_
              refine Lq (q_assign rfl) ?_
              refine WL_nil (thenN (WC_ret (thenRet ?_)))
              refine ⟨_, [], [RdF rgD none 0 []], fun Z w hs => .tmp rfl (.tmp rfl (.nil)), ?_, fun Z w hs => ⟨Z, ((hs.subParts (List.Sublist.refl _)).subFacts (fun _ h => .tail _ h)).addFact (A := RdF rgD none 0 []) (RdS.nil _ _ _)⟩⟩
              try simp only [Bq0, Bq1, Bq2, Bq3, Bq4, Bq5, Bq6, Bq7, Bq8, Bq9, Bq10, Bq11, Bq12] at *
              have hF : thrF xs at_ n = _ := thrF_grow (by omega) (by omega) (by omega) ⟨by omega, by omega⟩
              exact ⟨none, 0, by rw [hF]; rfl, rfl, by rw [hF]⟩
            · refine WC_skip (thenN (WC_seq (WC_region ?_)))
              refine Lq (q_assign rfl) ?_
              refine WL_nil (thenN (WC_seq (WC_seq (WC_region ?_))))
              refine Lq (q_move rfl) ?_
              refine Lq (q_len Tryd.underlying29 rfl) ?_
              refine Lq (q_move rfl) ?_
              refine WL_nil (thenN (WC_block ?_))
              try simp only [Bq0, Bq1, Bq2, Bq3, Bq4, Bq5, Bq6, Bq7, Bq8, Bq9, Bq10, Bq11, Bq12] at *
              have hC : (ckF xs).2 = 0 := by omega
              have hl2 := (ckF_good hC).1
              have hOK : thrF xs at_ n = boundF (thrL at_ n [] xs) := by
                first
                | exact thrF_ok (by omega) (by omega) hk0 (by omega)
                | (obtain rfl : xs = [] := List.length_eq_zero_iff.1 (by omega); exact thrF_nil (by omega))
              refine WC_nilPart ?_
              refine WC_loopE (α := Nat × List Rg × Value × Part) (fun (k, acc, v, p) => xs.length - k)
                (fun (k, acc, v, p) => [(1, .int .i64 at_), (2, .int .i64 n), (11, v), (47, .slice (some ⟨b7, q7, none⟩) xs.length c), (48, .int .i64 xs.length), (49, .int .i64 k)])
                (fun (k, acc, v, p) => p :: Ps)
                (fun (k, acc, v, p) => (RdF rgD (some ⟨b7, q7, none⟩) c xs :: As))
                (fun (k, acc, v, p) => ThI xs at_ n k acc v p)
                (0, [], .slice none 0 0, []) ?_ (.cons rfl (.cons rfl (.cons rfl (.cons rfl (.cons rfl (.cons rfl (.nil _))))))) (List.Sublist.cons_cons _ (List.Sublist.refl _)) (fun _ h => .tail _ h) ?_
              · exact ⟨Nat.zero_le _, Row.nil _ _, by simp, rfl⟩
              · rintro ⟨k, acc, v, p⟩ hI
                refine WC_seq (WC_region ?_)
                refine Lq (q_lss rfl rfl) ?_
                refine WL_nil (thenN (WC_seq ?_))
                refine WC_cond rfl (fun h50 => ?_) (fun h50 => ?_)
                · refine WC_skip (thenN (WC_seq (WC_block (WC_seq ?_))))
                  have hk : k < xs.length := by simpa using h50
                  have hg2 := ckF_at hC hk
                  refine WC_elem (k := k) (.head _) (List.getElem?_eq_getElem hk) (rg_open _) fun b13 q13 y13 e13 => ?_
                  cases e13
                  refine WC_region ?_
                  refine Lq (q_idxRd Tryd.underlying29 ti37 rfl rfl (by omega) (by omega)) ?_
                  refine Lq (q_loadFN (k := 0) (vs := [_, _]) Tryd.underlying37 rfl ti37 rfl (.head _) rfl rfl rfl) ?_
                  refine WL_main rfl (OW_alloc (cs := [_, _]) ti37 rfl (by decide) fun b13 => ?_)
                  refine WL_main rfl (OW_storeN (cs' := [_, _]) (vs := [_, _]) ti37 rfl rfl rfl rfl rfl (Nat.le_of_ble_eq_true rfl) (.z) ?_)
                  refine WL_nil (thenN (WC_seq (WC_region ?_)))
                  refine Lq (q_move rfl) ?_
                  refine Lq (q_field (o' := 0) Tryd.underlying37 rfl ti3 rfl rfl) ?_
                  refine Lq (q_load1 Tryd.underlying3 rfl rfl own0 rfl) ?_
                  refine Lq (q_field (o' := 1) Tryd.underlying37 rfl ti3 rfl rfl) ?_
                  refine Lq (q_load1 Tryd.underlying3 rfl rfl own0 rfl) ?_
                  refine Lq (q_move rfl) ?_
                  refine Lq (q_min rfl rfl) ?_
                  refine WL_main rfl (OW_call1 (add_s v acc p xs[k].lo (min xs[k].hi at_) hI.row (by have := hI.len; have := hI.le; omega)) (.cons rfl (.cons rfl (.cons rfl (.nil)))) (by decide) (.s (.z)) mem0 fun va Lo fs hres => ?_)
                  obtain ⟨pa, hra, rfl, rfl⟩ := hres
                  refine Lq (q_assign rfl) ?_
                  refine WL_nil (thenN (WC_region ?_))
                  refine Lq (q_move rfl) ?_
                  refine Lq (q_field (o' := 0) Tryd.underlying37 rfl ti3 rfl rfl) ?_
                  refine Lq (q_load1 Tryd.underlying3 rfl rfl (ownS (own0)) rfl) ?_
                  refine Lq (q_move rfl) ?_
                  refine Lq (q_max rfl rfl) ?_
                  refine Lq (q_move rfl) ?_
                  refine Lq (q_add rfl rfl (wr64 (by omega))) ?_
                  refine Lq (q_field (o' := 1) Tryd.underlying37 rfl ti3 rfl rfl) ?_
                  refine Lq (q_load1 Tryd.underlying3 rfl rfl (ownS (own0)) rfl) ?_
                  refine Lq (q_move rfl) ?_
                  refine Lq (q_add rfl rfl (wr64 (by omega))) ?_
                  refine WL_main rfl (OW_call1 (add_s va (addF acc xs[k].lo (min xs[k].hi at_)) pa (max xs[k].lo at_ + n) (xs[k].hi + n) hra (by have := hI.len; have := hI.le; have := addF_len acc xs[k].lo (min xs[k].hi at_); omega)) (.cons rfl (.cons rfl (.cons rfl (.nil)))) (by decide) (.z) mem0 fun vb Lo fs hres => ?_)
                  obtain ⟨pb, hrb, rfl, rfl⟩ := hres
                  refine Lq (q_assign rfl) ?_
                  refine WL_nil (blockN (thenN (WC_region ?_)))
                  refine Lq (q_add rfl rfl (wr64 (by omega))) ?_
                  refine Lq (q_move rfl) ?_
                  refine WL_nil (thenK ?_)
                  refine ⟨(k + 1, addF (addF acc xs[k].lo (min xs[k].hi at_)) (max xs[k].lo at_ + n) (xs[k].hi + n), vb, pb), ?_, (.cons rfl (.cons rfl (.cons rfl (.cons rfl (.cons rfl (.cons rfl (.nil _))))))), (List.Sublist.cons_cons _ (List.Sublist.cons _ (List.Sublist.refl _))), (fun _ h => .tail _ h)⟩
                  exact ⟨by show xs.length - (k + 1) < xs.length - k; omega, hI.next hk hrb⟩
                · refine WC_exit (thenExit (thenExit (blockHit (thenN (WC_seq ?_)))))
                  have hD := hI.done (by simpa using h50)
                  refine WC_fact (A := RepsF rgD acc (acc.map rgC)) (fun Z w _ => rgs_reps acc Z w) ?_
                  refine WC_freeze (e := rgD) (css := acc.map rgC) hI.row .z rfl (.head _) fun Af cf ef => ?_
                  subst ef
                  by_cases hb : acc.length > 32768
                  · refine WC_region ?_
                    refine Lq (q_move rfl) ?_
                    refine WL_main rfl (OW_call0 (bounded_1 Af cf acc hb) (.cons rfl (.nil)) (by decide) mem0 fun u17_1 Lo fs hres => ?_)
                    obtain ⟨rfl, rfl, rfl⟩ := hres
                    refine Lq (q_extract (vs := [_, _]) rfl rfl) ?_
                    refine Lq (q_extract (vs := [_, _]) rfl rfl) ?_
                    refine Lq (q_assign rfl) ?_
                    refine Lq (q_assign rfl) ?_
                    refine WL_nil (thenN (WC_ret ?_))
                    refine ⟨_, [], [RdF rgD none 0 []], fun Z w hs => .tmp rfl (.tmp rfl (.nil)), ?_, fun Z w hs => ⟨Z, ((hs.subParts (List.Sublist.refl _)).subFacts (fun _ h => .tail _ (.tail _ h))).addFact (A := RdF rgD none 0 []) (RdS.nil _ _ _)⟩⟩
                    have hF : thrF xs at_ n = ([], 21) := by rw [hOK, hD]; unfold boundF; rw [if_pos hb]
                    exact ⟨none, 0, by rw [hF]; rfl, rfl, by rw [hF]⟩
                  · refine WC_region ?_
                    refine Lq (q_move rfl) ?_
                    refine WL_main rfl (OW_call0 (bounded_2 Af cf acc hb) (.cons rfl (.nil)) (by decide) mem0 fun u17_1 Lo fs hres => ?_)
                    obtain ⟨rfl, rfl, rfl⟩ := hres
                    refine Lq (q_extract (vs := [_, _]) rfl rfl) ?_
                    refine Lq (q_extract (vs := [_, _]) rfl rfl) ?_
                    refine Lq (q_assign rfl) ?_
                    refine Lq (q_assign rfl) ?_
                    refine WL_nil (thenN (WC_ret ?_))
                    refine ⟨_, [], [RdF rgD Af cf acc], fun Z w hs => .tmp rfl (.tmp rfl (.nil)), ?_, fun Z w hs => hs.out (List.Sublist.refl _) (memc (.head _) (fun _ h => .tail _ (.tail _ h)))⟩
                    have hF : thrF xs at_ n = (acc, 0) := by rw [hOK, hD]; unfold boundF; rw [if_neg hb]
                    exact ⟨Af, cf, by rw [hF]; rfl, rfl, by rw [hF]⟩
          · refine Ln rfl rfl rfl g41 ?_
            refine Ln rfl rfl rfl g41 ?_
            refine Ln rfl rfl rfl g41 ?_
            refine Ln rfl rfl rfl g41 ?_
            refine Lq (q_pickF rfl g41 rfl) ?_
            refine WL_nil (thenN ?_)
            refine WC_fr [(46, _), (7, _), (6, _), (0, _), (1, _), (2, _)] (.cons rfl (.cons rfl (.cons rfl (.cons rfl (.cons rfl (.cons rfl (.nil _))))))) ?_
            refine WC_false rfl rfl (WC_skip (thenN (WC_seq (WC_region ?_))))
            refine Lq (q_assign rfl) ?_
            refine WL_nil (thenN (WC_seq (WC_seq (WC_region ?_))))
            refine Lq (q_move rfl) ?_
            refine Lq (q_len Tryd.underlying29 rfl) ?_
            refine Lq (q_move rfl) ?_
            refine WL_nil (thenN (WC_block ?_))
            try simp only [Bq0, Bq1, Bq2, Bq3, Bq4, Bq5, Bq6, Bq7, Bq8, Bq9, Bq10, Bq11, Bq12] at *
            have hC : (ckF xs).2 = 0 := by omega
            have hl2 := (ckF_good hC).1
            have hOK : thrF xs at_ n = boundF (thrL at_ n [] xs) := by
              first
              | exact thrF_ok (by omega) (by omega) hk0 (by omega)
              | (obtain rfl : xs = [] := List.length_eq_zero_iff.1 (by omega); exact thrF_nil (by omega))
            refine WC_nilPart ?_
            refine WC_loopE (α := Nat × List Rg × Value × Part) (fun (k, acc, v, p) => xs.length - k)
              (fun (k, acc, v, p) => [(1, .int .i64 at_), (2, .int .i64 n), (11, v), (47, .slice (some ⟨b7, q7, none⟩) xs.length c), (48, .int .i64 xs.length), (49, .int .i64 k)])
              (fun (k, acc, v, p) => p :: Ps)
              (fun (k, acc, v, p) => (RdF rgD (some ⟨b7, q7, none⟩) c xs :: As))
              (fun (k, acc, v, p) => ThI xs at_ n k acc v p)
              (0, [], .slice none 0 0, []) ?_ (.cons rfl (.cons rfl (.cons rfl (.cons rfl (.cons rfl (.cons rfl (.nil _))))))) (List.Sublist.cons_cons _ (List.Sublist.refl _)) (fun _ h => .tail _ h) ?_
            · exact ⟨Nat.zero_le _, Row.nil _ _, by simp, rfl⟩
            · rintro ⟨k, acc, v, p⟩ hI
              refine WC_seq (WC_region ?_)
              refine Lq (q_lss rfl rfl) ?_
              refine WL_nil (thenN (WC_seq ?_))
              refine WC_cond rfl (fun h50 => ?_) (fun h50 => ?_)
              · refine WC_skip (thenN (WC_seq (WC_block (WC_seq ?_))))
                have hk : k < xs.length := by simpa using h50
                have hg2 := ckF_at hC hk
                refine WC_elem (k := k) (.head _) (List.getElem?_eq_getElem hk) (rg_open _) fun b13 q13 y13 e13 => ?_
                cases e13
                refine WC_region ?_
                refine Lq (q_idxRd Tryd.underlying29 ti37 rfl rfl (by omega) (by omega)) ?_
                refine Lq (q_loadFN (k := 0) (vs := [_, _]) Tryd.underlying37 rfl ti37 rfl (.head _) rfl rfl rfl) ?_
                refine WL_main rfl (OW_alloc (cs := [_, _]) ti37 rfl (by decide) fun b13 => ?_)
                refine WL_main rfl (OW_storeN (cs' := [_, _]) (vs := [_, _]) ti37 rfl rfl rfl rfl rfl (Nat.le_of_ble_eq_true rfl) (.z) ?_)
                refine WL_nil (thenN (WC_seq (WC_region ?_)))
                refine Lq (q_move rfl) ?_
                refine Lq (q_field (o' := 0) Tryd.underlying37 rfl ti3 rfl rfl) ?_
                refine Lq (q_load1 Tryd.underlying3 rfl rfl own0 rfl) ?_
                refine Lq (q_field (o' := 1) Tryd.underlying37 rfl ti3 rfl rfl) ?_
                refine Lq (q_load1 Tryd.underlying3 rfl rfl own0 rfl) ?_
                refine Lq (q_move rfl) ?_
                refine Lq (q_min rfl rfl) ?_
                refine WL_main rfl (OW_call1 (add_s v acc p xs[k].lo (min xs[k].hi at_) hI.row (by have := hI.len; have := hI.le; omega)) (.cons rfl (.cons rfl (.cons rfl (.nil)))) (by decide) (.s (.z)) mem0 fun va Lo fs hres => ?_)
                obtain ⟨pa, hra, rfl, rfl⟩ := hres
                refine Lq (q_assign rfl) ?_
                refine WL_nil (thenN (WC_region ?_))
                refine Lq (q_move rfl) ?_
                refine Lq (q_field (o' := 0) Tryd.underlying37 rfl ti3 rfl rfl) ?_
                refine Lq (q_load1 Tryd.underlying3 rfl rfl (ownS (own0)) rfl) ?_
                refine Lq (q_move rfl) ?_
                refine Lq (q_max rfl rfl) ?_
                refine Lq (q_move rfl) ?_
                refine Lq (q_add rfl rfl (wr64 (by omega))) ?_
                refine Lq (q_field (o' := 1) Tryd.underlying37 rfl ti3 rfl rfl) ?_
                refine Lq (q_load1 Tryd.underlying3 rfl rfl (ownS (own0)) rfl) ?_
                refine Lq (q_move rfl) ?_
                refine Lq (q_add rfl rfl (wr64 (by omega))) ?_
                refine WL_main rfl (OW_call1 (add_s va (addF acc xs[k].lo (min xs[k].hi at_)) pa (max xs[k].lo at_ + n) (xs[k].hi + n) hra (by have := hI.len; have := hI.le; have := addF_len acc xs[k].lo (min xs[k].hi at_); omega)) (.cons rfl (.cons rfl (.cons rfl (.nil)))) (by decide) (.z) mem0 fun vb Lo fs hres => ?_)
                obtain ⟨pb, hrb, rfl, rfl⟩ := hres
                refine Lq (q_assign rfl) ?_
                refine WL_nil (blockN (thenN (WC_region ?_)))
                refine Lq (q_add rfl rfl (wr64 (by omega))) ?_
                refine Lq (q_move rfl) ?_
                refine WL_nil (thenK ?_)
                refine ⟨(k + 1, addF (addF acc xs[k].lo (min xs[k].hi at_)) (max xs[k].lo at_ + n) (xs[k].hi + n), vb, pb), ?_, (.cons rfl (.cons rfl (.cons rfl (.cons rfl (.cons rfl (.cons rfl (.nil _))))))), (List.Sublist.cons_cons _ (List.Sublist.cons _ (List.Sublist.refl _))), (fun _ h => .tail _ h)⟩
                exact ⟨by show xs.length - (k + 1) < xs.length - k; omega, hI.next hk hrb⟩
              · refine WC_exit (thenExit (thenExit (blockHit (thenN (WC_seq ?_)))))
                have hD := hI.done (by simpa using h50)
                refine WC_fact (A := RepsF rgD acc (acc.map rgC)) (fun Z w _ => rgs_reps acc Z w) ?_
                refine WC_freeze (e := rgD) (css := acc.map rgC) hI.row .z rfl (.head _) fun Af cf ef => ?_
                subst ef
                by_cases hb : acc.length > 32768
                · refine WC_region ?_
                  refine Lq (q_move rfl) ?_
                  refine WL_main rfl (OW_call0 (bounded_1 Af cf acc hb) (.cons rfl (.nil)) (by decide) mem0 fun u17_1 Lo fs hres => ?_)
                  obtain ⟨rfl, rfl, rfl⟩ := hres
                  refine Lq (q_extract (vs := [_, _]) rfl rfl) ?_
                  refine Lq (q_extract (vs := [_, _]) rfl rfl) ?_
                  refine Lq (q_assign rfl) ?_
                  refine Lq (q_assign rfl) ?_
                  refine WL_nil (thenN (WC_ret ?_))
                  refine ⟨_, [], [RdF rgD none 0 []], fun Z w hs => .tmp rfl (.tmp rfl (.nil)), ?_, fun Z w hs => ⟨Z, ((hs.subParts (List.Sublist.refl _)).subFacts (fun _ h => .tail _ (.tail _ h))).addFact (A := RdF rgD none 0 []) (RdS.nil _ _ _)⟩⟩
                  have hF : thrF xs at_ n = ([], 21) := by rw [hOK, hD]; unfold boundF; rw [if_pos hb]
                  exact ⟨none, 0, by rw [hF]; rfl, rfl, by rw [hF]⟩
                · refine WC_region ?_
                  refine Lq (q_move rfl) ?_
                  refine WL_main rfl (OW_call0 (bounded_2 Af cf acc hb) (.cons rfl (.nil)) (by decide) mem0 fun u17_1 Lo fs hres => ?_)
                  obtain ⟨rfl, rfl, rfl⟩ := hres
                  refine Lq (q_extract (vs := [_, _]) rfl rfl) ?_
                  refine Lq (q_extract (vs := [_, _]) rfl rfl) ?_
                  refine Lq (q_assign rfl) ?_
                  refine Lq (q_assign rfl) ?_
                  refine WL_nil (thenN (WC_ret ?_))
                  refine ⟨_, [], [RdF rgD Af cf acc], fun Z w hs => .tmp rfl (.tmp rfl (.nil)), ?_, fun Z w hs => hs.out (List.Sublist.refl _) (memc (.head _) (fun _ h => .tail _ (.tail _ h)))⟩
                  have hF : thrF xs at_ n = (acc, 0) := by rw [hOK, hD]; unfold boundF; rw [if_neg hb]
                  exact ⟨Af, cf, by rw [hF]; rfl, rfl, by rw [hF]⟩
        · refine WC_skip (thenN (WC_seq (WC_region ?_)))
          refine Lq (q_assign rfl) ?_
          refine WL_nil (thenN (WC_seq (WC_seq (WC_region ?_))))
          refine Lq (q_move rfl) ?_
          refine Lq (q_len Tryd.underlying29 rfl) ?_
          refine Lq (q_move rfl) ?_
          refine WL_nil (thenN (WC_block ?_))
          try simp only [Bq0, Bq1, Bq2, Bq3, Bq4, Bq5, Bq6, Bq7, Bq8, Bq9, Bq10, Bq11, Bq12] at *
          have hC : (ckF xs).2 = 0 := by omega
          have hl2 := (ckF_good hC).1
          have hOK : thrF xs at_ n = boundF (thrL at_ n [] xs) := by
            first
            | exact thrF_ok (by omega) (by omega) hk0 (by omega)
            | (obtain rfl : xs = [] := List.length_eq_zero_iff.1 (by omega); exact thrF_nil (by omega))
          refine WC_nilPart ?_
          refine WC_loopE (α := Nat × List Rg × Value × Part) (fun (k, acc, v, p) => xs.length - k)
            (fun (k, acc, v, p) => [(1, .int .i64 at_), (2, .int .i64 n), (11, v), (47, .slice A xs.length c), (48, .int .i64 xs.length), (49, .int .i64 k)])
            (fun (k, acc, v, p) => p :: Ps)
            (fun (k, acc, v, p) => (RdF rgD A c xs :: As))
            (fun (k, acc, v, p) => ThI xs at_ n k acc v p)
            (0, [], .slice none 0 0, []) ?_ (.cons rfl (.cons rfl (.cons rfl (.cons rfl (.cons rfl (.cons rfl (.nil _))))))) (List.Sublist.cons_cons _ (List.Sublist.refl _)) (fun _ h => h) ?_
          · exact ⟨Nat.zero_le _, Row.nil _ _, by simp, rfl⟩
          · rintro ⟨k, acc, v, p⟩ hI
            refine WC_seq (WC_region ?_)
            refine Lq (q_lss rfl rfl) ?_
            refine WL_nil (thenN (WC_seq ?_))
            refine WC_cond rfl (fun h50 => ?_) (fun h50 => ?_)
            · refine WC_skip (thenN (WC_seq (WC_block (WC_seq ?_))))
              have hk : k < xs.length := by simpa using h50
              have hg2 := ckF_at hC hk
              refine WC_elem (k := k) (.head _) (List.getElem?_eq_getElem hk) (rg_open _) fun b13 q13 y13 e13 => ?_
              cases e13
              refine WC_region ?_
              refine Lq (q_idxRd Tryd.underlying29 ti37 rfl rfl (by omega) (by omega)) ?_
              refine Lq (q_loadFN (k := 0) (vs := [_, _]) Tryd.underlying37 rfl ti37 rfl (.head _) rfl rfl rfl) ?_
              refine WL_main rfl (OW_alloc (cs := [_, _]) ti37 rfl (by decide) fun b13 => ?_)
              refine WL_main rfl (OW_storeN (cs' := [_, _]) (vs := [_, _]) ti37 rfl rfl rfl rfl rfl (Nat.le_of_ble_eq_true rfl) (.z) ?_)
              refine WL_nil (thenN (WC_seq (WC_region ?_)))
              refine Lq (q_move rfl) ?_
              refine Lq (q_field (o' := 0) Tryd.underlying37 rfl ti3 rfl rfl) ?_
              refine Lq (q_load1 Tryd.underlying3 rfl rfl own0 rfl) ?_
              refine Lq (q_field (o' := 1) Tryd.underlying37 rfl ti3 rfl rfl) ?_
              refine Lq (q_load1 Tryd.underlying3 rfl rfl own0 rfl) ?_
              refine Lq (q_move rfl) ?_
              refine Lq (q_min rfl rfl) ?_
              refine WL_main rfl (OW_call1 (add_s v acc p xs[k].lo (min xs[k].hi at_) hI.row (by have := hI.len; have := hI.le; omega)) (.cons rfl (.cons rfl (.cons rfl (.nil)))) (by decide) (.s (.z)) mem0 fun va Lo fs hres => ?_)
              obtain ⟨pa, hra, rfl, rfl⟩ := hres
              refine Lq (q_assign rfl) ?_
              refine WL_nil (thenN (WC_region ?_))
              refine Lq (q_move rfl) ?_
              refine Lq (q_field (o' := 0) Tryd.underlying37 rfl ti3 rfl rfl) ?_
              refine Lq (q_load1 Tryd.underlying3 rfl rfl (ownS (own0)) rfl) ?_
              refine Lq (q_move rfl) ?_
              refine Lq (q_max rfl rfl) ?_
              refine Lq (q_move rfl) ?_
              refine Lq (q_add rfl rfl (wr64 (by omega))) ?_
              refine Lq (q_field (o' := 1) Tryd.underlying37 rfl ti3 rfl rfl) ?_
              refine Lq (q_load1 Tryd.underlying3 rfl rfl (ownS (own0)) rfl) ?_
              refine Lq (q_move rfl) ?_
              refine Lq (q_add rfl rfl (wr64 (by omega))) ?_
              refine WL_main rfl (OW_call1 (add_s va (addF acc xs[k].lo (min xs[k].hi at_)) pa (max xs[k].lo at_ + n) (xs[k].hi + n) hra (by have := hI.len; have := hI.le; have := addF_len acc xs[k].lo (min xs[k].hi at_); omega)) (.cons rfl (.cons rfl (.cons rfl (.nil)))) (by decide) (.z) mem0 fun vb Lo fs hres => ?_)
              obtain ⟨pb, hrb, rfl, rfl⟩ := hres
              refine Lq (q_assign rfl) ?_
              refine WL_nil (blockN (thenN (WC_region ?_)))
              refine Lq (q_add rfl rfl (wr64 (by omega))) ?_
              refine Lq (q_move rfl) ?_
              refine WL_nil (thenK ?_)
              refine ⟨(k + 1, addF (addF acc xs[k].lo (min xs[k].hi at_)) (max xs[k].lo at_ + n) (xs[k].hi + n), vb, pb), ?_, (.cons rfl (.cons rfl (.cons rfl (.cons rfl (.cons rfl (.cons rfl (.nil _))))))), (List.Sublist.cons_cons _ (List.Sublist.cons _ (List.Sublist.refl _))), (fun _ h => .tail _ h)⟩
              exact ⟨by show xs.length - (k + 1) < xs.length - k; omega, hI.next hk hrb⟩
            · refine WC_exit (thenExit (thenExit (blockHit (thenN (WC_seq ?_)))))
              have hD := hI.done (by simpa using h50)
              refine WC_fact (A := RepsF rgD acc (acc.map rgC)) (fun Z w _ => rgs_reps acc Z w) ?_
              refine WC_freeze (e := rgD) (css := acc.map rgC) hI.row .z rfl (.head _) fun Af cf ef => ?_
              subst ef
              by_cases hb : acc.length > 32768
              · refine WC_region ?_
                refine Lq (q_move rfl) ?_
                refine WL_main rfl (OW_call0 (bounded_1 Af cf acc hb) (.cons rfl (.nil)) (by decide) mem0 fun u17_1 Lo fs hres => ?_)
                obtain ⟨rfl, rfl, rfl⟩ := hres
                refine Lq (q_extract (vs := [_, _]) rfl rfl) ?_
                refine Lq (q_extract (vs := [_, _]) rfl rfl) ?_
                refine Lq (q_assign rfl) ?_
                refine Lq (q_assign rfl) ?_
                refine WL_nil (thenN (WC_ret ?_))
                refine ⟨_, [], [RdF rgD none 0 []], fun Z w hs => .tmp rfl (.tmp rfl (.nil)), ?_, fun Z w hs => ⟨Z, ((hs.subParts (List.Sublist.refl _)).subFacts (fun _ h => .tail _ (.tail _ h))).addFact (A := RdF rgD none 0 []) (RdS.nil _ _ _)⟩⟩
                have hF : thrF xs at_ n = ([], 21) := by rw [hOK, hD]; unfold boundF; rw [if_pos hb]
                exact ⟨none, 0, by rw [hF]; rfl, rfl, by rw [hF]⟩
              · refine WC_region ?_
                refine Lq (q_move rfl) ?_
                refine WL_main rfl (OW_call0 (bounded_2 Af cf acc hb) (.cons rfl (.nil)) (by decide) mem0 fun u17_1 Lo fs hres => ?_)
                obtain ⟨rfl, rfl, rfl⟩ := hres
                refine Lq (q_extract (vs := [_, _]) rfl rfl) ?_
                refine Lq (q_extract (vs := [_, _]) rfl rfl) ?_
                refine Lq (q_assign rfl) ?_
                refine Lq (q_assign rfl) ?_
                refine WL_nil (thenN (WC_ret ?_))
                refine ⟨_, [], [RdF rgD Af cf acc], fun Z w hs => .tmp rfl (.tmp rfl (.nil)), ?_, fun Z w hs => hs.out (List.Sublist.refl _) (memc (.head _) (fun _ h => .tail _ (.tail _ h)))⟩
                have hF : thrF xs at_ n = (acc, 0) := by rw [hOK, hD]; unfold boundF; rw [if_neg hb]
                exact ⟨Af, cf, by rw [hF]; rfl, rfl, by rw [hF]⟩

end Go.Proofs.YtggdddkbhigjoaaDoor
/- Walks: begins. -/
namespace Go.Proofs.YtggdddkbhigjoaaDoor
open Go Go.GW
set_option maxRecDepth 10000 in
theorem prefix_s (s t : ByteArray) : Sp Tryd.prog 110 [.string s, .string t] [] [] (Is (.bool (prefF s t))) := by
  refine Sp.of (n := 18) ⟨_, Tryd.func110, rfl, rfl, rfl, rfl⟩ (Nat.le_of_ble_eq_true rfl) fun Ps As => ?_
  refine WC_seq (WC_region ?_)
  refine Lq (q_assign rfl) ?_
  refine WL_nil (thenN (WC_seq (WC_region ?_)))
  refine Lq (q_move rfl) ?_
  refine Lq (q_lenS Tryd.underlying9 rfl) ?_
  refine Lq (q_move rfl) ?_
  refine Lq (q_lenS Tryd.underlying9 rfl) ?_
  refine Lq (q_geq rfl rfl) ?_
  refine Lq (q_move rfl) ?_
  refine WL_guard (t := 10) rfl (fun g10 => ?_) (fun g10 => ?_)
  · refine Lg rfl rfl rfl g10 (q_move rfl) ?_
    refine Lg rfl rfl rfl g10 (q_move rfl) ?_
    refine Lg rfl rfl rfl g10 (q_lenS Tryd.underlying9 rfl) ?_
    refine Lg rfl rfl rfl g10 (q_sliceShi Tryd.underlying9 rfl rfl (by omega) (by simpa using g10)) ?_
    refine Lg rfl rfl rfl g10 (q_move rfl) ?_
    refine Lg rfl rfl rfl g10 (q_seql rfl rfl) ?_
    refine Lq (q_pickT rfl g10 rfl) ?_
    refine Lq (q_assign rfl) ?_
    refine WL_nil (thenN ?_)
    refine WC_fr [(4, _)] (.cons rfl (.nil _)) ?_
    refine WC_ret ?_
    refine ⟨_, [], [], fun Z w hs => .tmp rfl (.nil), ?_, fun Z w hs => hs.out (List.Sublist.refl _) (fun _ h => h)⟩
    exact ⟨by unfold prefF; simp at g10; simp [tup, g10] <;> omega, rfl, rfl⟩
  · refine Ln rfl rfl rfl g10 ?_
    refine Ln rfl rfl rfl g10 ?_
    refine Ln rfl rfl rfl g10 ?_
    refine Ln rfl rfl rfl g10 ?_
    refine Ln rfl rfl rfl g10 ?_
    refine Ln rfl rfl rfl g10 ?_
    refine Lq (q_pickF rfl g10 rfl) ?_
    refine Lq (q_assign rfl) ?_
    refine WL_nil (thenN ?_)
    refine WC_fr [(4, _)] (.cons rfl (.nil _)) ?_
    refine WC_ret ?_
    refine ⟨_, [], [], fun Z w hs => .tmp rfl (.nil), ?_, fun Z w hs => hs.out (List.Sublist.refl _) (fun _ h => h)⟩
    exact ⟨by unfold prefF; simp at g10; simp [tup, g10] <;> omega, rfl, rfl⟩


set_option maxRecDepth 10000 in
theorem sprefix_s (s t : ByteArray) : Sp Tryd.prog 105 [.string s, .string t] [] [] (Is (.bool (prefF s t))) := by
  refine Sp.of (n := 8) ⟨_, Tryd.func105, rfl, rfl, rfl, rfl⟩ (Nat.le_of_ble_eq_true rfl) fun Ps As => ?_
  refine WC_seq (WC_region ?_)
  refine Lq (q_assign rfl) ?_
  refine WL_nil (thenN (WC_seq (WC_region ?_)))
  refine Lq (q_move rfl) ?_
  refine Lq (q_move rfl) ?_
  refine WL_main rfl (OW_call0 (prefix_s s t) (.cons rfl (.cons rfl (.nil))) (by decide) mem0 fun u1_2 Lo fs hres => ?_)
  obtain ⟨rfl, rfl, rfl⟩ := hres
  refine Lq (q_assign rfl) ?_
  refine WL_nil (thenN (WC_ret ?_))
  refine ⟨_, [], [], fun Z w hs => .tmp rfl (.nil), ?_, fun Z w hs => hs.out (List.Sublist.refl _) (fun _ h => h)⟩
  exact ⟨rfl, rfl, rfl⟩


set_option maxRecDepth 10000 in
theorem begins_s (s : ByteArray) (p : Nat) (c : Int) (hp : p ≤ s.size) : Sp Tryd.prog 92 [.string s, .int .i64 p, .int .i32 c] [] [] (Is (.bool (begF s p c))) := by
  refine Sp.of (n := 15) ⟨_, Tryd.func92, rfl, rfl, rfl, rfl⟩ (Nat.le_of_ble_eq_true rfl) fun Ps As => ?_
  refine WC_seq (WC_region ?_)
  refine Lq (q_assign rfl) ?_
  refine WL_nil (thenN (WC_seq (WC_region ?_)))
  refine Lq (q_move rfl) ?_
  refine Lq (q_neq rfl rfl) ?_
  refine Lq (q_move rfl) ?_
  refine WL_guard (t := 9) rfl (fun g9 => ?_) (fun g9 => ?_)
  · refine Ln rfl rfl rfl g9 ?_
    refine Ln rfl rfl rfl g9 ?_
    refine Ln rfl rfl rfl g9 ?_
    refine Ln rfl rfl rfl g9 ?_
    refine Lq (q_pickT rfl g9 rfl) ?_
    refine Lq (q_assign rfl) ?_
    refine WL_nil (thenN (WC_ret ?_))
    refine ⟨_, [], [], fun Z w hs => .tmp rfl (.nil), ?_, fun Z w hs => hs.out (List.Sublist.refl _) (fun _ h => h)⟩
    exact ⟨by unfold begF; simp at g9; simp [tup, g9], rfl, rfl⟩
  · refine Lg rfl rfl rfl g9 (q_move rfl) ?_
    refine Lg rfl rfl rfl g9 (q_move rfl) ?_
    refine Lg rfl rfl rfl g9 (q_sliceSlo Tryd.underlying9 rfl rfl (by omega) (by omega)) ?_
    refine WL_gmain rfl rfl rfl g9 (OW_call0 (sprefix_s (s.extract p s.size) fffd) (.cons rfl (.cons rfl (.nil))) (by decide) mem0 fun u1_6 Lo fs hres => ?_)
    obtain ⟨rfl, rfl, rfl⟩ := hres
    refine Lq (q_pickF rfl g9 rfl) ?_
    refine Lq (q_assign rfl) ?_
    refine WL_nil (thenN (WC_ret ?_))
    refine ⟨_, [], [], fun Z w hs => .tmp rfl (.nil), ?_, fun Z w hs => hs.out (List.Sublist.refl _) (fun _ h => h)⟩
    exact ⟨by unfold begF; simp at g9; simp [tup, g9], rfl, rfl⟩

def LetI (c : Int) (k : Nat) : Prop := k ≤ 5 ∧ ∀ (j : Nat) (h : j < barL.length), j < k → ¬ (barL[j].1 ≤ c ∧ c ≤ barL[j].2)
theorem LetI.hit {c : Int} {k : Nat} (hk : k < barL.length) (h : barL[k].1 ≤ c ∧ c ≤ barL[k].2) : letF c = false := by
  unfold letF
  have : (barL.all fun b => !(decide (b.1 ≤ c) && decide (c ≤ b.2))) = false := by
    rw [List.all_eq_false]
    exact ⟨_, List.getElem_mem hk, by simp [h]⟩
  rw [this]; rfl
theorem LetI.next {c : Int} {k : Nat} (h : LetI c k) (hk : k < barL.length) (hn : ¬ (barL[k].1 ≤ c ∧ c ≤ barL[k].2)) : LetI c (k + 1) := by
  refine ⟨hk, fun j hj hjk => ?_⟩
  by_cases e : j = k
  · subst e; exact hn
  · exact h.2 j hj (by omega)
theorem LetI.done {c : Int} {k : Nat} (h : LetI c k) (hk : ¬ (k : Int) < 5) : letF c = decide (c % 65536 < 65534) := by
  unfold letF
  have : (barL.all fun b => !(decide (b.1 ≤ c) && decide (c ≤ b.2))) = true := by
    rw [List.all_eq_true]
    intro b hb
    obtain ⟨j, hj, rfl⟩ := List.mem_iff_getElem.1 hb
    have hj5 : j < 5 := hj
    have := h.2 j hj (by omega)
    simpa [-not_and, Decidable.not_and_iff_not_or_not] using this
  rw [this]; rfl

set_option maxRecDepth 10000 in
theorem letIn_s (c : Int) : Sp Tryd.prog 93 [.int .i32 c] [] [barF] (Is (.bool (letF c))) := by
  refine Sp.of (n := 23) ⟨_, Tryd.func93, rfl, rfl, rfl, rfl⟩ (Nat.le_of_ble_eq_true rfl) fun Ps As => ?_
  refine WC_seq (WC_region ?_)
  refine Lq (q_assign rfl) ?_
  refine WL_nil (thenN (WC_seq (WC_seq (WC_region ?_))))
  refine Lq (q_loadFN (k := 0) (vs := barC) Tryd.underlying187 rfl ti187 rfl (.head _) rfl rfl rfl) ?_
  refine Lq (q_move rfl) ?_
  refine WL_nil (thenN (WC_block ?_))
  refine WC_loopE (α := Nat) (fun k => 5 - k)
    (fun k => [(0, .int .i32 c), (5, .agg barC.toArray), (6, .int .i64 k)])
    (fun k => Ps)
    (fun k => (barF :: As))
    (fun k => LetI c k)
    0 ?_ (.cons rfl (.cons rfl (.cons rfl (.nil _)))) (List.Sublist.refl _) (fun _ h => h) ?_
  · exact ⟨Nat.zero_le _, fun j hj hjk => absurd hjk (by omega)⟩
  · rintro k hI
    refine WC_seq (WC_region ?_)
    refine Lq (q_lss rfl rfl) ?_
    refine WL_nil (thenN (WC_seq ?_))
    refine WC_cond rfl (fun h7 => ?_) (fun h7 => ?_)
    · refine WC_skip (thenN (WC_seq (WC_block (WC_seq ?_))))
      try simp only [Bq0, Bq1, Bq2, Bq3, Bq4, Bq5, Bq6, Bq7, Bq8, Bq9, Bq10, Bq11, Bq12] at *
      have hk : k < barL.length := by show k < 5; omega
      refine WC_region ?_
      refine Lq (q_index2 Tryd.underlying187 Tryd.underlying186 rfl ti186 rfl rfl (by omega) (by omega) (bar_at k hk)) ?_
      refine WL_main rfl (OW_alloc (cs := [_, _]) ti186 rfl (by decide) fun b4 => ?_)
      refine WL_main rfl (OW_storeN (cs' := [_, _]) (vs := [_, _]) ti186 rfl rfl rfl rfl rfl (Nat.le_of_ble_eq_true rfl) (.z) ?_)
      refine WL_nil (thenN (WC_seq (WC_region ?_)))
      refine Lq (q_field (o' := 0) Tryd.underlying186 rfl ti21 rfl rfl) ?_
      refine Lq (q_load1 Tryd.underlying21 rfl rfl own0 rfl) ?_
      refine Lq (q_move rfl) ?_
      refine Lq (q_leq rfl rfl) ?_
      refine Lq (q_move rfl) ?_
      refine WL_guard (t := 13) rfl (fun g13 => ?_) (fun g13 => ?_)
      · refine Lg rfl rfl rfl g13 (q_move rfl) ?_
        refine Lg rfl rfl rfl g13 (q_field (o' := 1) Tryd.underlying186 rfl ti21 rfl rfl) ?_
        refine Lg rfl rfl rfl g13 (q_load1 Tryd.underlying21 rfl rfl own0 rfl) ?_
        refine Lg rfl rfl rfl g13 (q_leq rfl rfl) ?_
        refine Lq (q_pickT rfl g13 rfl) ?_
        refine WL_nil (thenN ?_)
        refine WC_cond rfl (fun h18 => ?_) (fun h18 => ?_)
        · refine WC_seq (WC_region ?_)
          refine Lq (q_assign rfl) ?_
          refine WL_nil (thenN (WC_ret (blockRet (thenRet (thenRet (blockRet (thenRet ?_)))))))
          refine ⟨_, [], [], fun Z w hs => .tmp rfl (.nil), ?_, fun Z w hs => hs.out (List.Sublist.cons _ (List.Sublist.refl _)) (fun _ h => h)⟩
          try simp only [Bq0, Bq1, Bq2, Bq3, Bq4, Bq5, Bq6, Bq7, Bq8, Bq9, Bq10, Bq11, Bq12] at *
          first
            | exact ⟨by rw [hI.done (by omega)]; rfl, rfl, rfl⟩
            | exact ⟨by rw [LetI.hit hk (by omega)]; rfl, rfl, rfl⟩
        · refine WC_skip (blockN (thenN (WC_region ?_)))
          refine Lq (q_add rfl rfl (wr64 (by omega))) ?_
          refine Lq (q_move rfl) ?_
          refine WL_nil (thenK ?_)
          refine ⟨k + 1, ?_, (.cons rfl (.cons rfl (.cons rfl (.nil _)))), (List.Sublist.cons _ (List.Sublist.refl _)), (fun _ h => h)⟩
          try simp only [Bq0, Bq1, Bq2, Bq3, Bq4, Bq5, Bq6, Bq7, Bq8, Bq9, Bq10, Bq11, Bq12] at *
          exact ⟨by omega, hI.next hk (by omega)⟩
      · refine Ln rfl rfl rfl g13 ?_
        refine Ln rfl rfl rfl g13 ?_
        refine Ln rfl rfl rfl g13 ?_
        refine Ln rfl rfl rfl g13 ?_
        refine Lq (q_pickF rfl g13 rfl) ?_
        refine WL_nil (thenN (WC_false rfl rfl (WC_skip (blockN (thenN (WC_region ?_))))))
        refine Lq (q_add rfl rfl (wr64 (by omega))) ?_
        refine Lq (q_move rfl) ?_
        refine WL_nil (thenK ?_)
        refine ⟨k + 1, ?_, (.cons rfl (.cons rfl (.cons rfl (.nil _)))), (List.Sublist.cons _ (List.Sublist.refl _)), (fun _ h => h)⟩
        try simp only [Bq0, Bq1, Bq2, Bq3, Bq4, Bq5, Bq6, Bq7, Bq8, Bq9, Bq10, Bq11, Bq12] at *
        exact ⟨by omega, hI.next hk (by omega)⟩
    · refine WC_exit (thenExit (thenExit (blockHit (thenN (WC_seq (WC_region ?_))))))
      refine Lq (q_move rfl) ?_
      refine Lq (q_and rfl rfl (i32_and65535 _)) ?_
      refine Lq (q_lss rfl rfl) ?_
      refine Lq (q_assign rfl) ?_
      refine WL_nil (thenN (WC_ret ?_))
      refine ⟨_, [], [], fun Z w hs => .tmp rfl (.nil), ?_, fun Z w hs => hs.out (List.Sublist.refl _) (fun _ h => h)⟩
      try simp only [Bq0, Bq1, Bq2, Bq3, Bq4, Bq5, Bq6, Bq7, Bq8, Bq9, Bq10, Bq11, Bq12] at *
      first
        | exact ⟨by rw [hI.done (by omega)]; rfl, rfl, rfl⟩
        | exact ⟨by rw [LetI.hit hk (by omega)]; rfl, rfl, rfl⟩

end Go.Proofs.YtggdddkbhigjoaaDoor
/- Walks: utext.Check. -/
namespace Go.Proofs.YtggdddkbhigjoaaDoor
open Go Go.GW
structure UtI (s : ByteArray) (p k : Nat) : Prop where
  le : p ≤ s.size
  kp : k ≤ p
  eq : utF s = utAt s p k

set_option maxRecDepth 10000 in
theorem utCheck_s (s : ByteArray) (hs : s.size ≤ 4611686018427387904) : Sp Tryd.prog 68 [.string s] [] [barF] (Is (.tuple #[.int .i64 (utF s).1, .int .i64 (utF s).2.1, .int .i64 (utF s).2.2])) := by
  refine Sp.of (n := 27) ⟨_, Tryd.func68, rfl, rfl, rfl, rfl⟩ (Nat.le_of_ble_eq_true rfl) fun Ps As => ?_
  refine WC_seq (WC_region ?_)
  refine Lq (q_assign rfl) ?_
  refine Lq (q_assign rfl) ?_
  refine Lq (q_assign rfl) ?_
  refine WL_nil (thenN (WC_seq (WC_region ?_)))
  refine Lq (q_assign rfl) ?_
  refine WL_nil (thenN (WC_seq (WC_seq (WC_region ?_))))
  refine Lq (q_move rfl) ?_
  refine WL_main rfl (OW_rangeS Tryd.underlying9 rfl (by decide) fun b9 => ?_)
  refine WL_nil (thenN (WC_block ?_))
  refine WC_loopE (α := Nat × Nat) (fun (p, k) => s.size - p)
    (fun (p, k) => [(0, .string s), (9, .pointer (some ⟨b9, 0, none⟩)), (5, .int .i64 k)])
    (fun (p, k) => ([(b9, .stringIter s p)] :: Ps))
    (fun (p, k) => (barF :: As))
    (fun (p, k) => UtI s p k)
    (0, 0) ?_ (.cons rfl (.cons rfl (.cons rfl (.nil _)))) (List.Sublist.cons_cons _ (List.Sublist.refl _)) (fun _ h => h) ?_
  · exact ⟨Nat.zero_le _, Nat.le_refl _, rfl⟩
  · rintro ⟨p, k⟩ hI
    have hle := hI.le
    have hkp := hI.kp
    refine WC_seq ?_
    by_cases hp : p < s.size
    · refine WC_region ?_
      refine WL_main rfl (OW_nextS1 rfl hp (.z) (by decide) ?_)
      refine Lq (q_extract (vs := [_, _, _]) rfl rfl) ?_
      refine WL_nil (thenN (WC_seq (WC_true rfl rfl (WC_skip (thenN (WC_block (WC_seq ?_)))))))
      refine WC_region ?_
      refine Lq (q_extract (vs := [_, _, _]) rfl rfl) ?_
      refine Lq (q_extract (vs := [_, _, _]) rfl rfl) ?_
      refine Lq (q_assign rfl) ?_
      refine Lq (q_assign rfl) ?_
      refine WL_nil (thenN (WC_seq (WC_seq (WC_region ?_))))
      refine Lq (q_move rfl) ?_
      refine Lq (q_move rfl) ?_
      refine Lq (q_move rfl) ?_
      refine WL_main rfl (OW_call0 (begins_s s p (Utf8.decode s p).1 (by omega)) (.cons rfl (.cons rfl (.cons rfl (.nil)))) (by decide) mem0 fun u5_3 Lo fs hres => ?_)
      obtain ⟨rfl, rfl, rfl⟩ := hres
      refine Lq (q_not rfl) ?_
      refine WL_nil (thenN ?_)
      refine WC_cond rfl (fun h18 => ?_) (fun h18 => ?_)
      · refine WC_seq (WC_region ?_)
        refine Lq (q_move rfl) ?_
        refine Lq (q_assign rfl) ?_
        refine Lq (q_assign rfl) ?_
        refine Lq (q_assign rfl) ?_
        refine WL_nil (thenN (WC_ret (thenRet (blockRet (thenRet (blockRet (thenRet ?_)))))))
        refine ⟨_, [], [], fun Z w hs => .tmp rfl (.tmp rfl (.tmp rfl (.nil))), ?_, fun Z w hs => hs.out (List.Sublist.cons _ (List.Sublist.refl _)) (fun _ h => h)⟩
        first
          | (have hF := hI.eq.trans (utAt_end hp); exact ⟨by rw [hF]; rfl, rfl, rfl⟩)
          | (have hF := hI.eq.trans (utAt_utf8 hp (by simp_all)); exact ⟨by rw [hF]; rfl, rfl, rfl⟩)
          | (have hF := hI.eq.trans (utAt_rune hp (by simp_all) (by simp_all)); exact ⟨by rw [hF]; rfl, rfl, rfl⟩)
      · refine WC_skip (thenN (WC_seq (WC_seq (WC_region ?_))))
        refine Lq (q_move rfl) ?_
        refine WL_main rfl (OW_call0 (letIn_s (Utf8.decode s p).1) (.cons rfl (.nil)) (by decide) (memc (.head _) mem0) fun u7_1 Lo fs hres => ?_)
        obtain ⟨rfl, rfl, rfl⟩ := hres
        refine Lq (q_not rfl) ?_
        refine WL_nil (thenN ?_)
        refine WC_cond rfl (fun h22 => ?_) (fun h22 => ?_)
        · refine WC_seq (WC_region ?_)
          refine Lq (q_move rfl) ?_
          refine Lq (q_assign rfl) ?_
          refine Lq (q_assign rfl) ?_
          refine Lq (q_assign rfl) ?_
          refine WL_nil (thenN (WC_ret (thenRet (blockRet (thenRet (blockRet (thenRet ?_)))))))
          refine ⟨_, [], [], fun Z w hs => .tmp rfl (.tmp rfl (.tmp rfl (.nil))), ?_, fun Z w hs => hs.out (List.Sublist.cons _ (List.Sublist.refl _)) (fun _ h => h)⟩
          first
            | (have hF := hI.eq.trans (utAt_end hp); exact ⟨by rw [hF]; rfl, rfl, rfl⟩)
            | (have hF := hI.eq.trans (utAt_utf8 hp (by simp_all)); exact ⟨by rw [hF]; rfl, rfl, rfl⟩)
            | (have hF := hI.eq.trans (utAt_rune hp (by simp_all) (by simp_all)); exact ⟨by rw [hF]; rfl, rfl, rfl⟩)
        · refine WC_skip (thenN (WC_region ?_))
          refine Lq (q_move rfl) ?_
          refine Lq (q_add rfl rfl (wr64 (by omega)) (c := ((k + 1 : Nat) : Int))) ?_
          refine Lq (q_assign rfl) ?_
          refine WL_nil (blockN (thenK ?_))
          have hd := decode_pos s p
          have hd2 := decode_leP hp
          refine ⟨(p + (Utf8.decode s p).2, k + 1), ?_, (.cons rfl (.cons rfl (.cons rfl (.nil _)))), (List.Sublist.cons_cons _ (List.Sublist.refl _)), (fun _ h => h)⟩
          try simp only [Bq0, Bq1, Bq2, Bq3, Bq4, Bq5, Bq6, Bq7, Bq8, Bq9, Bq10, Bq11, Bq12] at *
          exact ⟨by show s.size - (p + (Utf8.decode s p).2) < s.size - p; omega, by show p + (Utf8.decode s p).2 ≤ s.size; exact hd2, by show k + 1 ≤ p + (Utf8.decode s p).2; omega, by rw [hI.eq, utAt_next hp (by simp_all) (by simp_all)]⟩
    · refine WC_region ?_
      refine WL_main rfl (OW_nextS0 rfl own0 hp (by decide) ?_)
      refine Lq (q_extract (vs := [_]) rfl rfl) ?_
      refine WL_nil (thenN (WC_seq (WC_false rfl rfl (WC_exit (thenExit (thenExit (blockHit ?_)))))))
      refine thenN (WC_seq (WC_region ?_))
      refine Lq (q_move rfl) ?_
      refine Lq (q_assign rfl) ?_
      refine Lq (q_assign rfl) ?_
      refine Lq (q_assign rfl) ?_
      refine WL_nil (thenN (WC_ret ?_))
      refine ⟨_, [], [], fun Z w hs => .tmp rfl (.tmp rfl (.tmp rfl (.nil))), ?_, fun Z w hs => hs.out (List.Sublist.cons _ (List.Sublist.refl _)) (fun _ h => h)⟩
      first
        | (have hF := hI.eq.trans (utAt_end hp); exact ⟨by rw [hF]; rfl, rfl, rfl⟩)
        | (have hF := hI.eq.trans (utAt_utf8 hp (by simp_all)); exact ⟨by rw [hF]; rfl, rfl, rfl⟩)
        | (have hF := hI.eq.trans (utAt_rune hp (by simp_all) (by simp_all)); exact ⟨by rw [hF]; rfl, rfl, rfl⟩)

end Go.Proofs.YtggdddkbhigjoaaDoor
/- Walks: rope.New, Total, Insert, Bump. -/
namespace Go.Proofs.YtggdddkbhigjoaaDoor
open Go Go.GW
theorem bd115Xw32  (w : World) : (Instr.build 115 #[]).run Tryd.prog w = .ok (.agg #[.pointer none]) w := by kernel_rfl

set_option maxRecDepth 10000 in
theorem rnew_s : Sp Tryd.prog 63 [] [] [] (fun v Lo fs => ∃ b : Nat, v = .pointer (some ⟨b, 0, none⟩) ∧ Lo = [rpP b none] ∧ fs = []) := by
  refine Sp.of (n := 3) ⟨_, Tryd.func63, rfl, rfl, rfl, rfl⟩ (Nat.le_of_ble_eq_true rfl) fun Ps As => ?_
  refine WC_seq (WC_region ?_)
  refine Lq (q_assign rfl) ?_
  refine WL_nil (thenN (WC_seq (WC_region ?_)))
  refine Lq (q_build (.nil) (bd115Xw32)) ?_
  refine WL_main rfl (OW_box (cs := [_]) rfl rfl (by decide) fun b2 => ?_)
  refine Lq (q_assign rfl) ?_
  refine WL_nil (thenN (WC_ret ?_))
  refine ⟨_, [_], [], fun Z w hs => .tmp rfl (.nil), ?_, fun Z w hs => hs.out (List.Sublist.cons_cons _ (List.Sublist.refl _)) (fun _ h => h)⟩
  exact ⟨_, rfl, rfl, rfl⟩

theorem fd112_0Xw32 (x0 : Int) (x1 : Int) (x2 : Int) (x3 : Int) (x4 : Int) (x5 : Int) (w : World) : (Instr.field 112 (.agg #[.int .i64 x0, .int .i64 x1, .int .i64 x2, .int .i64 x3, .int .i64 x4, .int .i64 x5]) 0).run Tryd.prog w = .ok (.int .i64 x0) w := by kernel_rfl

set_option maxRecDepth 10000 in
theorem rtotal_s (b : Nat) (A : Option Addr) (t : Tr) (wt : Wf t) : Sp Tryd.prog 27 [.pointer (some ⟨b, 0, none⟩)] [rpP b A] [TrF A t] (fun v Lo fs => v = .int .i64 t.row.length ∧ Lo = [rpP b A] ∧ fs = []) := by
  refine Sp.of (n := 9) ⟨_, Tryd.func27, rfl, rfl, rfl, rfl⟩ (Nat.le_of_ble_eq_true rfl) fun Ps As => ?_
  refine WC_seq (WC_region ?_)
  refine Lq (q_assign rfl) ?_
  refine WL_nil (thenN (WC_seq (WC_region ?_)))
  refine Lq (q_move rfl) ?_
  refine Lq (q_nil rfl) ?_
  refine Lq (q_field (o' := 0) Tryd.underlying115 rfl ti113 rfl rfl) ?_
  refine Lq (q_load1 Tryd.underlying113 rfl rfl own0 rfl) ?_
  refine WL_main rfl (OW_call0 (all_s A t) (.cons rfl (.nil)) (by decide) (memc (.head _) mem0) fun u1_4 Lo fs hres => ?_)
  obtain ⟨rfl, rfl, rfl⟩ := hres
  refine Lq (q_part rfl (fd112_0Xw32 _ _ _ _ _ _)) ?_
  refine Lq (q_assign rfl) ?_
  refine WL_nil (thenN (WC_ret ?_))
  refine ⟨_, [_], [], fun Z w hs => .tmp rfl (.nil), ?_, fun Z w hs => hs.out (List.Sublist.cons_cons _ (List.Sublist.refl _)) (fun _ h => h)⟩
  exact ⟨congrArg (Value.int .i64) wt.tot, rfl, rfl⟩

theorem counter_0 (x : Int) (h : 0 ≤ x ∧ x ≤ 1048576) : Sp Tryd.prog 80 [.int .i64 x] [] [] (Is (.int .i64 0)) := by
  have := counter_s x
  rwa [if_neg (by omega), if_neg (by omega)] at this

set_option maxRecDepth 10000 in
theorem rinsert_s (b : Nat) (A : Option Addr) (t : Tr) (x : Int) (s : ByteArray) (hid : Int) (wt : Wf t) (hx : 0 ≤ x ∧ x ≤ t.row.length) (hs : s.size ≤ 1073741824) (hu : (utF s).2.2 = 0) (hne : 0 < (runesF s).length) (hh : 0 ≤ hid ∧ hid ≤ 1048576) (hb : t.row.length + (runesF s).length ≤ 1048576) : Sp Tryd.prog 61 [.pointer (some ⟨b, 0, none⟩), .int .i64 x, .string s, .int .i64 hid] [rpP b A] [barF, TrF A t] (RpP b (t.row.take x.toNat ++ (cellsOf (runesF s) hid ++ t.row.drop x.toNat))) := by
  have hru := utF_runes hu
  refine Sp.of (n := 64) ⟨_, Tryd.func61, rfl, rfl, rfl, rfl⟩ (Nat.le_of_ble_eq_true rfl) fun Ps As => ?_
  refine WC_seq (WC_region ?_)
  refine Lq (q_assign rfl) ?_
  refine WL_nil (thenN (WC_seq (WC_seq (WC_region ?_))))
  refine Lq (q_move rfl) ?_
  refine Lq (q_lss rfl rfl) ?_
  refine Lq (q_move rfl) ?_
  refine Lg rfl rfl rfl (by simp; omega) (q_move rfl) ?_
  refine Lg rfl rfl rfl (by simp; omega) (q_move rfl) ?_
  refine WL_gmain rfl rfl rfl (by simp; omega) (OW_call1 (rtotal_s b A t wt) (.cons rfl (.nil)) (by decide) (.z) (memc (.tail _ (.head _)) mem0) fun u1_5 Lo fs hres => ?_)
  obtain ⟨rfl, rfl, rfl⟩ := hres
  refine Lg rfl rfl rfl (by simp; omega) (q_gtr rfl rfl) ?_
  refine Lq (q_pickF rfl (by simp; omega) rfl) ?_
  refine WL_nil (thenN ?_)
  refine WC_false rfl (by simp; omega) ?_
  refine WC_skip (thenN (WC_seq (WC_region ?_)))
  refine Lq (q_move rfl) ?_
  refine WL_main rfl (OW_call0 (utCheck_s s (by omega)) (.cons rfl (.nil)) (by decide) (memc (.head _) mem0) fun u3_1 Lo fs hres => ?_)
  obtain ⟨rfl, rfl, rfl⟩ := hres
  refine Lq (q_move rfl) ?_
  refine Lq (q_extract (vs := [_, _, _]) rfl rfl) ?_
  refine Lq (q_extract (vs := [_, _, _]) rfl rfl) ?_
  refine Lq (q_extract (vs := [_, _, _]) rfl rfl) ?_
  refine Lq (q_assign rfl) ?_
  refine Lq (q_assign rfl) ?_
  refine Lq (q_assign rfl) ?_
  refine WL_nil (thenN ?_)
  refine WC_fr [(11, _), (9, _), (8, _), (0, _), (1, _), (2, _), (3, _)] (.cons rfl (.cons rfl (.cons rfl (.cons rfl (.cons rfl (.cons rfl (.cons rfl (.nil _)))))))) ?_
  refine WC_seq (WC_seq (WC_region ?_))
  refine Lq (q_move rfl) ?_
  refine Lq (q_neq rfl rfl) ?_
  refine WL_nil (thenN ?_)
  refine WC_false rfl (by rw [hu]; rfl) ?_
  refine WC_skip (thenN (WC_seq (WC_seq (WC_region ?_))))
  refine Lq (q_move rfl) ?_
  refine WL_main rfl (OW_call0 (counter_0 hid hh) (.cons rfl (.nil)) (by decide) mem0 fun u6_1 Lo fs hres => ?_)
  obtain ⟨rfl, rfl, rfl⟩ := hres
  refine Lq (q_assign rfl) ?_
  refine WL_nil (thenN (WC_seq (WC_region ?_)))
  refine Lq (q_move rfl) ?_
  refine Lq (q_neq rfl rfl) ?_
  refine WL_nil (thenN (WC_false rfl rfl (WC_skip (thenN (WC_seq (WC_seq (WC_region ?_)))))))
  refine Lq (q_move rfl) ?_
  refine WL_main rfl (OW_call1 (rtotal_s b A t wt) (.cons rfl (.nil)) (by decide) (.z) (memc (.tail _ (.head _)) mem0) fun u9_1 Lo fs hres => ?_)
  obtain ⟨rfl, rfl, rfl⟩ := hres
  refine Lq (q_move rfl) ?_
  refine Lq (q_add rfl rfl (wr64 (by omega))) ?_
  refine Lq (q_gtr rfl rfl) ?_
  refine WL_nil (thenN ?_)
  refine WC_fr [(40, _), (9, _), (8, _), (0, _), (1, _), (2, _), (3, _)] (.cons rfl (.cons rfl (.cons rfl (.cons rfl (.cons rfl (.cons rfl (.cons rfl (.nil _)))))))) ?_
  refine WC_false rfl (by simp; omega) ?_
  refine WC_skip (thenN (WC_seq (WC_seq (WC_region ?_))))
  refine Lq (q_move rfl) ?_
  refine Lq (q_eql rfl rfl) ?_
  refine WL_nil (thenN ?_)
  refine WC_false rfl (beq_eq_false_iff_ne.2 (by omega)) ?_
  refine WC_skip (thenN (WC_seq (WC_region ?_)))
  refine Lq (q_move rfl) ?_
  refine Lq (q_nil rfl) ?_
  refine Lq (q_field (o' := 0) Tryd.underlying115 rfl ti113 rfl rfl) ?_
  refine Lq (q_load1 Tryd.underlying113 rfl rfl own0 rfl) ?_
  refine Lq (q_move rfl) ?_
  refine WL_main rfl (OW_call0 (split_r A t x wt (by omega) (by omega) (by omega)) (.cons rfl (.cons rfl (.nil))) (by decide) (memc (.tail _ (.head _)) mem0) fun u13_5 Lo fs hres => ?_)
  obtain ⟨A1, t1, E1, q1, rfl, rfl, rfl, wt1, wq1, r1, rq1⟩ := hres
  have e1 := congrArg List.length r1
  have eq1 := congrArg List.length rq1
  simp only [List.length_take, List.length_drop] at e1 eq1
  refine Lq (q_move rfl) ?_
  refine Lq (q_extract (vs := [_, _]) rfl rfl) ?_
  refine Lq (q_extract (vs := [_, _]) rfl rfl) ?_
  refine Lq (q_assign rfl) ?_
  refine Lq (q_assign rfl) ?_
  refine WL_nil (thenN ?_)
  refine WC_fr [(13, _), (12, _), (8, _), (0, _), (2, _), (3, _)] (.cons rfl (.cons rfl (.cons rfl (.cons rfl (.cons rfl (.cons rfl (.nil _))))))) ?_
  refine WC_seq (WC_region ?_)
  refine Lq (q_move rfl) ?_
  refine Lq (q_move rfl) ?_
  refine Lq (q_move rfl) ?_
  refine WL_main rfl (OW_call0 (runesOf_s s hs) (.cons rfl (.nil)) (by decide) mem0 fun u14_3 Lo fs hres => ?_)
  obtain ⟨Ar, cr, rfl, rfl, rfl⟩ := hres
  refine Lq (q_move rfl) ?_
  refine WL_main rfl (OW_call0 (cutUp_s Ar cr (runesF s) hid (by omega) hh) (.cons rfl (.cons rfl (.nil))) (by decide) (memc (.head _) mem0) fun u14_5 Lo fs hres => ?_)
  obtain ⟨Ap, cp, ps, rfl, rfl, rfl, hpk, hps⟩ := hres
  have eps := congrArg List.length hps
  rw [cellsOf_length] at eps
  refine WL_main rfl (OW_call0 (build_r Ap cp ps hpk (by omega)) (.cons rfl (.nil)) (by decide) (memc (.head _) mem0) fun u14_6 Lo fs hres => ?_)
  obtain ⟨T2, t2, rfl, rfl, rfl, wt2, r2⟩ := hres
  have e2 := congrArg List.length r2
  refine WL_main rfl (OW_call0 (mend_r A1 T2 t1 t2 wt1 wt2 (by omega)) (.cons rfl (.cons rfl (.nil))) (by decide) (memc (.tail _ (.tail _ (.tail _ (.head _)))) (memc (.head _) mem0)) fun u14_7 Lo fs hres => ?_)
  obtain ⟨T3, t3, rfl, rfl, rfl, wt3, r3⟩ := hres
  have e3 := congrArg List.length r3
  simp only [List.length_append] at e3
  refine Lq (q_move rfl) ?_
  refine WL_main rfl (OW_call0 (mend_r T3 E1 t3 q1 wt3 wq1 (by omega)) (.cons rfl (.cons rfl (.nil))) (by decide) (memc (.head _) (memc (.tail _ (.tail _ (.tail _ (.tail _ (.tail _ (.head _)))))) mem0)) fun u14_9 Lo fs hres => ?_)
  obtain ⟨T4, t4, rfl, rfl, rfl, wt4, r4⟩ := hres
  have e4 := congrArg List.length r4
  simp only [List.length_append] at e4
  refine Lq (q_nil rfl) ?_
  refine Lq (q_field (o' := 0) Tryd.underlying115 rfl ti113 rfl rfl) ?_
  refine WL_main rfl (OW_store1 ti113 rfl rfl rfl (.z) (.z) ?_)
  refine WL_nil (thenN ?_)
  refine WC_fr [(8, _)] (.cons rfl (.nil _)) ?_
  refine WC_seq (WC_region ?_)
  refine Lq (q_assign rfl) ?_
  refine WL_nil (thenN (WC_ret ?_))
  refine ⟨_, [_], [_], fun Z w hs => .tmp rfl (.nil), ?_, fun Z w hs => hs.out (List.Sublist.cons_cons _ (List.Sublist.refl _)) (memc (.head _) (fun _ h => .tail _ (.tail _ (.tail _ (.tail _ (.tail _ (.tail _ (.tail _ h))))))))⟩
  exact ⟨_, _, rfl, rfl, rfl, wt4, by simp only [r1, r2, r3, r4, rq1, hps, List.append_assoc]⟩

theorem fd112_5Xw32 (x0 : Int) (x1 : Int) (x2 : Int) (x3 : Int) (x4 : Int) (x5 : Int) (w : World) : (Instr.field 112 (.agg #[.int .i64 x0, .int .i64 x1, .int .i64 x2, .int .i64 x3, .int .i64 x4, .int .i64 x5]) 5).run Tryd.prog w = .ok (.int .i64 x5) w := by kernel_rfl

set_option maxRecDepth 10000 in
theorem bumpUp_s (b : Nat) (A Ar : Option Addr) (cr : Nat) (t : Tr) (rs : List Rg) (wt : Wf t) (hb : t.row.length ≤ 1048576) (ho : BuOk rs 1 t.row) (hne : rs ≠ []) : Sp Tryd.prog 62 [.pointer (some ⟨b, 0, none⟩), .slice Ar rs.length cr, .int .i64 1] [rpP b A] [TrF A t, RdF rgD Ar cr rs] (RpP b (bumpL rs 1 t.row)) := by
  have hrs := (ckF_good ho.ck).1
  refine Sp.of (n := 100) ⟨_, Tryd.func62, rfl, rfl, rfl, rfl⟩ (Nat.le_of_ble_eq_true rfl) fun Ps As => ?_
  refine WC_seq (WC_region ?_)
  refine Lq (q_assign rfl) ?_
  refine WL_nil (thenN (WC_seq (WC_seq ?_)))
  have hz1 : rs.length - 1 < rs.length := by have := List.length_pos_iff.2 hne; omega
  have hlast := ho.below _ (List.getElem_mem hz1)
  refine WC_elem (k := (rs.length - 1)) (.tail _ (.head _)) (List.getElem?_eq_getElem hz1) (rg_open _) fun b6 q6 y6 e6 => ?_
  cases e6
  refine WC_region ?_
  refine Lq (q_move rfl) ?_
  refine Lq (q_neq rfl rfl) ?_
  refine Lq (q_move rfl) ?_
  refine Ln rfl rfl rfl rfl ?_
  refine Ln rfl rfl rfl rfl ?_
  refine Lq (q_pickF rfl rfl rfl) ?_
  refine WL_nil (thenN (WC_false rfl rfl (WC_skip (thenN (WC_seq (WC_seq (WC_region ?_)))))))
  refine Lq (q_move rfl) ?_
  refine WL_main rfl (OW_call0 (check_s (some ⟨b6, q6, none⟩) cr rs (by omega)) (.cons rfl (.nil)) (by decide) (memc (.tail _ (.tail _ (.head _))) mem0) fun u3_1 Lo fs hres => ?_)
  obtain ⟨rfl, rfl, rfl⟩ := hres
  refine Lq (q_move rfl) ?_
  refine Lq (q_extract (vs := [_, _]) rfl rfl) ?_
  refine Lq (q_extract (vs := [_, _]) rfl rfl) ?_
  refine Lq (q_assign rfl) ?_
  refine Lq (q_assign rfl) ?_
  refine WL_nil (thenN ?_)
  refine WC_fr [(8, _), (6, _), (0, _), (1, _), (2, _)] (.cons rfl (.cons rfl (.cons rfl (.cons rfl (.cons rfl (.nil _)))))) ?_
  refine WC_seq (WC_region ?_)
  refine Lq (q_move rfl) ?_
  refine Lq (q_neq rfl rfl) ?_
  refine WL_nil (thenN ?_)
  refine WC_false rfl (by rw [ho.ck]; rfl) ?_
  refine WC_skip (thenN (WC_seq (WC_seq ?_)))
  refine WC_draw _ _ [] (.c 0 0 (.c 1 0 (.c 2 0 (.c 3 0 (.c 4 0 (.c 5 0 (.c 6 0 (.c 7 0 (.c 8 0 (.c 9 0 (.c 10 0 (.c 11 0 (.c 12 2 (.c 13 0 (.c 14 0 .nil))))))))))))))) mixed (fun _ _ _ _ h => h) (List.Sublist.cons_cons _ (List.Sublist.refl _)) (fun _ h => h) (by kernel_rfl) (by decide) fun ws Z0 => ?_
  refine Qe rfl (q_move rfl) ?_
  refine Qe rfl (q_len Tryd.underlying29 rfl) ?_
  refine Qe rfl (q_gtr rfl rfl) ?_
  refine Qe rfl (q_move rfl) ?_
  refine WE_gq rfl rfl rfl rfl (by simp; omega) (q_move rfl) (by decide) ?_
  refine WE_gq rfl rfl rfl rfl (by simp; omega) (q_move rfl) (by decide) ?_
  refine WE_gq rfl rfl rfl rfl (by simp; omega) (q_len Tryd.underlying29 rfl) (by decide) ?_
  refine WE_gq rfl rfl rfl rfl (by simp; omega) (q_sub rfl rfl (by rw [wr64 (by omega)]; omega) (c := ((rs.length - 1 : Nat) : Int))) (by decide) ?_
  refine WE_gq rfl rfl rfl rfl (by simp; omega) (q_idxRd Tryd.underlying29 ti37 rfl rfl (by omega) (by omega)) (by decide) ?_
  refine WE_gq rfl rfl rfl rfl (by simp; omega) (q_field (o' := _ + 1) Tryd.underlying37 rfl ti3 rfl rfl) (by decide) ?_
  refine WE_gq rfl rfl rfl rfl (by simp; omega) (q_loadF1 (j := 1) Tryd.underlying3 rfl rfl (.head _) rfl rfl) (by decide) ?_
  refine WE_gq rfl rfl rfl rfl (by simp; omega) (q_move rfl) (by decide) ?_
  refine WE_gmain rfl rfl rfl rfl rfl (by simp; omega) (OW_call1 (rtotal_s b A t wt) (.cons rfl (.nil)) (by decide) (.z) (memc (.tail _ (.tail _ (.head _))) mem0) fun u6_12 Lo fs hres => ?_)
  obtain ⟨rfl, rfl, rfl⟩ := hres
  refine ⟨⟨(List.Sublist.cons_cons _ (List.Sublist.refl _)), (.head _)⟩, ?_⟩
  refine WE_gq rfl rfl rfl rfl (by simp; omega) (q_gtr rfl rfl) (by decide) ?_
  refine Qe rfl (q_pickT rfl (by simp; omega) rfl) ?_
  refine WE_end (WF_nil ?_)
  refine thenN ?_
  refine WC_fr [(44, _), (6, _), (0, _), (1, _), (2, _)] (.cons rfl (.cons rfl (.cons rfl (.cons rfl (.cons rfl (.nil _)))))) ?_
  refine WC_false rfl (by simp; omega) ?_
  refine WC_skip (thenN (WC_seq (WC_region ?_)))
  refine Lq (q_move rfl) ?_
  refine Lq (q_nil rfl) ?_
  refine Lq (q_field (o' := 0) Tryd.underlying115 rfl ti113 rfl rfl) ?_
  refine Lq (q_load1 Tryd.underlying113 rfl rfl own0 rfl) ?_
  refine Lq (q_assign rfl) ?_
  refine WL_nil (thenN (WC_seq (WC_seq (WC_region ?_))))
  refine Lq (q_move rfl) ?_
  refine Lq (q_len Tryd.underlying29 rfl) ?_
  refine Lq (q_move rfl) ?_
  refine WL_nil (thenN (WC_block ?_))
  refine WC_loopE (α := Nat × Option Addr × Tr) (fun (i, B, u) => rs.length - i)
    (fun (i, B, u) => [(0, .pointer (some ⟨b, 0, none⟩)), (2, .int .i64 1), (9, .pointer B), (49, .slice (some ⟨b6, q6, none⟩) rs.length cr), (50, .int .i64 rs.length), (51, .int .i64 i)])
    (fun (i, B, u) => (rpP b A :: Ps))
    (fun (i, B, u) => (TrF B u :: TrF A t :: RdF rgD (some ⟨b6, q6, none⟩) cr rs :: As))
    (fun (i, B, u) => BuI rs 1 t.row i u)
    (0, A, t) ?_ (.cons rfl (.cons rfl (.cons rfl (.cons rfl (.cons rfl (.cons rfl (.nil _))))))) (List.Sublist.cons_cons _ (List.Sublist.refl _)) (memc (.tail _ (.tail _ (.head _))) (fun _ h => .tail _ (.tail _ h))) ?_
  · exact ⟨Nat.zero_le _, wt, rfl⟩
  · rintro ⟨i, AJ, tJ⟩ hI
    have wtJ := hI.wf
    refine WC_seq (WC_region ?_)
    refine Lq (q_lss rfl rfl) ?_
    refine WL_nil (thenN (WC_seq ?_))
    refine WC_cond rfl (fun h52 => ?_) (fun h52 => ?_)
    · refine WC_skip (thenN (WC_seq (WC_block (WC_seq ?_))))
      try simp only [Bq0, Bq1, Bq2, Bq3, Bq4, Bq5, Bq6, Bq7, Bq8, Bq9, Bq10, Bq11, Bq12] at *
      have hil : i < rs.length := by omega
      have hm := ho.norm.mem _ (List.getElem_mem hil)
      have hbl := ho.below _ (List.getElem_mem hil)
      have hrl := hI.len ho
      have hsl := hI.slice ho hil
      refine WC_elemK (k := i) (.tail _ (.tail _ (.head _))) (List.getElem?_eq_getElem hil) (rg_open _) fun yk => ?_
      refine WC_region ?_
      refine Lq (q_idxRd Tryd.underlying29 ti37 rfl rfl (by omega) (by omega)) ?_
      refine Lq (q_loadFN (k := 0) (vs := [_, _]) Tryd.underlying37 rfl ti37 rfl (.head _) rfl rfl rfl) ?_
      refine WL_main rfl (OW_alloc (cs := [_, _]) ti37 rfl (by decide) fun b11 => ?_)
      refine WL_main rfl (OW_storeN (cs' := [_, _]) (vs := [_, _]) ti37 rfl rfl rfl rfl rfl (Nat.le_of_ble_eq_true rfl) (.z) ?_)
      refine WL_nil (thenN (WC_seq (WC_region ?_)))
      refine Lq (q_move rfl) ?_
      refine Lq (q_field (o' := 0) Tryd.underlying37 rfl ti3 rfl rfl) ?_
      refine Lq (q_load1 Tryd.underlying3 rfl rfl own0 rfl) ?_
      refine WL_main rfl (OW_call0 (split_r AJ tJ rs[i].lo wtJ (by omega) (by omega) (by omega)) (.cons rfl (.cons rfl (.nil))) (by decide) (memc (.tail _ (.head _)) mem0) fun u12_3 Lo fs hres => ?_)
      obtain ⟨A1, t1, E1, q1, rfl, rfl, rfl, wt1, wq1, r1, rq1⟩ := hres
      have e1 := congrArg List.length r1
      have eq1 := congrArg List.length rq1
      simp only [List.length_take, List.length_drop] at e1 eq1
      refine Lq (q_move rfl) ?_
      refine Lq (q_extract (vs := [_, _]) rfl rfl) ?_
      refine Lq (q_extract (vs := [_, _]) rfl rfl) ?_
      refine Lq (q_assign rfl) ?_
      refine Lq (q_assign rfl) ?_
      refine WL_nil (thenN (WC_seq (WC_region ?_)))
      refine Lq (q_move rfl) ?_
      refine Lq (q_field (o' := 1) Tryd.underlying37 rfl ti3 rfl rfl) ?_
      refine Lq (q_load1 Tryd.underlying3 rfl rfl own0 rfl) ?_
      refine Lq (q_field (o' := 0) Tryd.underlying37 rfl ti3 rfl rfl) ?_
      refine Lq (q_load1 Tryd.underlying3 rfl rfl own0 rfl) ?_
      refine Lq (q_sub rfl rfl (wr64 (by omega))) ?_
      refine WL_main rfl (OW_call0 (split_r E1 q1 (rs[i].hi - rs[i].lo) wq1 (by omega) (by omega) (by omega)) (.cons rfl (.cons rfl (.nil))) (by decide) (memc (.tail _ (.head _)) mem0) fun u13_6 Lo fs hres => ?_)
      obtain ⟨A2, t2, E2, q2, rfl, rfl, rfl, wt2, wq2, r2, rq2⟩ := hres
      have e2 := congrArg List.length r2
      have eq2 := congrArg List.length rq2
      simp only [List.length_take, List.length_drop] at e2 eq2
      refine Lq (q_move rfl) ?_
      refine Lq (q_extract (vs := [_, _]) rfl rfl) ?_
      refine Lq (q_extract (vs := [_, _]) rfl rfl) ?_
      refine Lq (q_assign rfl) ?_
      refine Lq (q_assign rfl) ?_
      refine WL_nil (thenN (WC_seq (WC_seq ?_)))
      have hn2 : t2.row ≠ [] := fun e => by have h1 := congrArg List.length e; rw [List.length_nil] at h1; omega
      obtain ⟨⟨cm, hcm, em⟩, cx, hcx, ex⟩ := wf_mn wt2 hn2
      have hs1 : InR (up 1 t2.row) := by rw [r2, rq1]; exact hsl
      have hc1 := hs1 _ (mem_up.2 ⟨cm, hcm, rfl⟩)
      have hc2 := hs1 _ (mem_up.2 ⟨cx, hcx, rfl⟩)
      simp only at hc1 hc2
      have hwl := wf_lift wt2 hs1
      have hlr := row_lift t2 1
      have hll : (liftF t2 1).row.length = t2.row.length := by rw [hlr, up_length]
      refine WC_region ?_
      refine Lq (q_move rfl) ?_
      refine Lq (q_lss rfl rfl) ?_
      refine Lq (q_move rfl) ?_
      refine Ln rfl rfl rfl rfl ?_
      refine Ln rfl rfl rfl rfl ?_
      refine Ln rfl rfl rfl rfl ?_
      refine Ln rfl rfl rfl rfl ?_
      refine Lq (q_pickF rfl rfl rfl) ?_
      refine WL_nil (thenN (WC_false rfl rfl (WC_skip (thenN (WC_seq (WC_seq (WC_region ?_)))))))
      refine Lq (q_move rfl) ?_
      refine Lq (q_gtr rfl rfl) ?_
      refine Lq (q_move rfl) ?_
      refine Lg rfl rfl rfl rfl (q_move rfl) ?_
      refine WL_gmain rfl rfl rfl rfl (OW_call0 (all_s A2 t2) (.cons rfl (.nil)) (by decide) (memc (.head _) mem0) fun u16_4 Lo fs hres => ?_)
      obtain ⟨rfl, rfl, rfl⟩ := hres
      refine Lg rfl rfl rfl rfl (q_part rfl (fd112_5Xw32 _ _ _ _ _ _)) ?_
      refine Lg rfl rfl rfl rfl (q_eql rfl rfl) ?_
      refine Lq (q_pickT rfl rfl rfl) ?_
      refine WL_nil (thenN ?_)
      refine WC_false rfl (by simp; omega) ?_
      refine WC_skip (thenN (WC_region ?_))
      refine Lq (q_move rfl) ?_
      refine Lq (q_move rfl) ?_
      refine Lq (q_move rfl) ?_
      refine WL_main rfl (OW_call0 (lift_s A2 t2 1 wt2 (by omega)) (.cons rfl (.cons rfl (.nil))) (by decide) (memc (.head _) mem0) fun u18_3 Lo fs hres => ?_)
      obtain ⟨L9, rfl, rfl, rfl⟩ := hres
      obtain ⟨L9t, hL9⟩ : ∃ z, z = liftF t2 1 := ⟨_, rfl⟩
      rw [← hL9] at hwl hlr hll ⊢
      have wL9t := hwl
      refine WL_main rfl (OW_call0 (mend_r A1 L9 t1 L9t wt1 wL9t (by omega)) (.cons rfl (.cons rfl (.nil))) (by decide) (memc (.tail _ (.tail _ (.tail _ (.head _)))) (memc (.head _) mem0)) fun u18_4 Lo fs hres => ?_)
      obtain ⟨T3, t3, rfl, rfl, rfl, wt3, r3⟩ := hres
      have e3 := congrArg List.length r3
      simp only [List.length_append] at e3
      refine Lq (q_move rfl) ?_
      refine WL_main rfl (OW_call0 (mend_r T3 E2 t3 q2 wt3 wq2 (by omega)) (.cons rfl (.cons rfl (.nil))) (by decide) (memc (.head _) (memc (.tail _ (.tail _ (.tail _ (.head _)))) mem0)) fun u18_6 Lo fs hres => ?_)
      obtain ⟨T4, t4, rfl, rfl, rfl, wt4, r4⟩ := hres
      have e4 := congrArg List.length r4
      simp only [List.length_append] at e4
      refine Lq (q_assign rfl) ?_
      refine WL_nil (blockN (thenN (WC_region ?_)))
      refine Lq (q_add rfl rfl (wr64 (by omega)) (c := ((i + 1 : Nat) : Int))) ?_
      refine Lq (q_move rfl) ?_
      refine WL_nil (thenK ?_)
      refine ⟨(i + 1, T4, t4), ?_, (.cons rfl (.cons rfl (.cons rfl (.cons rfl (.cons rfl (.cons rfl (.nil _))))))), (List.Sublist.cons _ (List.Sublist.cons_cons _ (List.Sublist.refl _))), (memc (.head _) (fun _ h => .tail _ (.tail _ (.tail _ (.tail _ (.tail _ (.tail _ (.tail _ (.tail _ (.tail _ h))))))))))⟩
      refine ⟨by show rs.length - (i + 1) < rs.length - i; omega, hI.next hil wt4 ?_⟩
      have e8 : rs[i].lo.toNat + (rs[i].hi - rs[i].lo).toNat = rs[i].hi.toNat := by omega
      rw [r4, r3, hlr, r1, r2, rq2, rq1, List.drop_drop, e8, List.append_assoc]; rfl
    · refine WC_exit (thenExit (thenExit (blockHit (thenN (WC_seq (WC_region ?_))))))
      refine Lq (q_move rfl) ?_
      refine Lq (q_move rfl) ?_
      refine Lq (q_nil rfl) ?_
      refine Lq (q_field (o' := 0) Tryd.underlying115 rfl ti113 rfl rfl) ?_
      refine WL_main rfl (OW_store1 ti113 rfl rfl rfl (.z) (.z) ?_)
      refine WL_nil (thenN (WC_seq (WC_region ?_)))
      refine Lq (q_assign rfl) ?_
      refine WL_nil (thenN (WC_ret ?_))
      refine ⟨_, [_], [_], fun Z w hs => .tmp rfl (.nil), ?_, fun Z w hs => hs.out (List.Sublist.cons_cons _ (List.Sublist.refl _)) (fun _ h => h)⟩
      try simp only [Bq0, Bq1, Bq2, Bq3, Bq4, Bq5, Bq6, Bq7, Bq8, Bq9, Bq10, Bq11, Bq12] at *
      exact ⟨_, _, rfl, rfl, rfl, wtJ, hI.done (by omega)⟩

theorem fd112_3Xw32 (x0 : Int) (x1 : Int) (x2 : Int) (x3 : Int) (x4 : Int) (x5 : Int) (w : World) : (Instr.field 112 (.agg #[.int .i64 x0, .int .i64 x1, .int .i64 x2, .int .i64 x3, .int .i64 x4, .int .i64 x5]) 3).run Tryd.prog w = .ok (.int .i64 x3) w := by kernel_rfl

set_option maxRecDepth 10000 in
theorem bumpDn_s (b : Nat) (A Ar : Option Addr) (cr : Nat) (t : Tr) (rs : List Rg) (wt : Wf t) (hb : t.row.length ≤ 1048576) (ho : BuOk rs (-1) t.row) (hne : rs ≠ []) : Sp Tryd.prog 62 [.pointer (some ⟨b, 0, none⟩), .slice Ar rs.length cr, .int .i64 (-1)] [rpP b A] [TrF A t, RdF rgD Ar cr rs] (RpP b (bumpL rs (-1) t.row)) := by
  have hrs := (ckF_good ho.ck).1
  refine Sp.of (n := 100) ⟨_, Tryd.func62, rfl, rfl, rfl, rfl⟩ (Nat.le_of_ble_eq_true rfl) fun Ps As => ?_
  refine WC_seq (WC_region ?_)
  refine Lq (q_assign rfl) ?_
  refine WL_nil (thenN (WC_seq (WC_seq ?_)))
  have hz1 : rs.length - 1 < rs.length := by have := List.length_pos_iff.2 hne; omega
  have hlast := ho.below _ (List.getElem_mem hz1)
  refine WC_elem (k := (rs.length - 1)) (.tail _ (.head _)) (List.getElem?_eq_getElem hz1) (rg_open _) fun b6 q6 y6 e6 => ?_
  cases e6
  refine WC_region ?_
  refine Lq (q_move rfl) ?_
  refine Lq (q_neq rfl rfl) ?_
  refine Lq (q_move rfl) ?_
  refine Lg rfl rfl rfl rfl (q_move rfl) ?_
  refine Lg rfl rfl rfl rfl (q_neq rfl rfl) ?_
  refine Lq (q_pickT rfl rfl rfl) ?_
  refine WL_nil (thenN (WC_false rfl rfl (WC_skip (thenN (WC_seq (WC_seq (WC_region ?_)))))))
  refine Lq (q_move rfl) ?_
  refine WL_main rfl (OW_call0 (check_s (some ⟨b6, q6, none⟩) cr rs (by omega)) (.cons rfl (.nil)) (by decide) (memc (.tail _ (.tail _ (.head _))) mem0) fun u3_1 Lo fs hres => ?_)
  obtain ⟨rfl, rfl, rfl⟩ := hres
  refine Lq (q_move rfl) ?_
  refine Lq (q_extract (vs := [_, _]) rfl rfl) ?_
  refine Lq (q_extract (vs := [_, _]) rfl rfl) ?_
  refine Lq (q_assign rfl) ?_
  refine Lq (q_assign rfl) ?_
  refine WL_nil (thenN ?_)
  refine WC_fr [(8, _), (6, _), (0, _), (1, _), (2, _)] (.cons rfl (.cons rfl (.cons rfl (.cons rfl (.cons rfl (.nil _)))))) ?_
  refine WC_seq (WC_region ?_)
  refine Lq (q_move rfl) ?_
  refine Lq (q_neq rfl rfl) ?_
  refine WL_nil (thenN ?_)
  refine WC_false rfl (by rw [ho.ck]; rfl) ?_
  refine WC_skip (thenN (WC_seq (WC_seq ?_)))
  refine WC_draw _ _ [] (.c 0 0 (.c 1 0 (.c 2 0 (.c 3 0 (.c 4 0 (.c 5 0 (.c 6 0 (.c 7 0 (.c 8 0 (.c 9 0 (.c 10 0 (.c 11 0 (.c 12 2 (.c 13 0 (.c 14 0 .nil))))))))))))))) mixed (fun _ _ _ _ h => h) (List.Sublist.cons_cons _ (List.Sublist.refl _)) (fun _ h => h) (by kernel_rfl) (by decide) fun ws Z0 => ?_
  refine Qe rfl (q_move rfl) ?_
  refine Qe rfl (q_len Tryd.underlying29 rfl) ?_
  refine Qe rfl (q_gtr rfl rfl) ?_
  refine Qe rfl (q_move rfl) ?_
  refine WE_gq rfl rfl rfl rfl (by simp; omega) (q_move rfl) (by decide) ?_
  refine WE_gq rfl rfl rfl rfl (by simp; omega) (q_move rfl) (by decide) ?_
  refine WE_gq rfl rfl rfl rfl (by simp; omega) (q_len Tryd.underlying29 rfl) (by decide) ?_
  refine WE_gq rfl rfl rfl rfl (by simp; omega) (q_sub rfl rfl (by rw [wr64 (by omega)]; omega) (c := ((rs.length - 1 : Nat) : Int))) (by decide) ?_
  refine WE_gq rfl rfl rfl rfl (by simp; omega) (q_idxRd Tryd.underlying29 ti37 rfl rfl (by omega) (by omega)) (by decide) ?_
  refine WE_gq rfl rfl rfl rfl (by simp; omega) (q_field (o' := _ + 1) Tryd.underlying37 rfl ti3 rfl rfl) (by decide) ?_
  refine WE_gq rfl rfl rfl rfl (by simp; omega) (q_loadF1 (j := 1) Tryd.underlying3 rfl rfl (.head _) rfl rfl) (by decide) ?_
  refine WE_gq rfl rfl rfl rfl (by simp; omega) (q_move rfl) (by decide) ?_
  refine WE_gmain rfl rfl rfl rfl rfl (by simp; omega) (OW_call1 (rtotal_s b A t wt) (.cons rfl (.nil)) (by decide) (.z) (memc (.tail _ (.tail _ (.head _))) mem0) fun u6_12 Lo fs hres => ?_)
  obtain ⟨rfl, rfl, rfl⟩ := hres
  refine ⟨⟨(List.Sublist.cons_cons _ (List.Sublist.refl _)), (.head _)⟩, ?_⟩
  refine WE_gq rfl rfl rfl rfl (by simp; omega) (q_gtr rfl rfl) (by decide) ?_
  refine Qe rfl (q_pickT rfl (by simp; omega) rfl) ?_
  refine WE_end (WF_nil ?_)
  refine thenN ?_
  refine WC_fr [(44, _), (6, _), (0, _), (1, _), (2, _)] (.cons rfl (.cons rfl (.cons rfl (.cons rfl (.cons rfl (.nil _)))))) ?_
  refine WC_false rfl (by simp; omega) ?_
  refine WC_skip (thenN (WC_seq (WC_region ?_)))
  refine Lq (q_move rfl) ?_
  refine Lq (q_nil rfl) ?_
  refine Lq (q_field (o' := 0) Tryd.underlying115 rfl ti113 rfl rfl) ?_
  refine Lq (q_load1 Tryd.underlying113 rfl rfl own0 rfl) ?_
  refine Lq (q_assign rfl) ?_
  refine WL_nil (thenN (WC_seq (WC_seq (WC_region ?_))))
  refine Lq (q_move rfl) ?_
  refine Lq (q_len Tryd.underlying29 rfl) ?_
  refine Lq (q_move rfl) ?_
  refine WL_nil (thenN (WC_block ?_))
  refine WC_loopE (α := Nat × Option Addr × Tr) (fun (i, B, u) => rs.length - i)
    (fun (i, B, u) => [(0, .pointer (some ⟨b, 0, none⟩)), (2, .int .i64 (-1)), (9, .pointer B), (49, .slice (some ⟨b6, q6, none⟩) rs.length cr), (50, .int .i64 rs.length), (51, .int .i64 i)])
    (fun (i, B, u) => (rpP b A :: Ps))
    (fun (i, B, u) => (TrF B u :: TrF A t :: RdF rgD (some ⟨b6, q6, none⟩) cr rs :: As))
    (fun (i, B, u) => BuI rs (-1) t.row i u)
    (0, A, t) ?_ (.cons rfl (.cons rfl (.cons rfl (.cons rfl (.cons rfl (.cons rfl (.nil _))))))) (List.Sublist.cons_cons _ (List.Sublist.refl _)) (memc (.tail _ (.tail _ (.head _))) (fun _ h => .tail _ (.tail _ h))) ?_
  · exact ⟨Nat.zero_le _, wt, rfl⟩
  · rintro ⟨i, AJ, tJ⟩ hI
    have wtJ := hI.wf
    refine WC_seq (WC_region ?_)
    refine Lq (q_lss rfl rfl) ?_
    refine WL_nil (thenN (WC_seq ?_))
    refine WC_cond rfl (fun h52 => ?_) (fun h52 => ?_)
    · refine WC_skip (thenN (WC_seq (WC_block (WC_seq ?_))))
      try simp only [Bq0, Bq1, Bq2, Bq3, Bq4, Bq5, Bq6, Bq7, Bq8, Bq9, Bq10, Bq11, Bq12] at *
      have hil : i < rs.length := by omega
      have hm := ho.norm.mem _ (List.getElem_mem hil)
      have hbl := ho.below _ (List.getElem_mem hil)
      have hrl := hI.len ho
      have hsl := hI.slice ho hil
      refine WC_elemK (k := i) (.tail _ (.tail _ (.head _))) (List.getElem?_eq_getElem hil) (rg_open _) fun yk => ?_
      refine WC_region ?_
      refine Lq (q_idxRd Tryd.underlying29 ti37 rfl rfl (by omega) (by omega)) ?_
      refine Lq (q_loadFN (k := 0) (vs := [_, _]) Tryd.underlying37 rfl ti37 rfl (.head _) rfl rfl rfl) ?_
      refine WL_main rfl (OW_alloc (cs := [_, _]) ti37 rfl (by decide) fun b11 => ?_)
      refine WL_main rfl (OW_storeN (cs' := [_, _]) (vs := [_, _]) ti37 rfl rfl rfl rfl rfl (Nat.le_of_ble_eq_true rfl) (.z) ?_)
      refine WL_nil (thenN (WC_seq (WC_region ?_)))
      refine Lq (q_move rfl) ?_
      refine Lq (q_field (o' := 0) Tryd.underlying37 rfl ti3 rfl rfl) ?_
      refine Lq (q_load1 Tryd.underlying3 rfl rfl own0 rfl) ?_
      refine WL_main rfl (OW_call0 (split_r AJ tJ rs[i].lo wtJ (by omega) (by omega) (by omega)) (.cons rfl (.cons rfl (.nil))) (by decide) (memc (.tail _ (.head _)) mem0) fun u12_3 Lo fs hres => ?_)
      obtain ⟨A1, t1, E1, q1, rfl, rfl, rfl, wt1, wq1, r1, rq1⟩ := hres
      have e1 := congrArg List.length r1
      have eq1 := congrArg List.length rq1
      simp only [List.length_take, List.length_drop] at e1 eq1
      refine Lq (q_move rfl) ?_
      refine Lq (q_extract (vs := [_, _]) rfl rfl) ?_
      refine Lq (q_extract (vs := [_, _]) rfl rfl) ?_
      refine Lq (q_assign rfl) ?_
      refine Lq (q_assign rfl) ?_
      refine WL_nil (thenN (WC_seq (WC_region ?_)))
      refine Lq (q_move rfl) ?_
      refine Lq (q_field (o' := 1) Tryd.underlying37 rfl ti3 rfl rfl) ?_
      refine Lq (q_load1 Tryd.underlying3 rfl rfl own0 rfl) ?_
      refine Lq (q_field (o' := 0) Tryd.underlying37 rfl ti3 rfl rfl) ?_
      refine Lq (q_load1 Tryd.underlying3 rfl rfl own0 rfl) ?_
      refine Lq (q_sub rfl rfl (wr64 (by omega))) ?_
      refine WL_main rfl (OW_call0 (split_r E1 q1 (rs[i].hi - rs[i].lo) wq1 (by omega) (by omega) (by omega)) (.cons rfl (.cons rfl (.nil))) (by decide) (memc (.tail _ (.head _)) mem0) fun u13_6 Lo fs hres => ?_)
      obtain ⟨A2, t2, E2, q2, rfl, rfl, rfl, wt2, wq2, r2, rq2⟩ := hres
      have e2 := congrArg List.length r2
      have eq2 := congrArg List.length rq2
      simp only [List.length_take, List.length_drop] at e2 eq2
      refine Lq (q_move rfl) ?_
      refine Lq (q_extract (vs := [_, _]) rfl rfl) ?_
      refine Lq (q_extract (vs := [_, _]) rfl rfl) ?_
      refine Lq (q_assign rfl) ?_
      refine Lq (q_assign rfl) ?_
      refine WL_nil (thenN (WC_seq (WC_seq ?_)))
      have hn2 : t2.row ≠ [] := fun e => by have h1 := congrArg List.length e; rw [List.length_nil] at h1; omega
      obtain ⟨⟨cm, hcm, em⟩, cx, hcx, ex⟩ := wf_mn wt2 hn2
      have hs1 : InR (up (-1) t2.row) := by rw [r2, rq1]; exact hsl
      have hc1 := hs1 _ (mem_up.2 ⟨cm, hcm, rfl⟩)
      have hc2 := hs1 _ (mem_up.2 ⟨cx, hcx, rfl⟩)
      simp only at hc1 hc2
      have hwl := wf_lift wt2 hs1
      have hlr := row_lift t2 (-1)
      have hll : (liftF t2 (-1)).row.length = t2.row.length := by rw [hlr, up_length]
      refine WC_region ?_
      refine Lq (q_move rfl) ?_
      refine Lq (q_lss rfl rfl) ?_
      refine Lq (q_move rfl) ?_
      refine Lg rfl rfl rfl rfl (q_move rfl) ?_
      refine WL_gmain rfl rfl rfl rfl (OW_call0 (all_s A2 t2) (.cons rfl (.nil)) (by decide) (memc (.head _) mem0) fun u14_4 Lo fs hres => ?_)
      obtain ⟨rfl, rfl, rfl⟩ := hres
      refine Lg rfl rfl rfl rfl (q_part rfl (fd112_3Xw32 _ _ _ _ _ _)) ?_
      refine Lg rfl rfl rfl rfl (q_eql rfl rfl) ?_
      refine Lq (q_pickT rfl rfl rfl) ?_
      refine WL_nil (thenN ?_)
      refine WC_false rfl (by simp; omega) ?_
      refine WC_skip (thenN (WC_seq (WC_seq (WC_region ?_))))
      refine Lq (q_move rfl) ?_
      refine Lq (q_gtr rfl rfl) ?_
      refine Lq (q_move rfl) ?_
      refine Ln rfl rfl rfl rfl ?_
      refine Ln rfl rfl rfl rfl ?_
      refine Ln rfl rfl rfl rfl ?_
      refine Ln rfl rfl rfl rfl ?_
      refine Lq (q_pickF rfl rfl rfl) ?_
      refine WL_nil (thenN (WC_false rfl rfl (WC_skip (thenN (WC_region ?_)))))
      refine Lq (q_move rfl) ?_
      refine Lq (q_move rfl) ?_
      refine Lq (q_move rfl) ?_
      refine WL_main rfl (OW_call0 (lift_s A2 t2 (-1) wt2 (by omega)) (.cons rfl (.cons rfl (.nil))) (by decide) (memc (.head _) mem0) fun u18_3 Lo fs hres => ?_)
      obtain ⟨L9, rfl, rfl, rfl⟩ := hres
      obtain ⟨L9t, hL9⟩ : ∃ z, z = liftF t2 (-1) := ⟨_, rfl⟩
      rw [← hL9] at hwl hlr hll ⊢
      have wL9t := hwl
      refine WL_main rfl (OW_call0 (mend_r A1 L9 t1 L9t wt1 wL9t (by omega)) (.cons rfl (.cons rfl (.nil))) (by decide) (memc (.tail _ (.tail _ (.tail _ (.head _)))) (memc (.head _) mem0)) fun u18_4 Lo fs hres => ?_)
      obtain ⟨T3, t3, rfl, rfl, rfl, wt3, r3⟩ := hres
      have e3 := congrArg List.length r3
      simp only [List.length_append] at e3
      refine Lq (q_move rfl) ?_
      refine WL_main rfl (OW_call0 (mend_r T3 E2 t3 q2 wt3 wq2 (by omega)) (.cons rfl (.cons rfl (.nil))) (by decide) (memc (.head _) (memc (.tail _ (.tail _ (.tail _ (.head _)))) mem0)) fun u18_6 Lo fs hres => ?_)
      obtain ⟨T4, t4, rfl, rfl, rfl, wt4, r4⟩ := hres
      have e4 := congrArg List.length r4
      simp only [List.length_append] at e4
      refine Lq (q_assign rfl) ?_
      refine WL_nil (blockN (thenN (WC_region ?_)))
      refine Lq (q_add rfl rfl (wr64 (by omega)) (c := ((i + 1 : Nat) : Int))) ?_
      refine Lq (q_move rfl) ?_
      refine WL_nil (thenK ?_)
      refine ⟨(i + 1, T4, t4), ?_, (.cons rfl (.cons rfl (.cons rfl (.cons rfl (.cons rfl (.cons rfl (.nil _))))))), (List.Sublist.cons _ (List.Sublist.cons_cons _ (List.Sublist.refl _))), (memc (.head _) (fun _ h => .tail _ (.tail _ (.tail _ (.tail _ (.tail _ (.tail _ (.tail _ (.tail _ (.tail _ h))))))))))⟩
      refine ⟨by show rs.length - (i + 1) < rs.length - i; omega, hI.next hil wt4 ?_⟩
      have e8 : rs[i].lo.toNat + (rs[i].hi - rs[i].lo).toNat = rs[i].hi.toNat := by omega
      rw [r4, r3, hlr, r1, r2, rq2, rq1, List.drop_drop, e8, List.append_assoc]; rfl
    · refine WC_exit (thenExit (thenExit (blockHit (thenN (WC_seq (WC_region ?_))))))
      refine Lq (q_move rfl) ?_
      refine Lq (q_move rfl) ?_
      refine Lq (q_nil rfl) ?_
      refine Lq (q_field (o' := 0) Tryd.underlying115 rfl ti113 rfl rfl) ?_
      refine WL_main rfl (OW_store1 ti113 rfl rfl rfl (.z) (.z) ?_)
      refine WL_nil (thenN (WC_seq (WC_region ?_)))
      refine Lq (q_assign rfl) ?_
      refine WL_nil (thenN (WC_ret ?_))
      refine ⟨_, [_], [_], fun Z w hs => .tmp rfl (.nil), ?_, fun Z w hs => hs.out (List.Sublist.cons_cons _ (List.Sublist.refl _)) (fun _ h => h)⟩
      try simp only [Bq0, Bq1, Bq2, Bq3, Bq4, Bq5, Bq6, Bq7, Bq8, Bq9, Bq10, Bq11, Bq12] at *
      exact ⟨_, _, rfl, rfl, rfl, wtJ, hI.done (by omega)⟩

end Go.Proofs.YtggdddkbhigjoaaDoor
/- Walks: rope.Cell. -/
namespace Go.Proofs.YtggdddkbhigjoaaDoor
open Go Go.GW
structure CeI (c : Ce) (x : Int) (t : Tr) : Prop where
  wf : Wf t
  lo : 0 ≤ x
  hi : x < t.row.length
  le : t.row.length ≤ 1073741824
  eq : t.row[x.toNat]? = some c
end Go.Proofs.YtggdddkbhigjoaaDoor
/- Walks: op. -/
namespace Go.Proofs.YtggdddkbhigjoaaDoor
open Go Go.GW
set_option maxRecDepth 10000 in
theorem width_s (o : GOp) (A : Option Addr) (c : Nat) (hs : o.text.size ≤ 4611686018427387904) : Sp Tryd.prog 42 [opV o A c] [] [barF] (Is (.int .i64 (widthF o))) := by
  refine Sp.of (n := 18) ⟨_, Tryd.func42, rfl, rfl, rfl, rfl⟩ (Nat.le_of_ble_eq_true rfl) fun Ps As => ?_
  refine WC_seq (WC_region ?_)
  refine WL_main rfl (OW_box (cs := [_, _, _, _, _, _, _, _, _]) rfl rfl (by decide) fun b1 => ?_)
  refine Lq (q_assign rfl) ?_
  refine WL_nil (thenN (WC_seq (WC_seq (WC_region ?_))))
  refine Lq (q_field (o' := 0) Tryd.underlying31 rfl ti28 rfl rfl) ?_
  refine Lq (q_field (o' := 2) Tryd.underlying28 rfl ti26 rfl rfl) ?_
  refine Lq (q_load1 Tryd.underlying26 rfl rfl own0 rfl) ?_
  refine Lq (q_neq rfl rfl) ?_
  refine WL_nil (thenN ?_)
  refine WC_cond rfl (fun h9 => ?_) (fun h9 => ?_)
  · refine WC_seq (WC_region ?_)
    refine Lq (q_assign rfl) ?_
    refine WL_nil (thenN (WC_ret (thenRet ?_)))
    refine ⟨_, [], [], fun Z w hs => .tmp rfl (.nil), ?_, fun Z w hs => hs.out (List.Sublist.cons _ (List.Sublist.refl _)) (fun _ h => h)⟩
    try simp only [Bq0, Bq1, Bq2, Bq3, Bq4, Bq5, Bq6, Bq7, Bq8, Bq9, Bq10, Bq11, Bq12] at *
    exact ⟨congrArg (Value.int .i64) (by unfold widthF; first | (simp_all; done) | (simp_all; repeat' split; all_goals omega) | (repeat' split; all_goals first | rfl | omega)), rfl, rfl⟩
  · refine WC_skip (thenN (WC_seq (WC_region ?_)))
    refine Lq (q_field (o' := 4) Tryd.underlying31 rfl ti9 rfl rfl) ?_
    refine Lq (q_load1 Tryd.underlying9 rfl rfl own0 rfl) ?_
    refine WL_main rfl (OW_call0 (utCheck_s o.text hs) (.cons rfl (.nil)) (by decide) (memc (.head _) mem0) fun u3_2 Lo fs hres => ?_)
    obtain ⟨rfl, rfl, rfl⟩ := hres
    refine Lq (q_move rfl) ?_
    refine Lq (q_extract (vs := [_, _, _]) rfl rfl) ?_
    refine Lq (q_extract (vs := [_, _, _]) rfl rfl) ?_
    refine Lq (q_extract (vs := [_, _, _]) rfl rfl) ?_
    refine Lq (q_assign rfl) ?_
    refine Lq (q_assign rfl) ?_
    refine Lq (q_assign rfl) ?_
    refine WL_nil (thenN ?_)
    refine WC_fr [(3, _), (2, _)] (.cons rfl (.cons rfl (.nil _))) ?_
    refine WC_seq (WC_region ?_)
    refine Lq (q_move rfl) ?_
    refine Lq (q_assign rfl) ?_
    refine WL_nil (thenN (WC_ret ?_))
    refine ⟨_, [], [], fun Z w hs => .tmp rfl (.nil), ?_, fun Z w hs => hs.out (List.Sublist.cons _ (List.Sublist.refl _)) (fun _ h => h)⟩
    try simp only [Bq0, Bq1, Bq2, Bq3, Bq4, Bq5, Bq6, Bq7, Bq8, Bq9, Bq10, Bq11, Bq12] at *
    exact ⟨congrArg (Value.int .i64) (by unfold widthF; first | (simp_all; done) | (simp_all; repeat' split; all_goals omega) | (repeat' split; all_goals first | rfl | omega)), rfl, rfl⟩

theorem bd25Xw8  (w : World) : (Instr.build 25 #[]).run Tryd.prog w = .ok (.agg #[.int .i64 0, .int .i64 0]) w := by kernel_rfl

set_option maxRecDepth 10000 in
theorem extra_s (o : GOp) (A : Option Addr) (c : Nat) : Sp Tryd.prog 77 [opV o A c] [] [] (Is (.bool (extraF o))) := by
  refine Sp.of (n := 56) ⟨_, Tryd.func77, rfl, rfl, rfl, rfl⟩ (Nat.le_of_ble_eq_true rfl) fun Ps As => ?_
  refine WC_seq (WC_region ?_)
  refine WL_main rfl (OW_box (cs := [_, _, _, _, _, _, _, _, _]) rfl rfl (by decide) fun b1 => ?_)
  refine Lq (q_assign rfl) ?_
  refine WL_nil (thenN (WC_seq (WC_region ?_)))
  refine Lq (q_field (o' := 0) Tryd.underlying31 rfl ti28 rfl rfl) ?_
  refine Lq (q_field (o' := 2) Tryd.underlying28 rfl ti26 rfl rfl) ?_
  refine Lq (q_load1 Tryd.underlying26 rfl rfl own0 rfl) ?_
  refine Lq (q_eql rfl rfl) ?_
  refine Lq (q_assign rfl) ?_
  refine WL_nil (thenN (WC_seq (WC_region ?_)))
  refine Lq (q_field (o' := 0) Tryd.underlying31 rfl ti28 rfl rfl) ?_
  refine Lq (q_field (o' := 2) Tryd.underlying28 rfl ti26 rfl rfl) ?_
  refine Lq (q_load1 Tryd.underlying26 rfl rfl own0 rfl) ?_
  refine Lq (q_eql rfl rfl) ?_
  refine Lq (q_move rfl) ?_
  refine WL_guard (t := 14) rfl (fun g14 => ?_) (fun g14 => ?_)
  · refine Ln rfl rfl rfl g14 ?_
    refine Ln rfl rfl rfl g14 ?_
    refine Ln rfl rfl rfl g14 ?_
    refine Ln rfl rfl rfl g14 ?_
    refine Lq (q_pickT rfl g14 rfl) ?_
    refine Lq (q_assign rfl) ?_
    refine WL_nil (thenN ?_)
    refine WC_fr [(4, _), (3, _), (2, _), (1, _)] (.cons rfl (.cons rfl (.cons rfl (.cons rfl (.nil _))))) ?_
    refine WC_seq (WC_region ?_)
    refine Lq (q_field (o' := 0) Tryd.underlying31 rfl ti28 rfl rfl) ?_
    refine Lq (q_field (o' := 2) Tryd.underlying28 rfl ti26 rfl rfl) ?_
    refine Lq (q_load1 Tryd.underlying26 rfl rfl own0 rfl) ?_
    refine Lq (q_eql rfl rfl) ?_
    refine Lq (q_assign rfl) ?_
    refine WL_nil (thenN (WC_seq (WC_seq (WC_region ?_))))
    refine Lq (q_move rfl) ?_
    refine Lq (q_not rfl) ?_
    refine Lq (q_move rfl) ?_
    refine WL_guard (t := 26) rfl (fun g26 => ?_) (fun g26 => ?_)
    · refine Lg rfl rfl rfl g26 (q_field (o' := 3) Tryd.underlying31 rfl ti3 rfl rfl) ?_
      refine Lg rfl rfl rfl g26 (q_load1 Tryd.underlying3 rfl rfl own0 rfl) ?_
      refine Lg rfl rfl rfl g26 (q_neq rfl rfl) ?_
      refine Lg rfl rfl rfl g26 (q_move rfl) ?_
      refine WL_guard (t := 30) rfl (fun g30 => ?_) (fun g30 => ?_)
      · refine Ln rfl rfl rfl g30 ?_
        refine Ln rfl rfl rfl g30 ?_
        refine Ln rfl rfl rfl g30 ?_
        refine Lg rfl rfl rfl g26 (q_pickT rfl g30 rfl) ?_
        refine Lq (q_pickT rfl g26 rfl) ?_
        refine WL_nil (thenN ?_)
        refine WC_fr [(35, _), (5, _), (4, _), (2, _), (1, _)] (.cons rfl (.cons rfl (.cons rfl (.cons rfl (.cons rfl (.nil _)))))) ?_
        refine WC_true rfl rfl (WC_seq (WC_region ?_))
        refine Lq (q_assign rfl) ?_
        refine WL_nil (thenN (WC_ret (thenRet ?_)))
        refine ⟨_, [], [], fun Z w hs => .tmp rfl (.nil), ?_, fun Z w hs => hs.out (List.Sublist.cons _ (List.Sublist.refl _)) (fun _ h => h)⟩
        try simp only [Bq0, Bq1, Bq2, Bq3, Bq4, Bq5, Bq6, Bq7, Bq8, Bq9, Bq10, Bq11, Bq12] at *
        exact ⟨congrArg (Value.bool) (by unfold extraF; first | (simp_all; done) | (simp_all; repeat' split; all_goals omega) | (repeat' split; all_goals first | rfl | omega)), rfl, rfl⟩
      · refine Lg rfl rfl rfl g30 (q_field (o' := 4) Tryd.underlying31 rfl ti9 rfl rfl) ?_
        refine Lg rfl rfl rfl g30 (q_load1 Tryd.underlying9 rfl rfl own0 rfl) ?_
        refine Lg rfl rfl rfl g30 (q_sneq rfl rfl) ?_
        refine Lg rfl rfl rfl g26 (q_pickF rfl g30 rfl) ?_
        refine Lq (q_pickT rfl g26 rfl) ?_
        refine WL_nil (thenN ?_)
        refine WC_fr [(35, _), (5, _), (4, _), (2, _), (1, _)] (.cons rfl (.cons rfl (.cons rfl (.cons rfl (.cons rfl (.nil _)))))) ?_
        refine WC_cond rfl (fun h35 => ?_) (fun h35 => ?_)
        · refine WC_seq (WC_region ?_)
          refine Lq (q_assign rfl) ?_
          refine WL_nil (thenN (WC_ret (thenRet ?_)))
          refine ⟨_, [], [], fun Z w hs => .tmp rfl (.nil), ?_, fun Z w hs => hs.out (List.Sublist.cons _ (List.Sublist.refl _)) (fun _ h => h)⟩
          try simp only [Bq0, Bq1, Bq2, Bq3, Bq4, Bq5, Bq6, Bq7, Bq8, Bq9, Bq10, Bq11, Bq12] at *
          exact ⟨congrArg (Value.bool) (by unfold extraF; first | (simp_all; done) | (simp_all; repeat' split; all_goals omega) | (repeat' split; all_goals first | rfl | omega)), rfl, rfl⟩
        · refine WC_skip (thenN (WC_seq (WC_seq (WC_region ?_))))
          refine Lq (q_move rfl) ?_
          refine Lq (q_not rfl) ?_
          refine Lq (q_move rfl) ?_
          refine Ln rfl rfl rfl rfl ?_
          refine Ln rfl rfl rfl rfl ?_
          refine Ln rfl rfl rfl rfl ?_
          refine Ln rfl rfl rfl rfl ?_
          refine Lq (q_pickF rfl rfl rfl) ?_
          refine WL_nil (thenN (WC_false rfl rfl (WC_skip (thenN (WC_seq (WC_region ?_))))))
          refine Lq (q_move rfl) ?_
          refine Lq (q_not rfl) ?_
          refine Lq (q_move rfl) ?_
          refine WL_guard (t := 46) rfl (fun g46 => ?_) (fun g46 => ?_)
          · refine Lg rfl rfl rfl g46 (q_field (o' := 6) Tryd.underlying31 rfl ti25 rfl rfl) ?_
            refine Lg rfl rfl rfl g46 (q_loadN (vs := [_, _]) Tryd.underlying25 rfl ti25 rfl own0 rfl rfl) ?_
            refine Lg rfl rfl rfl g46 (q_build (.nil) (bd25Xw8)) ?_
            refine Lg rfl rfl rfl g46 (q_aggneq rfl rfl (eq25 _ _ _ _)) ?_
            refine Lg rfl rfl rfl g46 (q_move rfl) ?_
            refine WL_guard (t := 51) rfl (fun g51 => ?_) (fun g51 => ?_)
            · refine Ln rfl rfl rfl g51 ?_
              refine Ln rfl rfl rfl g51 ?_
              refine Lg rfl rfl rfl g46 (q_pickT rfl g51 rfl) ?_
              refine Lq (q_pickT rfl g46 rfl) ?_
              refine Lq (q_assign rfl) ?_
              refine WL_nil (thenN ?_)
              refine WC_fr [(2, _)] (.cons rfl (.nil _)) ?_
              refine WC_ret ?_
              refine ⟨_, [], [], fun Z w hs => .tmp rfl (.nil), ?_, fun Z w hs => hs.out (List.Sublist.cons _ (List.Sublist.refl _)) (fun _ h => h)⟩
              try simp only [Bq0, Bq1, Bq2, Bq3, Bq4, Bq5, Bq6, Bq7, Bq8, Bq9, Bq10, Bq11, Bq12] at *
              exact ⟨congrArg (Value.bool) (by unfold extraF; first | (simp_all; done) | (simp_all; repeat' split; all_goals omega) | (repeat' split; all_goals first | rfl | omega)), rfl, rfl⟩
            · refine Lg rfl rfl rfl g51 (q_field (o' := 8) Tryd.underlying31 rfl ti4 rfl rfl) ?_
              refine Lg rfl rfl rfl g51 (q_load1 Tryd.underlying4 rfl rfl own0 rfl) ?_
              refine Lg rfl rfl rfl g46 (q_pickF rfl g51 rfl) ?_
              refine Lq (q_pickT rfl g46 rfl) ?_
              refine Lq (q_assign rfl) ?_
              refine WL_nil (thenN ?_)
              refine WC_fr [(2, _)] (.cons rfl (.nil _)) ?_
              refine WC_ret ?_
              refine ⟨_, [], [], fun Z w hs => .tmp rfl (.nil), ?_, fun Z w hs => hs.out (List.Sublist.cons _ (List.Sublist.refl _)) (fun _ h => h)⟩
              try simp only [Bq0, Bq1, Bq2, Bq3, Bq4, Bq5, Bq6, Bq7, Bq8, Bq9, Bq10, Bq11, Bq12] at *
              exact ⟨congrArg (Value.bool) (by unfold extraF; first | (simp_all; done) | (simp_all; repeat' split; all_goals omega) | (repeat' split; all_goals first | rfl | omega)), rfl, rfl⟩
          · refine Ln rfl rfl rfl g46 ?_
            refine Ln rfl rfl rfl g46 ?_
            refine Ln rfl rfl rfl g46 ?_
            refine Ln rfl rfl rfl g46 ?_
            refine Ln rfl rfl rfl g46 ?_
            refine WL_gun rfl rfl rfl (by decide) ?_
            refine WL_gun rfl rfl rfl (by decide) ?_
            refine Ln rfl rfl rfl g46 ?_
            refine Lq (q_pickF rfl g46 rfl) ?_
            refine Lq (q_assign rfl) ?_
            refine WL_nil (thenN ?_)
            refine WC_fr [(2, _)] (.cons rfl (.nil _)) ?_
            refine WC_ret ?_
            refine ⟨_, [], [], fun Z w hs => .tmp rfl (.nil), ?_, fun Z w hs => hs.out (List.Sublist.cons _ (List.Sublist.refl _)) (fun _ h => h)⟩
            try simp only [Bq0, Bq1, Bq2, Bq3, Bq4, Bq5, Bq6, Bq7, Bq8, Bq9, Bq10, Bq11, Bq12] at *
            exact ⟨congrArg (Value.bool) (by unfold extraF; first | (simp_all; done) | (simp_all; repeat' split; all_goals omega) | (repeat' split; all_goals first | rfl | omega)), rfl, rfl⟩
    · refine Ln rfl rfl rfl g26 ?_
      refine Ln rfl rfl rfl g26 ?_
      refine Ln rfl rfl rfl g26 ?_
      refine Ln rfl rfl rfl g26 ?_
      refine WL_gun rfl rfl rfl (by decide) ?_
      refine WL_gun rfl rfl rfl (by decide) ?_
      refine WL_gun rfl rfl rfl (by decide) ?_
      refine Ln rfl rfl rfl g26 ?_
      refine Lq (q_pickF rfl g26 rfl) ?_
      refine WL_nil (thenN ?_)
      refine WC_fr [(35, _), (5, _), (4, _), (2, _), (1, _)] (.cons rfl (.cons rfl (.cons rfl (.cons rfl (.cons rfl (.nil _)))))) ?_
      refine WC_false rfl rfl (WC_skip (thenN (WC_seq (WC_seq (WC_region ?_)))))
      refine Lq (q_move rfl) ?_
      refine Lq (q_not rfl) ?_
      refine Lq (q_move rfl) ?_
      refine Ln rfl rfl rfl rfl ?_
      refine Ln rfl rfl rfl rfl ?_
      refine Ln rfl rfl rfl rfl ?_
      refine Ln rfl rfl rfl rfl ?_
      refine Lq (q_pickF rfl rfl rfl) ?_
      refine WL_nil (thenN (WC_false rfl rfl (WC_skip (thenN (WC_seq (WC_region ?_))))))
      refine Lq (q_move rfl) ?_
      refine Lq (q_not rfl) ?_
      refine Lq (q_move rfl) ?_
      refine WL_guard (t := 46) rfl (fun g46 => ?_) (fun g46 => ?_)
      · refine Lg rfl rfl rfl g46 (q_field (o' := 6) Tryd.underlying31 rfl ti25 rfl rfl) ?_
        refine Lg rfl rfl rfl g46 (q_loadN (vs := [_, _]) Tryd.underlying25 rfl ti25 rfl own0 rfl rfl) ?_
        refine Lg rfl rfl rfl g46 (q_build (.nil) (bd25Xw8)) ?_
        refine Lg rfl rfl rfl g46 (q_aggneq rfl rfl (eq25 _ _ _ _)) ?_
        refine Lg rfl rfl rfl g46 (q_move rfl) ?_
        refine WL_guard (t := 51) rfl (fun g51 => ?_) (fun g51 => ?_)
        · refine Ln rfl rfl rfl g51 ?_
          refine Ln rfl rfl rfl g51 ?_
          refine Lg rfl rfl rfl g46 (q_pickT rfl g51 rfl) ?_
          refine Lq (q_pickT rfl g46 rfl) ?_
          refine Lq (q_assign rfl) ?_
          refine WL_nil (thenN ?_)
          refine WC_fr [(2, _)] (.cons rfl (.nil _)) ?_
          refine WC_ret ?_
          refine ⟨_, [], [], fun Z w hs => .tmp rfl (.nil), ?_, fun Z w hs => hs.out (List.Sublist.cons _ (List.Sublist.refl _)) (fun _ h => h)⟩
          try simp only [Bq0, Bq1, Bq2, Bq3, Bq4, Bq5, Bq6, Bq7, Bq8, Bq9, Bq10, Bq11, Bq12] at *
          exact ⟨congrArg (Value.bool) (by unfold extraF; first | (simp_all; done) | (simp_all; repeat' split; all_goals omega) | (repeat' split; all_goals first | rfl | omega)), rfl, rfl⟩
        · refine Lg rfl rfl rfl g51 (q_field (o' := 8) Tryd.underlying31 rfl ti4 rfl rfl) ?_
          refine Lg rfl rfl rfl g51 (q_load1 Tryd.underlying4 rfl rfl own0 rfl) ?_
          refine Lg rfl rfl rfl g46 (q_pickF rfl g51 rfl) ?_
          refine Lq (q_pickT rfl g46 rfl) ?_
          refine Lq (q_assign rfl) ?_
          refine WL_nil (thenN ?_)
          refine WC_fr [(2, _)] (.cons rfl (.nil _)) ?_
          refine WC_ret ?_
          refine ⟨_, [], [], fun Z w hs => .tmp rfl (.nil), ?_, fun Z w hs => hs.out (List.Sublist.cons _ (List.Sublist.refl _)) (fun _ h => h)⟩
          try simp only [Bq0, Bq1, Bq2, Bq3, Bq4, Bq5, Bq6, Bq7, Bq8, Bq9, Bq10, Bq11, Bq12] at *
          exact ⟨congrArg (Value.bool) (by unfold extraF; first | (simp_all; done) | (simp_all; repeat' split; all_goals omega) | (repeat' split; all_goals first | rfl | omega)), rfl, rfl⟩
      · refine Ln rfl rfl rfl g46 ?_
        refine Ln rfl rfl rfl g46 ?_
        refine Ln rfl rfl rfl g46 ?_
        refine Ln rfl rfl rfl g46 ?_
        refine Ln rfl rfl rfl g46 ?_
        refine WL_gun rfl rfl rfl (by decide) ?_
        refine WL_gun rfl rfl rfl (by decide) ?_
        refine Ln rfl rfl rfl g46 ?_
        refine Lq (q_pickF rfl g46 rfl) ?_
        refine Lq (q_assign rfl) ?_
        refine WL_nil (thenN ?_)
        refine WC_fr [(2, _)] (.cons rfl (.nil _)) ?_
        refine WC_ret ?_
        refine ⟨_, [], [], fun Z w hs => .tmp rfl (.nil), ?_, fun Z w hs => hs.out (List.Sublist.cons _ (List.Sublist.refl _)) (fun _ h => h)⟩
        try simp only [Bq0, Bq1, Bq2, Bq3, Bq4, Bq5, Bq6, Bq7, Bq8, Bq9, Bq10, Bq11, Bq12] at *
        exact ⟨congrArg (Value.bool) (by unfold extraF; first | (simp_all; done) | (simp_all; repeat' split; all_goals omega) | (repeat' split; all_goals first | rfl | omega)), rfl, rfl⟩
  · refine Lg rfl rfl rfl g14 (q_field (o' := 0) Tryd.underlying31 rfl ti28 rfl rfl) ?_
    refine Lg rfl rfl rfl g14 (q_field (o' := 2) Tryd.underlying28 rfl ti26 rfl rfl) ?_
    refine Lg rfl rfl rfl g14 (q_load1 Tryd.underlying26 rfl rfl own0 rfl) ?_
    refine Lg rfl rfl rfl g14 (q_eql rfl rfl) ?_
    refine Lq (q_pickF rfl g14 rfl) ?_
    refine Lq (q_assign rfl) ?_
    refine WL_nil (thenN ?_)
    refine WC_fr [(4, _), (3, _), (2, _), (1, _)] (.cons rfl (.cons rfl (.cons rfl (.cons rfl (.nil _))))) ?_
    refine WC_seq (WC_region ?_)
    refine Lq (q_field (o' := 0) Tryd.underlying31 rfl ti28 rfl rfl) ?_
    refine Lq (q_field (o' := 2) Tryd.underlying28 rfl ti26 rfl rfl) ?_
    refine Lq (q_load1 Tryd.underlying26 rfl rfl own0 rfl) ?_
    refine Lq (q_eql rfl rfl) ?_
    refine Lq (q_assign rfl) ?_
    refine WL_nil (thenN (WC_seq (WC_seq (WC_region ?_))))
    refine Lq (q_move rfl) ?_
    refine Lq (q_not rfl) ?_
    refine Lq (q_move rfl) ?_
    refine WL_guard (t := 26) rfl (fun g26 => ?_) (fun g26 => ?_)
    · refine Lg rfl rfl rfl g26 (q_field (o' := 3) Tryd.underlying31 rfl ti3 rfl rfl) ?_
      refine Lg rfl rfl rfl g26 (q_load1 Tryd.underlying3 rfl rfl own0 rfl) ?_
      refine Lg rfl rfl rfl g26 (q_neq rfl rfl) ?_
      refine Lg rfl rfl rfl g26 (q_move rfl) ?_
      refine WL_guard (t := 30) rfl (fun g30 => ?_) (fun g30 => ?_)
      · refine Ln rfl rfl rfl g30 ?_
        refine Ln rfl rfl rfl g30 ?_
        refine Ln rfl rfl rfl g30 ?_
        refine Lg rfl rfl rfl g26 (q_pickT rfl g30 rfl) ?_
        refine Lq (q_pickT rfl g26 rfl) ?_
        refine WL_nil (thenN ?_)
        refine WC_fr [(35, _), (5, _), (4, _), (2, _), (1, _)] (.cons rfl (.cons rfl (.cons rfl (.cons rfl (.cons rfl (.nil _)))))) ?_
        refine WC_true rfl rfl (WC_seq (WC_region ?_))
        refine Lq (q_assign rfl) ?_
        refine WL_nil (thenN (WC_ret (thenRet ?_)))
        refine ⟨_, [], [], fun Z w hs => .tmp rfl (.nil), ?_, fun Z w hs => hs.out (List.Sublist.cons _ (List.Sublist.refl _)) (fun _ h => h)⟩
        try simp only [Bq0, Bq1, Bq2, Bq3, Bq4, Bq5, Bq6, Bq7, Bq8, Bq9, Bq10, Bq11, Bq12] at *
        exact ⟨congrArg (Value.bool) (by unfold extraF; first | (simp_all; done) | (simp_all; repeat' split; all_goals omega) | (repeat' split; all_goals first | rfl | omega)), rfl, rfl⟩
      · refine Lg rfl rfl rfl g30 (q_field (o' := 4) Tryd.underlying31 rfl ti9 rfl rfl) ?_
        refine Lg rfl rfl rfl g30 (q_load1 Tryd.underlying9 rfl rfl own0 rfl) ?_
        refine Lg rfl rfl rfl g30 (q_sneq rfl rfl) ?_
        refine Lg rfl rfl rfl g26 (q_pickF rfl g30 rfl) ?_
        refine Lq (q_pickT rfl g26 rfl) ?_
        refine WL_nil (thenN ?_)
        refine WC_fr [(35, _), (5, _), (4, _), (2, _), (1, _)] (.cons rfl (.cons rfl (.cons rfl (.cons rfl (.cons rfl (.nil _)))))) ?_
        refine WC_cond rfl (fun h35 => ?_) (fun h35 => ?_)
        · refine WC_seq (WC_region ?_)
          refine Lq (q_assign rfl) ?_
          refine WL_nil (thenN (WC_ret (thenRet ?_)))
          refine ⟨_, [], [], fun Z w hs => .tmp rfl (.nil), ?_, fun Z w hs => hs.out (List.Sublist.cons _ (List.Sublist.refl _)) (fun _ h => h)⟩
          try simp only [Bq0, Bq1, Bq2, Bq3, Bq4, Bq5, Bq6, Bq7, Bq8, Bq9, Bq10, Bq11, Bq12] at *
          exact ⟨congrArg (Value.bool) (by unfold extraF; first | (simp_all; done) | (simp_all; repeat' split; all_goals omega) | (repeat' split; all_goals first | rfl | omega)), rfl, rfl⟩
        · refine WC_skip (thenN (WC_seq (WC_seq (WC_region ?_))))
          refine Lq (q_move rfl) ?_
          refine Lq (q_not rfl) ?_
          refine Lq (q_move rfl) ?_
          refine WL_guard (t := 38) rfl (fun g38 => ?_) (fun g38 => ?_)
          · refine Lg rfl rfl rfl g38 (q_field (o' := 5) Tryd.underlying31 rfl ti29 rfl rfl) ?_
            refine Lg rfl rfl rfl g38 (q_load1 Tryd.underlying29 rfl rfl own0 rfl) ?_
            refine Lg rfl rfl rfl g38 (q_len Tryd.underlying29 rfl) ?_
            refine Lg rfl rfl rfl g38 (q_gtr rfl rfl) ?_
            refine Lq (q_pickT rfl g38 rfl) ?_
            refine WL_nil (thenN ?_)
            refine WC_cond rfl (fun h43 => ?_) (fun h43 => ?_)
            · refine WC_seq (WC_region ?_)
              refine Lq (q_assign rfl) ?_
              refine WL_nil (thenN (WC_ret (thenRet ?_)))
              refine ⟨_, [], [], fun Z w hs => .tmp rfl (.nil), ?_, fun Z w hs => hs.out (List.Sublist.cons _ (List.Sublist.refl _)) (fun _ h => h)⟩
              try simp only [Bq0, Bq1, Bq2, Bq3, Bq4, Bq5, Bq6, Bq7, Bq8, Bq9, Bq10, Bq11, Bq12] at *
              exact ⟨congrArg (Value.bool) (by unfold extraF; first | (simp_all; done) | (simp_all; repeat' split; all_goals omega) | (repeat' split; all_goals first | rfl | omega)), rfl, rfl⟩
            · refine WC_skip (thenN (WC_seq (WC_region ?_)))
              refine Lq (q_move rfl) ?_
              refine Lq (q_not rfl) ?_
              refine Lq (q_move rfl) ?_
              refine WL_guard (t := 46) rfl (fun g46 => ?_) (fun g46 => ?_)
              · refine Lg rfl rfl rfl g46 (q_field (o' := 6) Tryd.underlying31 rfl ti25 rfl rfl) ?_
                refine Lg rfl rfl rfl g46 (q_loadN (vs := [_, _]) Tryd.underlying25 rfl ti25 rfl own0 rfl rfl) ?_
                refine Lg rfl rfl rfl g46 (q_build (.nil) (bd25Xw8)) ?_
                refine Lg rfl rfl rfl g46 (q_aggneq rfl rfl (eq25 _ _ _ _)) ?_
                refine Lg rfl rfl rfl g46 (q_move rfl) ?_
                refine WL_guard (t := 51) rfl (fun g51 => ?_) (fun g51 => ?_)
                · refine Ln rfl rfl rfl g51 ?_
                  refine Ln rfl rfl rfl g51 ?_
                  refine Lg rfl rfl rfl g46 (q_pickT rfl g51 rfl) ?_
                  refine Lq (q_pickT rfl g46 rfl) ?_
                  refine Lq (q_assign rfl) ?_
                  refine WL_nil (thenN ?_)
                  refine WC_fr [(2, _)] (.cons rfl (.nil _)) ?_
                  refine WC_ret ?_
                  refine ⟨_, [], [], fun Z w hs => .tmp rfl (.nil), ?_, fun Z w hs => hs.out (List.Sublist.cons _ (List.Sublist.refl _)) (fun _ h => h)⟩
                  try simp only [Bq0, Bq1, Bq2, Bq3, Bq4, Bq5, Bq6, Bq7, Bq8, Bq9, Bq10, Bq11, Bq12] at *
                  exact ⟨congrArg (Value.bool) (by unfold extraF; first | (simp_all; done) | (simp_all; repeat' split; all_goals omega) | (repeat' split; all_goals first | rfl | omega)), rfl, rfl⟩
                · refine Lg rfl rfl rfl g51 (q_field (o' := 8) Tryd.underlying31 rfl ti4 rfl rfl) ?_
                  refine Lg rfl rfl rfl g51 (q_load1 Tryd.underlying4 rfl rfl own0 rfl) ?_
                  refine Lg rfl rfl rfl g46 (q_pickF rfl g51 rfl) ?_
                  refine Lq (q_pickT rfl g46 rfl) ?_
                  refine Lq (q_assign rfl) ?_
                  refine WL_nil (thenN ?_)
                  refine WC_fr [(2, _)] (.cons rfl (.nil _)) ?_
                  refine WC_ret ?_
                  refine ⟨_, [], [], fun Z w hs => .tmp rfl (.nil), ?_, fun Z w hs => hs.out (List.Sublist.cons _ (List.Sublist.refl _)) (fun _ h => h)⟩
                  try simp only [Bq0, Bq1, Bq2, Bq3, Bq4, Bq5, Bq6, Bq7, Bq8, Bq9, Bq10, Bq11, Bq12] at *
                  exact ⟨congrArg (Value.bool) (by unfold extraF; first | (simp_all; done) | (simp_all; repeat' split; all_goals omega) | (repeat' split; all_goals first | rfl | omega)), rfl, rfl⟩
              · refine Ln rfl rfl rfl g46 ?_
                refine Ln rfl rfl rfl g46 ?_
                refine Ln rfl rfl rfl g46 ?_
                refine Ln rfl rfl rfl g46 ?_
                refine Ln rfl rfl rfl g46 ?_
                refine WL_gun rfl rfl rfl (by decide) ?_
                refine WL_gun rfl rfl rfl (by decide) ?_
                refine Ln rfl rfl rfl g46 ?_
                refine Lq (q_pickF rfl g46 rfl) ?_
                refine Lq (q_assign rfl) ?_
                refine WL_nil (thenN ?_)
                refine WC_fr [(2, _)] (.cons rfl (.nil _)) ?_
                refine WC_ret ?_
                refine ⟨_, [], [], fun Z w hs => .tmp rfl (.nil), ?_, fun Z w hs => hs.out (List.Sublist.cons _ (List.Sublist.refl _)) (fun _ h => h)⟩
                try simp only [Bq0, Bq1, Bq2, Bq3, Bq4, Bq5, Bq6, Bq7, Bq8, Bq9, Bq10, Bq11, Bq12] at *
                exact ⟨congrArg (Value.bool) (by unfold extraF; first | (simp_all; done) | (simp_all; repeat' split; all_goals omega) | (repeat' split; all_goals first | rfl | omega)), rfl, rfl⟩
          · refine Ln rfl rfl rfl g38 ?_
            refine Ln rfl rfl rfl g38 ?_
            refine Ln rfl rfl rfl g38 ?_
            refine Ln rfl rfl rfl g38 ?_
            refine Lq (q_pickF rfl g38 rfl) ?_
            refine WL_nil (thenN (WC_false rfl rfl (WC_skip (thenN (WC_seq (WC_region ?_))))))
            refine Lq (q_move rfl) ?_
            refine Lq (q_not rfl) ?_
            refine Lq (q_move rfl) ?_
            refine WL_guard (t := 46) rfl (fun g46 => ?_) (fun g46 => ?_)
            · refine Lg rfl rfl rfl g46 (q_field (o' := 6) Tryd.underlying31 rfl ti25 rfl rfl) ?_
              refine Lg rfl rfl rfl g46 (q_loadN (vs := [_, _]) Tryd.underlying25 rfl ti25 rfl own0 rfl rfl) ?_
              refine Lg rfl rfl rfl g46 (q_build (.nil) (bd25Xw8)) ?_
              refine Lg rfl rfl rfl g46 (q_aggneq rfl rfl (eq25 _ _ _ _)) ?_
              refine Lg rfl rfl rfl g46 (q_move rfl) ?_
              refine WL_guard (t := 51) rfl (fun g51 => ?_) (fun g51 => ?_)
              · refine Ln rfl rfl rfl g51 ?_
                refine Ln rfl rfl rfl g51 ?_
                refine Lg rfl rfl rfl g46 (q_pickT rfl g51 rfl) ?_
                refine Lq (q_pickT rfl g46 rfl) ?_
                refine Lq (q_assign rfl) ?_
                refine WL_nil (thenN ?_)
                refine WC_fr [(2, _)] (.cons rfl (.nil _)) ?_
                refine WC_ret ?_
                refine ⟨_, [], [], fun Z w hs => .tmp rfl (.nil), ?_, fun Z w hs => hs.out (List.Sublist.cons _ (List.Sublist.refl _)) (fun _ h => h)⟩
                try simp only [Bq0, Bq1, Bq2, Bq3, Bq4, Bq5, Bq6, Bq7, Bq8, Bq9, Bq10, Bq11, Bq12] at *
                exact ⟨congrArg (Value.bool) (by unfold extraF; first | (simp_all; done) | (simp_all; repeat' split; all_goals omega) | (repeat' split; all_goals first | rfl | omega)), rfl, rfl⟩
              · refine Lg rfl rfl rfl g51 (q_field (o' := 8) Tryd.underlying31 rfl ti4 rfl rfl) ?_
                refine Lg rfl rfl rfl g51 (q_load1 Tryd.underlying4 rfl rfl own0 rfl) ?_
                refine Lg rfl rfl rfl g46 (q_pickF rfl g51 rfl) ?_
                refine Lq (q_pickT rfl g46 rfl) ?_
                refine Lq (q_assign rfl) ?_
                refine WL_nil (thenN ?_)
                refine WC_fr [(2, _)] (.cons rfl (.nil _)) ?_
                refine WC_ret ?_
                refine ⟨_, [], [], fun Z w hs => .tmp rfl (.nil), ?_, fun Z w hs => hs.out (List.Sublist.cons _ (List.Sublist.refl _)) (fun _ h => h)⟩
                try simp only [Bq0, Bq1, Bq2, Bq3, Bq4, Bq5, Bq6, Bq7, Bq8, Bq9, Bq10, Bq11, Bq12] at *
                exact ⟨congrArg (Value.bool) (by unfold extraF; first | (simp_all; done) | (simp_all; repeat' split; all_goals omega) | (repeat' split; all_goals first | rfl | omega)), rfl, rfl⟩
            · refine Ln rfl rfl rfl g46 ?_
              refine Ln rfl rfl rfl g46 ?_
              refine Ln rfl rfl rfl g46 ?_
              refine Ln rfl rfl rfl g46 ?_
              refine Ln rfl rfl rfl g46 ?_
              refine WL_gun rfl rfl rfl (by decide) ?_
              refine WL_gun rfl rfl rfl (by decide) ?_
              refine Ln rfl rfl rfl g46 ?_
              refine Lq (q_pickF rfl g46 rfl) ?_
              refine Lq (q_assign rfl) ?_
              refine WL_nil (thenN ?_)
              refine WC_fr [(2, _)] (.cons rfl (.nil _)) ?_
              refine WC_ret ?_
              refine ⟨_, [], [], fun Z w hs => .tmp rfl (.nil), ?_, fun Z w hs => hs.out (List.Sublist.cons _ (List.Sublist.refl _)) (fun _ h => h)⟩
              try simp only [Bq0, Bq1, Bq2, Bq3, Bq4, Bq5, Bq6, Bq7, Bq8, Bq9, Bq10, Bq11, Bq12] at *
              exact ⟨congrArg (Value.bool) (by unfold extraF; first | (simp_all; done) | (simp_all; repeat' split; all_goals omega) | (repeat' split; all_goals first | rfl | omega)), rfl, rfl⟩
    · refine Ln rfl rfl rfl g26 ?_
      refine Ln rfl rfl rfl g26 ?_
      refine Ln rfl rfl rfl g26 ?_
      refine Ln rfl rfl rfl g26 ?_
      refine WL_gun rfl rfl rfl (by decide) ?_
      refine WL_gun rfl rfl rfl (by decide) ?_
      refine WL_gun rfl rfl rfl (by decide) ?_
      refine Ln rfl rfl rfl g26 ?_
      refine Lq (q_pickF rfl g26 rfl) ?_
      refine WL_nil (thenN ?_)
      refine WC_fr [(35, _), (5, _), (4, _), (2, _), (1, _)] (.cons rfl (.cons rfl (.cons rfl (.cons rfl (.cons rfl (.nil _)))))) ?_
      refine WC_false rfl rfl (WC_skip (thenN (WC_seq (WC_seq (WC_region ?_)))))
      refine Lq (q_move rfl) ?_
      refine Lq (q_not rfl) ?_
      refine Lq (q_move rfl) ?_
      refine WL_guard (t := 38) rfl (fun g38 => ?_) (fun g38 => ?_)
      · refine Lg rfl rfl rfl g38 (q_field (o' := 5) Tryd.underlying31 rfl ti29 rfl rfl) ?_
        refine Lg rfl rfl rfl g38 (q_load1 Tryd.underlying29 rfl rfl own0 rfl) ?_
        refine Lg rfl rfl rfl g38 (q_len Tryd.underlying29 rfl) ?_
        refine Lg rfl rfl rfl g38 (q_gtr rfl rfl) ?_
        refine Lq (q_pickT rfl g38 rfl) ?_
        refine WL_nil (thenN ?_)
        refine WC_cond rfl (fun h43 => ?_) (fun h43 => ?_)
        · refine WC_seq (WC_region ?_)
          refine Lq (q_assign rfl) ?_
          refine WL_nil (thenN (WC_ret (thenRet ?_)))
          refine ⟨_, [], [], fun Z w hs => .tmp rfl (.nil), ?_, fun Z w hs => hs.out (List.Sublist.cons _ (List.Sublist.refl _)) (fun _ h => h)⟩
          try simp only [Bq0, Bq1, Bq2, Bq3, Bq4, Bq5, Bq6, Bq7, Bq8, Bq9, Bq10, Bq11, Bq12] at *
          exact ⟨congrArg (Value.bool) (by unfold extraF; first | (simp_all; done) | (simp_all; repeat' split; all_goals omega) | (repeat' split; all_goals first | rfl | omega)), rfl, rfl⟩
        · refine WC_skip (thenN (WC_seq (WC_region ?_)))
          refine Lq (q_move rfl) ?_
          refine Lq (q_not rfl) ?_
          refine Lq (q_move rfl) ?_
          refine WL_guard (t := 46) rfl (fun g46 => ?_) (fun g46 => ?_)
          · refine Lg rfl rfl rfl g46 (q_field (o' := 6) Tryd.underlying31 rfl ti25 rfl rfl) ?_
            refine Lg rfl rfl rfl g46 (q_loadN (vs := [_, _]) Tryd.underlying25 rfl ti25 rfl own0 rfl rfl) ?_
            refine Lg rfl rfl rfl g46 (q_build (.nil) (bd25Xw8)) ?_
            refine Lg rfl rfl rfl g46 (q_aggneq rfl rfl (eq25 _ _ _ _)) ?_
            refine Lg rfl rfl rfl g46 (q_move rfl) ?_
            refine WL_guard (t := 51) rfl (fun g51 => ?_) (fun g51 => ?_)
            · refine Ln rfl rfl rfl g51 ?_
              refine Ln rfl rfl rfl g51 ?_
              refine Lg rfl rfl rfl g46 (q_pickT rfl g51 rfl) ?_
              refine Lq (q_pickT rfl g46 rfl) ?_
              refine Lq (q_assign rfl) ?_
              refine WL_nil (thenN ?_)
              refine WC_fr [(2, _)] (.cons rfl (.nil _)) ?_
              refine WC_ret ?_
              refine ⟨_, [], [], fun Z w hs => .tmp rfl (.nil), ?_, fun Z w hs => hs.out (List.Sublist.cons _ (List.Sublist.refl _)) (fun _ h => h)⟩
              try simp only [Bq0, Bq1, Bq2, Bq3, Bq4, Bq5, Bq6, Bq7, Bq8, Bq9, Bq10, Bq11, Bq12] at *
              exact ⟨congrArg (Value.bool) (by unfold extraF; first | (simp_all; done) | (simp_all; repeat' split; all_goals omega) | (repeat' split; all_goals first | rfl | omega)), rfl, rfl⟩
            · refine Lg rfl rfl rfl g51 (q_field (o' := 8) Tryd.underlying31 rfl ti4 rfl rfl) ?_
              refine Lg rfl rfl rfl g51 (q_load1 Tryd.underlying4 rfl rfl own0 rfl) ?_
              refine Lg rfl rfl rfl g46 (q_pickF rfl g51 rfl) ?_
              refine Lq (q_pickT rfl g46 rfl) ?_
              refine Lq (q_assign rfl) ?_
              refine WL_nil (thenN ?_)
              refine WC_fr [(2, _)] (.cons rfl (.nil _)) ?_
              refine WC_ret ?_
              refine ⟨_, [], [], fun Z w hs => .tmp rfl (.nil), ?_, fun Z w hs => hs.out (List.Sublist.cons _ (List.Sublist.refl _)) (fun _ h => h)⟩
              try simp only [Bq0, Bq1, Bq2, Bq3, Bq4, Bq5, Bq6, Bq7, Bq8, Bq9, Bq10, Bq11, Bq12] at *
              exact ⟨congrArg (Value.bool) (by unfold extraF; first | (simp_all; done) | (simp_all; repeat' split; all_goals omega) | (repeat' split; all_goals first | rfl | omega)), rfl, rfl⟩
          · refine Ln rfl rfl rfl g46 ?_
            refine Ln rfl rfl rfl g46 ?_
            refine Ln rfl rfl rfl g46 ?_
            refine Ln rfl rfl rfl g46 ?_
            refine Ln rfl rfl rfl g46 ?_
            refine WL_gun rfl rfl rfl (by decide) ?_
            refine WL_gun rfl rfl rfl (by decide) ?_
            refine Ln rfl rfl rfl g46 ?_
            refine Lq (q_pickF rfl g46 rfl) ?_
            refine Lq (q_assign rfl) ?_
            refine WL_nil (thenN ?_)
            refine WC_fr [(2, _)] (.cons rfl (.nil _)) ?_
            refine WC_ret ?_
            refine ⟨_, [], [], fun Z w hs => .tmp rfl (.nil), ?_, fun Z w hs => hs.out (List.Sublist.cons _ (List.Sublist.refl _)) (fun _ h => h)⟩
            try simp only [Bq0, Bq1, Bq2, Bq3, Bq4, Bq5, Bq6, Bq7, Bq8, Bq9, Bq10, Bq11, Bq12] at *
            exact ⟨congrArg (Value.bool) (by unfold extraF; first | (simp_all; done) | (simp_all; repeat' split; all_goals omega) | (repeat' split; all_goals first | rfl | omega)), rfl, rfl⟩
      · refine Ln rfl rfl rfl g38 ?_
        refine Ln rfl rfl rfl g38 ?_
        refine Ln rfl rfl rfl g38 ?_
        refine Ln rfl rfl rfl g38 ?_
        refine Lq (q_pickF rfl g38 rfl) ?_
        refine WL_nil (thenN (WC_false rfl rfl (WC_skip (thenN (WC_seq (WC_region ?_))))))
        refine Lq (q_move rfl) ?_
        refine Lq (q_not rfl) ?_
        refine Lq (q_move rfl) ?_
        refine WL_guard (t := 46) rfl (fun g46 => ?_) (fun g46 => ?_)
        · refine Lg rfl rfl rfl g46 (q_field (o' := 6) Tryd.underlying31 rfl ti25 rfl rfl) ?_
          refine Lg rfl rfl rfl g46 (q_loadN (vs := [_, _]) Tryd.underlying25 rfl ti25 rfl own0 rfl rfl) ?_
          refine Lg rfl rfl rfl g46 (q_build (.nil) (bd25Xw8)) ?_
          refine Lg rfl rfl rfl g46 (q_aggneq rfl rfl (eq25 _ _ _ _)) ?_
          refine Lg rfl rfl rfl g46 (q_move rfl) ?_
          refine WL_guard (t := 51) rfl (fun g51 => ?_) (fun g51 => ?_)
          · refine Ln rfl rfl rfl g51 ?_
            refine Ln rfl rfl rfl g51 ?_
            refine Lg rfl rfl rfl g46 (q_pickT rfl g51 rfl) ?_
            refine Lq (q_pickT rfl g46 rfl) ?_
            refine Lq (q_assign rfl) ?_
            refine WL_nil (thenN ?_)
            refine WC_fr [(2, _)] (.cons rfl (.nil _)) ?_
            refine WC_ret ?_
            refine ⟨_, [], [], fun Z w hs => .tmp rfl (.nil), ?_, fun Z w hs => hs.out (List.Sublist.cons _ (List.Sublist.refl _)) (fun _ h => h)⟩
            try simp only [Bq0, Bq1, Bq2, Bq3, Bq4, Bq5, Bq6, Bq7, Bq8, Bq9, Bq10, Bq11, Bq12] at *
            exact ⟨congrArg (Value.bool) (by unfold extraF; first | (simp_all; done) | (simp_all; repeat' split; all_goals omega) | (repeat' split; all_goals first | rfl | omega)), rfl, rfl⟩
          · refine Lg rfl rfl rfl g51 (q_field (o' := 8) Tryd.underlying31 rfl ti4 rfl rfl) ?_
            refine Lg rfl rfl rfl g51 (q_load1 Tryd.underlying4 rfl rfl own0 rfl) ?_
            refine Lg rfl rfl rfl g46 (q_pickF rfl g51 rfl) ?_
            refine Lq (q_pickT rfl g46 rfl) ?_
            refine Lq (q_assign rfl) ?_
            refine WL_nil (thenN ?_)
            refine WC_fr [(2, _)] (.cons rfl (.nil _)) ?_
            refine WC_ret ?_
            refine ⟨_, [], [], fun Z w hs => .tmp rfl (.nil), ?_, fun Z w hs => hs.out (List.Sublist.cons _ (List.Sublist.refl _)) (fun _ h => h)⟩
            try simp only [Bq0, Bq1, Bq2, Bq3, Bq4, Bq5, Bq6, Bq7, Bq8, Bq9, Bq10, Bq11, Bq12] at *
            exact ⟨congrArg (Value.bool) (by unfold extraF; first | (simp_all; done) | (simp_all; repeat' split; all_goals omega) | (repeat' split; all_goals first | rfl | omega)), rfl, rfl⟩
        · refine Ln rfl rfl rfl g46 ?_
          refine Ln rfl rfl rfl g46 ?_
          refine Ln rfl rfl rfl g46 ?_
          refine Ln rfl rfl rfl g46 ?_
          refine Ln rfl rfl rfl g46 ?_
          refine WL_gun rfl rfl rfl (by decide) ?_
          refine WL_gun rfl rfl rfl (by decide) ?_
          refine Ln rfl rfl rfl g46 ?_
          refine Lq (q_pickF rfl g46 rfl) ?_
          refine Lq (q_assign rfl) ?_
          refine WL_nil (thenN ?_)
          refine WC_fr [(2, _)] (.cons rfl (.nil _)) ?_
          refine WC_ret ?_
          refine ⟨_, [], [], fun Z w hs => .tmp rfl (.nil), ?_, fun Z w hs => hs.out (List.Sublist.cons _ (List.Sublist.refl _)) (fun _ h => h)⟩
          try simp only [Bq0, Bq1, Bq2, Bq3, Bq4, Bq5, Bq6, Bq7, Bq8, Bq9, Bq10, Bq11, Bq12] at *
          exact ⟨congrArg (Value.bool) (by unfold extraF; first | (simp_all; done) | (simp_all; repeat' split; all_goals omega) | (repeat' split; all_goals first | rfl | omega)), rfl, rfl⟩


set_option maxRecDepth 10000 in
theorem checkIns_s (o : GOp) (A : Option Addr) (c : Nat) (total : Int) (hs : o.text.size ≤ 4611686018427387904) (ht : 0 ≤ total ∧ total ≤ 1048576) : Sp Tryd.prog 78 [opV o A c, .int .i64 total] [] [barF] (Is (.int .i64 (insF o total))) := by
  refine Sp.of (n := 40) ⟨_, Tryd.func78, rfl, rfl, rfl, rfl⟩ (Nat.le_of_ble_eq_true rfl) fun Ps As => ?_
  refine WC_seq (WC_region ?_)
  refine WL_main rfl (OW_box (cs := [_, _, _, _, _, _, _, _, _]) rfl rfl (by decide) fun b2 => ?_)
  refine Lq (q_assign rfl) ?_
  refine WL_nil (thenN (WC_seq (WC_region ?_)))
  refine Lq (q_field (o' := 4) Tryd.underlying31 rfl ti9 rfl rfl) ?_
  refine Lq (q_load1 Tryd.underlying9 rfl rfl own0 rfl) ?_
  refine WL_main rfl (OW_call0 (utCheck_s o.text hs) (.cons rfl (.nil)) (by decide) (memc (.head _) mem0) fun u1_2 Lo fs hres => ?_)
  obtain ⟨rfl, rfl, rfl⟩ := hres
  refine Lq (q_move rfl) ?_
  refine Lq (q_extract (vs := [_, _, _]) rfl rfl) ?_
  refine Lq (q_extract (vs := [_, _, _]) rfl rfl) ?_
  refine Lq (q_extract (vs := [_, _, _]) rfl rfl) ?_
  refine Lq (q_assign rfl) ?_
  refine Lq (q_assign rfl) ?_
  refine Lq (q_assign rfl) ?_
  refine WL_nil (thenN ?_)
  refine WC_fr [(7, _), (5, _), (4, _), (2, _), (1, _)] (.cons rfl (.cons rfl (.cons rfl (.cons rfl (.cons rfl (.nil _)))))) ?_
  refine WC_seq (WC_block (WC_seq (WC_region ?_)))
  refine Lq (q_move rfl) ?_
  refine Lq (q_neq rfl rfl) ?_
  refine Lq (q_assign rfl) ?_
  refine WL_nil (thenN ?_)
  refine WC_cond rfl (fun h15 => ?_) (fun h15 => ?_)
  · refine WC_seq (WC_region ?_)
    refine Lq (q_move rfl) ?_
    refine Lq (q_assign rfl) ?_
    refine WL_nil (thenN (WC_ret (blockRet (thenRet ?_))))
    refine ⟨_, [], [], fun Z w hs => .tmp rfl (.nil), ?_, fun Z w hs => hs.out (List.Sublist.cons _ (List.Sublist.refl _)) (fun _ h => h)⟩
    try simp only [Bq0, Bq1, Bq2, Bq3, Bq4, Bq5, Bq6, Bq7, Bq8, Bq9, Bq10, Bq11, Bq12] at *
    exact ⟨congrArg (Value.int .i64) (by unfold insF; first | (simp_all; done) | (simp_all; repeat' split; all_goals omega) | (repeat' split; all_goals first | rfl | omega)), rfl, rfl⟩
  · refine WC_seq (WC_region ?_)
    refine Lq (q_move rfl) ?_
    refine Lq (q_eql rfl rfl) ?_
    refine Lq (q_assign rfl) ?_
    refine WL_nil (thenN ?_)
    refine WC_cond rfl (fun h19 => ?_) (fun h19 => ?_)
    · refine WC_seq (WC_region ?_)
      refine Lq (q_assign rfl) ?_
      refine WL_nil (thenN (WC_ret (blockRet (thenRet ?_))))
      refine ⟨_, [], [], fun Z w hs => .tmp rfl (.nil), ?_, fun Z w hs => hs.out (List.Sublist.cons _ (List.Sublist.refl _)) (fun _ h => h)⟩
      try simp only [Bq0, Bq1, Bq2, Bq3, Bq4, Bq5, Bq6, Bq7, Bq8, Bq9, Bq10, Bq11, Bq12] at *
      exact ⟨congrArg (Value.int .i64) (by unfold insF; first | (simp_all; done) | (simp_all; repeat' split; all_goals omega) | (repeat' split; all_goals first | rfl | omega)), rfl, rfl⟩
    · refine WC_seq (WC_region ?_)
      refine Lq (q_move rfl) ?_
      refine Lq (q_gtr rfl rfl) ?_
      refine Lq (q_assign rfl) ?_
      refine WL_nil (thenN ?_)
      refine WC_fr [(22, _), (5, _), (4, _), (2, _), (1, _)] (.cons rfl (.cons rfl (.cons rfl (.cons rfl (.cons rfl (.nil _)))))) ?_
      refine WC_cond rfl (fun h22 => ?_) (fun h22 => ?_)
      · refine WC_seq (WC_region ?_)
        refine Lq (q_assign rfl) ?_
        refine WL_nil (thenN (WC_ret (blockRet (thenRet ?_))))
        refine ⟨_, [], [], fun Z w hs => .tmp rfl (.nil), ?_, fun Z w hs => hs.out (List.Sublist.cons _ (List.Sublist.refl _)) (fun _ h => h)⟩
        try simp only [Bq0, Bq1, Bq2, Bq3, Bq4, Bq5, Bq6, Bq7, Bq8, Bq9, Bq10, Bq11, Bq12] at *
        exact ⟨congrArg (Value.int .i64) (by unfold insF; first | (simp_all; done) | (simp_all; repeat' split; all_goals omega) | (repeat' split; all_goals first | rfl | omega)), rfl, rfl⟩
      · refine WC_seq (WC_region ?_)
        refine Lq (q_field (o' := 3) Tryd.underlying31 rfl ti3 rfl rfl) ?_
        refine Lq (q_load1 Tryd.underlying3 rfl rfl own0 rfl) ?_
        refine Lq (q_lss rfl rfl) ?_
        refine Lq (q_move rfl) ?_
        refine WL_guard (t := 29) rfl (fun g29 => ?_) (fun g29 => ?_)
        · refine Ln rfl rfl rfl g29 ?_
          refine Ln rfl rfl rfl g29 ?_
          refine Ln rfl rfl rfl g29 ?_
          refine Ln rfl rfl rfl g29 ?_
          refine Lq (q_pickT rfl g29 rfl) ?_
          refine Lq (q_assign rfl) ?_
          refine WL_nil (thenN ?_)
          refine WC_fr [(25, _), (5, _), (4, _), (1, _)] (.cons rfl (.cons rfl (.cons rfl (.cons rfl (.nil _))))) ?_
          refine WC_true rfl rfl (WC_seq (WC_region ?_))
          refine Lq (q_assign rfl) ?_
          refine WL_nil (thenN (WC_ret (blockRet (thenRet ?_))))
          refine ⟨_, [], [], fun Z w hs => .tmp rfl (.nil), ?_, fun Z w hs => hs.out (List.Sublist.cons _ (List.Sublist.refl _)) (fun _ h => h)⟩
          try simp only [Bq0, Bq1, Bq2, Bq3, Bq4, Bq5, Bq6, Bq7, Bq8, Bq9, Bq10, Bq11, Bq12] at *
          exact ⟨congrArg (Value.int .i64) (by unfold insF; first | (simp_all; done) | (simp_all; repeat' split; all_goals omega) | (repeat' split; all_goals first | rfl | omega)), rfl, rfl⟩
        · refine Lg rfl rfl rfl g29 (q_field (o' := 3) Tryd.underlying31 rfl ti3 rfl rfl) ?_
          refine Lg rfl rfl rfl g29 (q_load1 Tryd.underlying3 rfl rfl own0 rfl) ?_
          refine Lg rfl rfl rfl g29 (q_move rfl) ?_
          refine Lg rfl rfl rfl g29 (q_gtr rfl rfl) ?_
          refine Lq (q_pickF rfl g29 rfl) ?_
          refine Lq (q_assign rfl) ?_
          refine WL_nil (thenN ?_)
          refine WC_fr [(25, _), (5, _), (4, _), (1, _)] (.cons rfl (.cons rfl (.cons rfl (.cons rfl (.nil _))))) ?_
          refine WC_cond rfl (fun h25 => ?_) (fun h25 => ?_)
          · refine WC_seq (WC_region ?_)
            refine Lq (q_assign rfl) ?_
            refine WL_nil (thenN (WC_ret (blockRet (thenRet ?_))))
            refine ⟨_, [], [], fun Z w hs => .tmp rfl (.nil), ?_, fun Z w hs => hs.out (List.Sublist.cons _ (List.Sublist.refl _)) (fun _ h => h)⟩
            try simp only [Bq0, Bq1, Bq2, Bq3, Bq4, Bq5, Bq6, Bq7, Bq8, Bq9, Bq10, Bq11, Bq12] at *
            exact ⟨congrArg (Value.int .i64) (by unfold insF; first | (simp_all; done) | (simp_all; repeat' split; all_goals omega) | (repeat' split; all_goals first | rfl | omega)), rfl, rfl⟩
          · refine WC_seq ?_
            have hu := utF_n o.text
            try simp only [Bq0, Bq1, Bq2, Bq3, Bq4, Bq5, Bq6, Bq7, Bq8, Bq9, Bq10, Bq11, Bq12] at *
            refine WC_region ?_
            refine Lq (q_move rfl) ?_
            refine Lq (q_move rfl) ?_
            refine Lq (q_add rfl rfl (wr64 (by omega))) ?_
            refine Lq (q_gtr rfl rfl) ?_
            refine Lq (q_assign rfl) ?_
            refine WL_nil (thenN ?_)
            refine WC_cond rfl (fun h35 => ?_) (fun h35 => ?_)
            · refine WC_seq (WC_region ?_)
              refine Lq (q_assign rfl) ?_
              refine WL_nil (thenN (WC_ret (blockRet (thenRet ?_))))
              refine ⟨_, [], [], fun Z w hs => .tmp rfl (.nil), ?_, fun Z w hs => hs.out (List.Sublist.cons _ (List.Sublist.refl _)) (fun _ h => h)⟩
              try simp only [Bq0, Bq1, Bq2, Bq3, Bq4, Bq5, Bq6, Bq7, Bq8, Bq9, Bq10, Bq11, Bq12] at *
              exact ⟨congrArg (Value.int .i64) (by unfold insF; first | (simp_all; done) | (simp_all; repeat' split; all_goals omega) | (repeat' split; all_goals first | rfl | omega)), rfl, rfl⟩
            · refine WC_skip (blockN (thenN (WC_seq (WC_region ?_))))
              refine Lq (q_assign rfl) ?_
              refine WL_nil (thenN (WC_ret ?_))
              refine ⟨_, [], [], fun Z w hs => .tmp rfl (.nil), ?_, fun Z w hs => hs.out (List.Sublist.cons _ (List.Sublist.refl _)) (fun _ h => h)⟩
              try simp only [Bq0, Bq1, Bq2, Bq3, Bq4, Bq5, Bq6, Bq7, Bq8, Bq9, Bq10, Bq11, Bq12] at *
              exact ⟨congrArg (Value.int .i64) (by unfold insF; first | (simp_all; done) | (simp_all; repeat' split; all_goals omega) | (repeat' split; all_goals first | rfl | omega)), rfl, rfl⟩


set_option maxRecDepth 10000 in
theorem checkRanges_s (A : Option Addr) (c : Nat) (xs : List Rg) (total : Int) (hl : xs.length ≤ 4398046511104) : Sp Tryd.prog 79 [.slice A xs.length c, .int .i64 total] [] [RdF rgD A c xs] (Is (.int .i64 (rangesF xs total))) := by
  refine Sp.of (n := 27) ⟨_, Tryd.func79, rfl, rfl, rfl, rfl⟩ (Nat.le_of_ble_eq_true rfl) fun Ps As => ?_
  refine WC_seq (WC_region ?_)
  refine Lq (q_assign rfl) ?_
  refine WL_nil (thenN (WC_seq (WC_seq (WC_region ?_))))
  refine Lq (q_move rfl) ?_
  refine Lq (q_len Tryd.underlying29 rfl) ?_
  refine Lq (q_eql rfl rfl) ?_
  refine WL_nil (thenN ?_)
  refine WC_cond rfl (fun h9 => ?_) (fun h9 => ?_)
  · refine WC_seq (WC_region ?_)
    refine Lq (q_assign rfl) ?_
    refine WL_nil (thenN (WC_ret (thenRet ?_)))
    refine ⟨_, [], [], fun Z w hs => .tmp rfl (.nil), ?_, fun Z w hs => hs.out (List.Sublist.refl _) (fun _ h => h)⟩
    try simp only [Bq0, Bq1, Bq2, Bq3, Bq4, Bq5, Bq6, Bq7, Bq8, Bq9, Bq10, Bq11, Bq12] at *
    first
      | exact ⟨by rw [rangesF_nil (by omega)]; rfl, rfl, rfl⟩
      | exact ⟨by rw [rangesF_at hk0 (by omega), if_pos (by omega)]; rfl, rfl, rfl⟩
      | exact ⟨by rw [rangesF_at hk0 (by omega), if_neg (by omega)]; rfl, rfl, rfl⟩
      | exact ⟨by rw [rangesF_ck (by omega) (by omega)]; rfl, rfl, rfl⟩
  · refine WC_skip (thenN (WC_seq (WC_seq (WC_region ?_))))
    refine Lq (q_move rfl) ?_
    refine WL_main rfl (OW_call0 (check_s A c xs hl) (.cons rfl (.nil)) (by decide) (memc (.head _) mem0) fun u3_1 Lo fs hres => ?_)
    obtain ⟨rfl, rfl, rfl⟩ := hres
    refine Lq (q_move rfl) ?_
    refine Lq (q_extract (vs := [_, _]) rfl rfl) ?_
    refine Lq (q_extract (vs := [_, _]) rfl rfl) ?_
    refine Lq (q_assign rfl) ?_
    refine Lq (q_assign rfl) ?_
    refine WL_nil (thenN (WC_seq (WC_region ?_)))
    refine Lq (q_move rfl) ?_
    refine Lq (q_neq rfl rfl) ?_
    refine WL_nil (thenN ?_)
    refine WC_fr [(16, _), (6, _), (4, _), (0, _), (1, _)] (.cons rfl (.cons rfl (.cons rfl (.cons rfl (.cons rfl (.nil _)))))) ?_
    refine WC_cond rfl (fun h16 => ?_) (fun h16 => ?_)
    · refine WC_seq (WC_region ?_)
      refine Lq (q_move rfl) ?_
      refine Lq (q_assign rfl) ?_
      refine WL_nil (thenN (WC_ret (thenRet ?_)))
      refine ⟨_, [], [], fun Z w hs => .tmp rfl (.nil), ?_, fun Z w hs => hs.out (List.Sublist.refl _) (fun _ h => h)⟩
      try simp only [Bq0, Bq1, Bq2, Bq3, Bq4, Bq5, Bq6, Bq7, Bq8, Bq9, Bq10, Bq11, Bq12] at *
      first
        | exact ⟨by rw [rangesF_nil (by omega)]; rfl, rfl, rfl⟩
        | exact ⟨by rw [rangesF_at hk0 (by omega), if_pos (by omega)]; rfl, rfl, rfl⟩
        | exact ⟨by rw [rangesF_at hk0 (by omega), if_neg (by omega)]; rfl, rfl, rfl⟩
        | exact ⟨by rw [rangesF_ck (by omega) (by omega)]; rfl, rfl, rfl⟩
    · refine WC_skip (thenN (WC_seq (WC_seq ?_)))
      try simp only [Bq0, Bq1, Bq2, Bq3, Bq4, Bq5, Bq6, Bq7, Bq8, Bq9, Bq10, Bq11, Bq12] at *
      have hk0 : xs.length - 1 < xs.length := by omega
      refine WC_elem (k := (xs.length - 1)) (.head _) (List.getElem?_eq_getElem hk0) (rg_open _) fun b6 q6 y6 e6 => ?_
      cases e6
      refine WC_region ?_
      refine Lq (q_move rfl) ?_
      refine Lq (q_move rfl) ?_
      refine Lq (q_len Tryd.underlying29 rfl) ?_
      refine Lq (q_sub rfl rfl (by rw [wr64 (by omega)]; omega) (c := ((xs.length - 1 : Nat) : Int))) ?_
      refine Lq (q_idxRd Tryd.underlying29 ti37 rfl rfl (by omega) (by omega)) ?_
      refine Lq (q_field (o' := _ + 1) Tryd.underlying37 rfl ti3 rfl rfl) ?_
      refine Lq (q_loadF1 (j := 1) Tryd.underlying3 rfl rfl (.head _) rfl rfl) ?_
      refine Lq (q_move rfl) ?_
      refine Lq (q_gtr rfl rfl) ?_
      refine WL_nil (thenN ?_)
      refine WC_fr [(26, _), (4, _)] (.cons rfl (.cons rfl (.nil _))) ?_
      refine WC_cond rfl (fun h26 => ?_) (fun h26 => ?_)
      · refine WC_seq (WC_region ?_)
        refine Lq (q_assign rfl) ?_
        refine WL_nil (thenN (WC_ret (thenRet ?_)))
        refine ⟨_, [], [], fun Z w hs => .tmp rfl (.nil), ?_, fun Z w hs => hs.out (List.Sublist.refl _) (fun _ h => .tail _ h)⟩
        try simp only [Bq0, Bq1, Bq2, Bq3, Bq4, Bq5, Bq6, Bq7, Bq8, Bq9, Bq10, Bq11, Bq12] at *
        first
          | exact ⟨by rw [rangesF_nil (by omega)]; rfl, rfl, rfl⟩
          | exact ⟨by rw [rangesF_at hk0 (by omega), if_pos (by omega)]; rfl, rfl, rfl⟩
          | exact ⟨by rw [rangesF_at hk0 (by omega), if_neg (by omega)]; rfl, rfl, rfl⟩
          | exact ⟨by rw [rangesF_ck (by omega) (by omega)]; rfl, rfl, rfl⟩
      · refine WC_skip (thenN (WC_seq (WC_region ?_)))
        refine Lq (q_assign rfl) ?_
        refine WL_nil (thenN (WC_ret ?_))
        refine ⟨_, [], [], fun Z w hs => .tmp rfl (.nil), ?_, fun Z w hs => hs.out (List.Sublist.refl _) (fun _ h => .tail _ h)⟩
        try simp only [Bq0, Bq1, Bq2, Bq3, Bq4, Bq5, Bq6, Bq7, Bq8, Bq9, Bq10, Bq11, Bq12] at *
        first
          | exact ⟨by rw [rangesF_nil (by omega)]; rfl, rfl, rfl⟩
          | exact ⟨by rw [rangesF_at hk0 (by omega), if_pos (by omega)]; rfl, rfl, rfl⟩
          | exact ⟨by rw [rangesF_at hk0 (by omega), if_neg (by omega)]; rfl, rfl, rfl⟩
          | exact ⟨by rw [rangesF_ck (by omega) (by omega)]; rfl, rfl, rfl⟩


set_option maxRecDepth 10000 in
theorem opCheck_s (o : GOp) (A : Option Addr) (c : Nat) (total : Int) (hs : o.text.size ≤ 4611686018427387904) (hl : o.rs.length ≤ 4398046511104) : Sp Tryd.prog 60 [opV o A c, .int .i64 total] [] [barF, RdF rgD A c o.rs] (Is (.int .i64 (checkF o total))) := by
  refine Sp.of (n := 65) ⟨_, Tryd.func60, rfl, rfl, rfl, rfl⟩ (Nat.le_of_ble_eq_true rfl) fun Ps As => ?_
  refine WC_seq (WC_region ?_)
  refine WL_main rfl (OW_box (cs := [_, _, _, _, _, _, _, _, _]) rfl rfl (by decide) fun b2 => ?_)
  refine Lq (q_assign rfl) ?_
  refine WL_nil (thenN (WC_seq (WC_block (WC_seq (WC_region ?_)))))
  refine Lq (q_move rfl) ?_
  refine Lq (q_lss rfl rfl) ?_
  refine Lq (q_move rfl) ?_
  refine WL_guard (t := 8) rfl (fun g8 => ?_) (fun g8 => ?_)
  · refine Ln rfl rfl rfl g8 ?_
    refine Ln rfl rfl rfl g8 ?_
    refine Lq (q_pickT rfl g8 rfl) ?_
    refine Lq (q_assign rfl) ?_
    refine WL_nil (thenN (WC_true rfl rfl (WC_seq (WC_region ?_))))
    refine Lq (q_assign rfl) ?_
    refine WL_nil (thenN (WC_ret (blockRet (thenRet ?_))))
    refine ⟨_, [], [], fun Z w hs => .tmp rfl (.nil), ?_, fun Z w hs => hs.out (List.Sublist.cons _ (List.Sublist.refl _)) (fun _ h => h)⟩
    try simp only [Bq0, Bq1, Bq2, Bq3, Bq4, Bq5, Bq6, Bq7, Bq8, Bq9, Bq10, Bq11, Bq12] at *
    exact ⟨congrArg (Value.int .i64) (by unfold checkF rightF; simp_all <;> omega), rfl, rfl⟩
  · refine Lg rfl rfl rfl g8 (q_move rfl) ?_
    refine Lg rfl rfl rfl g8 (q_gtr rfl rfl) ?_
    refine Lq (q_pickF rfl g8 rfl) ?_
    refine Lq (q_assign rfl) ?_
    refine WL_nil (thenN ?_)
    refine WC_cond rfl (fun h5 => ?_) (fun h5 => ?_)
    · refine WC_seq (WC_region ?_)
      refine Lq (q_assign rfl) ?_
      refine WL_nil (thenN (WC_ret (blockRet (thenRet ?_))))
      refine ⟨_, [], [], fun Z w hs => .tmp rfl (.nil), ?_, fun Z w hs => hs.out (List.Sublist.cons _ (List.Sublist.refl _)) (fun _ h => h)⟩
      try simp only [Bq0, Bq1, Bq2, Bq3, Bq4, Bq5, Bq6, Bq7, Bq8, Bq9, Bq10, Bq11, Bq12] at *
      exact ⟨congrArg (Value.int .i64) (by unfold checkF rightF; simp_all <;> omega), rfl, rfl⟩
    · refine WC_seq (WC_region ?_)
      refine Lq (q_field (o' := 0) Tryd.underlying31 rfl ti28 rfl rfl) ?_
      refine Lq (q_field (o' := 2) Tryd.underlying28 rfl ti26 rfl rfl) ?_
      refine Lq (q_load1 Tryd.underlying26 rfl rfl own0 rfl) ?_
      refine Lq (q_lss rfl rfl) ?_
      refine Lq (q_move rfl) ?_
      refine WL_guard (t := 17) rfl (fun g17 => ?_) (fun g17 => ?_)
      · refine Ln rfl rfl rfl g17 ?_
        refine Ln rfl rfl rfl g17 ?_
        refine Ln rfl rfl rfl g17 ?_
        refine Ln rfl rfl rfl g17 ?_
        refine Lq (q_pickT rfl g17 rfl) ?_
        refine Lq (q_assign rfl) ?_
        refine WL_nil (thenN ?_)
        refine WC_fr [(12, _), (4, _), (2, _), (1, _)] (.cons rfl (.cons rfl (.cons rfl (.cons rfl (.nil _))))) ?_
        refine WC_true rfl rfl (WC_seq (WC_region ?_))
        refine Lq (q_assign rfl) ?_
        refine WL_nil (thenN (WC_ret (blockRet (thenRet ?_))))
        refine ⟨_, [], [], fun Z w hs => .tmp rfl (.nil), ?_, fun Z w hs => hs.out (List.Sublist.cons _ (List.Sublist.refl _)) (fun _ h => h)⟩
        try simp only [Bq0, Bq1, Bq2, Bq3, Bq4, Bq5, Bq6, Bq7, Bq8, Bq9, Bq10, Bq11, Bq12] at *
        exact ⟨congrArg (Value.int .i64) (by unfold checkF rightF; simp_all <;> omega), rfl, rfl⟩
      · refine Lg rfl rfl rfl g17 (q_field (o' := 0) Tryd.underlying31 rfl ti28 rfl rfl) ?_
        refine Lg rfl rfl rfl g17 (q_field (o' := 2) Tryd.underlying28 rfl ti26 rfl rfl) ?_
        refine Lg rfl rfl rfl g17 (q_load1 Tryd.underlying26 rfl rfl own0 rfl) ?_
        refine Lg rfl rfl rfl g17 (q_gtr rfl rfl) ?_
        refine Lq (q_pickF rfl g17 rfl) ?_
        refine Lq (q_assign rfl) ?_
        refine WL_nil (thenN ?_)
        refine WC_fr [(12, _), (4, _), (2, _), (1, _)] (.cons rfl (.cons rfl (.cons rfl (.cons rfl (.nil _))))) ?_
        refine WC_cond rfl (fun h12 => ?_) (fun h12 => ?_)
        · refine WC_seq (WC_region ?_)
          refine Lq (q_assign rfl) ?_
          refine WL_nil (thenN (WC_ret (blockRet (thenRet ?_))))
          refine ⟨_, [], [], fun Z w hs => .tmp rfl (.nil), ?_, fun Z w hs => hs.out (List.Sublist.cons _ (List.Sublist.refl _)) (fun _ h => h)⟩
          try simp only [Bq0, Bq1, Bq2, Bq3, Bq4, Bq5, Bq6, Bq7, Bq8, Bq9, Bq10, Bq11, Bq12] at *
          exact ⟨congrArg (Value.int .i64) (by unfold checkF rightF; simp_all <;> omega), rfl, rfl⟩
        · refine WC_seq (WC_region ?_)
          refine Lq (q_field (o' := 0) Tryd.underlying31 rfl ti28 rfl rfl) ?_
          refine Lq (q_field (o' := 0) Tryd.underlying28 rfl ti25 rfl rfl) ?_
          refine Lq (q_loadN (vs := [_, _]) Tryd.underlying25 rfl ti25 rfl own0 rfl rfl) ?_
          refine Lq (q_build (.nil) (bd25Xw8)) ?_
          refine Lq (q_aggneq rfl rfl (eq25 _ _ _ _)) ?_
          refine Lq (q_move rfl) ?_
          refine WL_guard (t := 29) rfl (fun g29 => ?_) (fun g29 => ?_)
          · refine Lg rfl rfl rfl g29 (q_field (o' := 0) Tryd.underlying31 rfl ti28 rfl rfl) ?_
            refine Lg rfl rfl rfl g29 (q_field (o' := 0) Tryd.underlying28 rfl ti25 rfl rfl) ?_
            refine Lg rfl rfl rfl g29 (q_loadN (vs := [_, _]) Tryd.underlying25 rfl ti25 rfl own0 rfl rfl) ?_
            refine WL_gmain rfl rfl rfl g29 (OW_call0 (right_s o.c o.n) (.cons rfl (.nil)) (by decide) mem0 fun u5_9 Lo fs hres => ?_)
            obtain ⟨rfl, rfl, rfl⟩ := hres
            refine Lg rfl rfl rfl g29 (q_not rfl) ?_
            refine Lq (q_pickT rfl g29 rfl) ?_
            refine Lq (q_assign rfl) ?_
            refine WL_nil (thenN ?_)
            refine WC_fr [(23, _), (4, _), (2, _), (1, _)] (.cons rfl (.cons rfl (.cons rfl (.cons rfl (.nil _))))) ?_
            refine WC_cond rfl (fun h23 => ?_) (fun h23 => ?_)
            · refine WC_seq (WC_region ?_)
              refine Lq (q_assign rfl) ?_
              refine WL_nil (thenN (WC_ret (blockRet (thenRet ?_))))
              refine ⟨_, [], [], fun Z w hs => .tmp rfl (.nil), ?_, fun Z w hs => hs.out (List.Sublist.cons _ (List.Sublist.refl _)) (fun _ h => h)⟩
              try simp only [Bq0, Bq1, Bq2, Bq3, Bq4, Bq5, Bq6, Bq7, Bq8, Bq9, Bq10, Bq11, Bq12] at *
              exact ⟨congrArg (Value.int .i64) (by unfold checkF rightF; simp_all <;> omega), rfl, rfl⟩
            · refine WC_seq (WC_region ?_)
              refine Lq (q_loadN (vs := [_, _, _, _, _, _, _, _, _]) Tryd.underlying31 rfl ti31 rfl own0 rfl rfl) ?_
              refine WL_main rfl (OW_call0 (extra_s o A c) (.cons rfl (.nil)) (by decide) mem0 fun u7_1 Lo fs hres => ?_)
              obtain ⟨rfl, rfl, rfl⟩ := hres
              refine Lq (q_assign rfl) ?_
              refine WL_nil (thenN ?_)
              refine WC_cond rfl (fun h36 => ?_) (fun h36 => ?_)
              · refine WC_seq (WC_region ?_)
                refine Lq (q_assign rfl) ?_
                refine WL_nil (thenN (WC_ret (blockRet (thenRet ?_))))
                refine ⟨_, [], [], fun Z w hs => .tmp rfl (.nil), ?_, fun Z w hs => hs.out (List.Sublist.cons _ (List.Sublist.refl _)) (fun _ h => h)⟩
                try simp only [Bq0, Bq1, Bq2, Bq3, Bq4, Bq5, Bq6, Bq7, Bq8, Bq9, Bq10, Bq11, Bq12] at *
                exact ⟨congrArg (Value.int .i64) (by unfold checkF rightF; simp_all <;> omega), rfl, rfl⟩
              · refine WC_skip (blockN (thenN (WC_seq (WC_seq (WC_region ?_)))))
                refine Lq (q_field (o' := 0) Tryd.underlying31 rfl ti28 rfl rfl) ?_
                refine Lq (q_field (o' := 2) Tryd.underlying28 rfl ti26 rfl rfl) ?_
                refine Lq (q_load1 Tryd.underlying26 rfl rfl own0 rfl) ?_
                refine WL_nil (thenN (WC_block (WC_seq (WC_region ?_))))
                refine Lq (q_eql rfl rfl) ?_
                refine Lq (q_assign rfl) ?_
                refine WL_nil (thenN ?_)
                refine WC_cond rfl (fun h42 => ?_) (fun h42 => ?_)
                · refine WC_seq (WC_region ?_)
                  refine Lq (q_loadN (vs := [_, _, _, _, _, _, _, _, _]) Tryd.underlying31 rfl ti31 rfl own0 rfl rfl) ?_
                  refine Lq (q_move rfl) ?_
                  try simp only [Bq0, Bq1, Bq2, Bq3, Bq4, Bq5, Bq6, Bq7, Bq8, Bq9, Bq10, Bq11, Bq12] at *
                  refine WL_main rfl (OW_call0 (checkIns_s o A c total hs ⟨by omega, by omega⟩) (.cons rfl (.cons rfl (.nil))) (by decide) (memc (.head _) mem0) fun u11_2 Lo fs hres => ?_)
                  obtain ⟨rfl, rfl, rfl⟩ := hres
                  refine Lq (q_assign rfl) ?_
                  refine WL_nil (thenN ?_)
                  refine WC_fr [(4, _), (2, _), (1, _)] (.cons rfl (.cons rfl (.cons rfl (.nil _)))) ?_
                  refine WC_ret (blockRet (thenRet ?_))
                  refine ⟨_, [], [], fun Z w hs => .tmp rfl (.nil), ?_, fun Z w hs => hs.out (List.Sublist.cons _ (List.Sublist.refl _)) (fun _ h => h)⟩
                  try simp only [Bq0, Bq1, Bq2, Bq3, Bq4, Bq5, Bq6, Bq7, Bq8, Bq9, Bq10, Bq11, Bq12] at *
                  exact ⟨congrArg (Value.int .i64) (by unfold checkF rightF; simp_all <;> omega), rfl, rfl⟩
                · refine WC_seq (WC_region ?_)
                  refine Lq (q_eql rfl rfl) ?_
                  refine Lq (q_assign rfl) ?_
                  refine WL_nil (thenN ?_)
                  refine WC_fr [(47, _), (4, _), (2, _), (1, _)] (.cons rfl (.cons rfl (.cons rfl (.cons rfl (.nil _))))) ?_
                  refine WC_cond rfl (fun h47 => ?_) (fun h47 => ?_)
                  · refine WC_seq (WC_seq (WC_region ?_))
                    refine Lq (q_field (o' := 6) Tryd.underlying31 rfl ti25 rfl rfl) ?_
                    refine Lq (q_loadN (vs := [_, _]) Tryd.underlying25 rfl ti25 rfl own0 rfl rfl) ?_
                    refine WL_main rfl (OW_call0 (right_s o.tc o.tn) (.cons rfl (.nil)) (by decide) mem0 fun u13_2 Lo fs hres => ?_)
                    obtain ⟨rfl, rfl, rfl⟩ := hres
                    refine Lq (q_not rfl) ?_
                    refine Lq (q_move rfl) ?_
                    refine WL_guard (t := 53) rfl (fun g53 => ?_) (fun g53 => ?_)
                    · refine Ln rfl rfl rfl g53 ?_
                      refine Ln rfl rfl rfl g53 ?_
                      refine Ln rfl rfl rfl g53 ?_
                      refine Ln rfl rfl rfl g53 ?_
                      refine Ln rfl rfl rfl g53 ?_
                      refine Ln rfl rfl rfl g53 ?_
                      refine Lq (q_pickT rfl g53 rfl) ?_
                      refine WL_nil (thenN ?_)
                      refine WC_fr [(60, _), (4, _), (2, _), (1, _)] (.cons rfl (.cons rfl (.cons rfl (.cons rfl (.nil _))))) ?_
                      refine WC_true rfl rfl (WC_seq (WC_region ?_))
                      refine Lq (q_assign rfl) ?_
                      refine WL_nil (thenN (WC_ret (thenRet (blockRet (thenRet ?_)))))
                      refine ⟨_, [], [], fun Z w hs => .tmp rfl (.nil), ?_, fun Z w hs => hs.out (List.Sublist.cons _ (List.Sublist.refl _)) (fun _ h => h)⟩
                      try simp only [Bq0, Bq1, Bq2, Bq3, Bq4, Bq5, Bq6, Bq7, Bq8, Bq9, Bq10, Bq11, Bq12] at *
                      exact ⟨congrArg (Value.int .i64) (by unfold checkF rightF; simp_all <;> omega), rfl, rfl⟩
                    · refine Lg rfl rfl rfl g53 (q_field (o' := 6) Tryd.underlying31 rfl ti25 rfl rfl) ?_
                      refine Lg rfl rfl rfl g53 (q_loadN (vs := [_, _]) Tryd.underlying25 rfl ti25 rfl own0 rfl rfl) ?_
                      refine Lg rfl rfl rfl g53 (q_field (o' := 0) Tryd.underlying31 rfl ti28 rfl rfl) ?_
                      refine Lg rfl rfl rfl g53 (q_field (o' := 0) Tryd.underlying28 rfl ti25 rfl rfl) ?_
                      refine Lg rfl rfl rfl g53 (q_loadN (vs := [_, _]) Tryd.underlying25 rfl ti25 rfl own0 rfl rfl) ?_
                      refine Lg rfl rfl rfl g53 (q_aggeql rfl rfl (eq25 _ _ _ _)) ?_
                      refine Lq (q_pickF rfl g53 rfl) ?_
                      refine WL_nil (thenN ?_)
                      refine WC_fr [(60, _), (4, _), (2, _), (1, _)] (.cons rfl (.cons rfl (.cons rfl (.cons rfl (.nil _))))) ?_
                      refine WC_cond rfl (fun h60 => ?_) (fun h60 => ?_)
                      · refine WC_seq (WC_region ?_)
                        refine Lq (q_assign rfl) ?_
                        refine WL_nil (thenN (WC_ret (thenRet (blockRet (thenRet ?_)))))
                        refine ⟨_, [], [], fun Z w hs => .tmp rfl (.nil), ?_, fun Z w hs => hs.out (List.Sublist.cons _ (List.Sublist.refl _)) (fun _ h => h)⟩
                        try simp only [Bq0, Bq1, Bq2, Bq3, Bq4, Bq5, Bq6, Bq7, Bq8, Bq9, Bq10, Bq11, Bq12] at *
                        exact ⟨congrArg (Value.int .i64) (by unfold checkF rightF; simp_all <;> omega), rfl, rfl⟩
                      · refine WC_skip (thenN (WC_seq (WC_region ?_)))
                        refine Lq (q_assign rfl) ?_
                        refine WL_nil (thenN (WC_ret (blockRet (thenRet ?_))))
                        refine ⟨_, [], [], fun Z w hs => .tmp rfl (.nil), ?_, fun Z w hs => hs.out (List.Sublist.cons _ (List.Sublist.refl _)) (fun _ h => h)⟩
                        try simp only [Bq0, Bq1, Bq2, Bq3, Bq4, Bq5, Bq6, Bq7, Bq8, Bq9, Bq10, Bq11, Bq12] at *
                        exact ⟨congrArg (Value.int .i64) (by unfold checkF rightF; simp_all <;> omega), rfl, rfl⟩
                  · refine WC_skip (blockN (thenN (WC_seq (WC_region ?_))))
                    refine Lq (q_field (o' := 5) Tryd.underlying31 rfl ti29 rfl rfl) ?_
                    refine Lq (q_load1 Tryd.underlying29 rfl rfl own0 rfl) ?_
                    refine Lq (q_move rfl) ?_
                    refine WL_main rfl (OW_call0 (checkRanges_s A c o.rs total hl) (.cons rfl (.cons rfl (.nil))) (by decide) (memc (.tail _ (.head _)) mem0) fun u16_3 Lo fs hres => ?_)
                    obtain ⟨rfl, rfl, rfl⟩ := hres
                    refine Lq (q_assign rfl) ?_
                    refine WL_nil (thenN (WC_ret ?_))
                    refine ⟨_, [], [], fun Z w hs => .tmp rfl (.nil), ?_, fun Z w hs => hs.out (List.Sublist.cons _ (List.Sublist.refl _)) (fun _ h => h)⟩
                    try simp only [Bq0, Bq1, Bq2, Bq3, Bq4, Bq5, Bq6, Bq7, Bq8, Bq9, Bq10, Bq11, Bq12] at *
                    exact ⟨congrArg (Value.int .i64) (by unfold checkF rightF; simp_all <;> omega), rfl, rfl⟩
          · refine Ln rfl rfl rfl g29 ?_
            refine Ln rfl rfl rfl g29 ?_
            refine Ln rfl rfl rfl g29 ?_
            refine Ln rfl rfl rfl g29 ?_
            refine Ln rfl rfl rfl g29 ?_
            refine Lq (q_pickF rfl g29 rfl) ?_
            refine Lq (q_assign rfl) ?_
            refine WL_nil (thenN ?_)
            refine WC_fr [(23, _), (4, _), (2, _), (1, _)] (.cons rfl (.cons rfl (.cons rfl (.cons rfl (.nil _))))) ?_
            refine WC_false rfl rfl (WC_seq (WC_region ?_))
            refine Lq (q_loadN (vs := [_, _, _, _, _, _, _, _, _]) Tryd.underlying31 rfl ti31 rfl own0 rfl rfl) ?_
            refine WL_main rfl (OW_call0 (extra_s o A c) (.cons rfl (.nil)) (by decide) mem0 fun u7_1 Lo fs hres => ?_)
            obtain ⟨rfl, rfl, rfl⟩ := hres
            refine Lq (q_assign rfl) ?_
            refine WL_nil (thenN ?_)
            refine WC_cond rfl (fun h36 => ?_) (fun h36 => ?_)
            · refine WC_seq (WC_region ?_)
              refine Lq (q_assign rfl) ?_
              refine WL_nil (thenN (WC_ret (blockRet (thenRet ?_))))
              refine ⟨_, [], [], fun Z w hs => .tmp rfl (.nil), ?_, fun Z w hs => hs.out (List.Sublist.cons _ (List.Sublist.refl _)) (fun _ h => h)⟩
              try simp only [Bq0, Bq1, Bq2, Bq3, Bq4, Bq5, Bq6, Bq7, Bq8, Bq9, Bq10, Bq11, Bq12] at *
              exact ⟨congrArg (Value.int .i64) (by unfold checkF rightF; simp_all <;> omega), rfl, rfl⟩
            · refine WC_skip (blockN (thenN (WC_seq (WC_seq (WC_region ?_)))))
              refine Lq (q_field (o' := 0) Tryd.underlying31 rfl ti28 rfl rfl) ?_
              refine Lq (q_field (o' := 2) Tryd.underlying28 rfl ti26 rfl rfl) ?_
              refine Lq (q_load1 Tryd.underlying26 rfl rfl own0 rfl) ?_
              refine WL_nil (thenN (WC_block (WC_seq (WC_region ?_))))
              refine Lq (q_eql rfl rfl) ?_
              refine Lq (q_assign rfl) ?_
              refine WL_nil (thenN ?_)
              refine WC_cond rfl (fun h42 => ?_) (fun h42 => ?_)
              · refine WC_seq (WC_region ?_)
                refine Lq (q_loadN (vs := [_, _, _, _, _, _, _, _, _]) Tryd.underlying31 rfl ti31 rfl own0 rfl rfl) ?_
                refine Lq (q_move rfl) ?_
                try simp only [Bq0, Bq1, Bq2, Bq3, Bq4, Bq5, Bq6, Bq7, Bq8, Bq9, Bq10, Bq11, Bq12] at *
                refine WL_main rfl (OW_call0 (checkIns_s o A c total hs ⟨by omega, by omega⟩) (.cons rfl (.cons rfl (.nil))) (by decide) (memc (.head _) mem0) fun u11_2 Lo fs hres => ?_)
                obtain ⟨rfl, rfl, rfl⟩ := hres
                refine Lq (q_assign rfl) ?_
                refine WL_nil (thenN ?_)
                refine WC_fr [(4, _), (2, _), (1, _)] (.cons rfl (.cons rfl (.cons rfl (.nil _)))) ?_
                refine WC_ret (blockRet (thenRet ?_))
                refine ⟨_, [], [], fun Z w hs => .tmp rfl (.nil), ?_, fun Z w hs => hs.out (List.Sublist.cons _ (List.Sublist.refl _)) (fun _ h => h)⟩
                try simp only [Bq0, Bq1, Bq2, Bq3, Bq4, Bq5, Bq6, Bq7, Bq8, Bq9, Bq10, Bq11, Bq12] at *
                exact ⟨congrArg (Value.int .i64) (by unfold checkF rightF; simp_all <;> omega), rfl, rfl⟩
              · refine WC_seq (WC_region ?_)
                refine Lq (q_eql rfl rfl) ?_
                refine Lq (q_assign rfl) ?_
                refine WL_nil (thenN ?_)
                refine WC_fr [(47, _), (4, _), (2, _), (1, _)] (.cons rfl (.cons rfl (.cons rfl (.cons rfl (.nil _))))) ?_
                refine WC_cond rfl (fun h47 => ?_) (fun h47 => ?_)
                · refine WC_seq (WC_seq (WC_region ?_))
                  refine Lq (q_field (o' := 6) Tryd.underlying31 rfl ti25 rfl rfl) ?_
                  refine Lq (q_loadN (vs := [_, _]) Tryd.underlying25 rfl ti25 rfl own0 rfl rfl) ?_
                  refine WL_main rfl (OW_call0 (right_s o.tc o.tn) (.cons rfl (.nil)) (by decide) mem0 fun u13_2 Lo fs hres => ?_)
                  obtain ⟨rfl, rfl, rfl⟩ := hres
                  refine Lq (q_not rfl) ?_
                  refine Lq (q_move rfl) ?_
                  refine WL_guard (t := 53) rfl (fun g53 => ?_) (fun g53 => ?_)
                  · refine Ln rfl rfl rfl g53 ?_
                    refine Ln rfl rfl rfl g53 ?_
                    refine Ln rfl rfl rfl g53 ?_
                    refine Ln rfl rfl rfl g53 ?_
                    refine Ln rfl rfl rfl g53 ?_
                    refine Ln rfl rfl rfl g53 ?_
                    refine Lq (q_pickT rfl g53 rfl) ?_
                    refine WL_nil (thenN ?_)
                    refine WC_fr [(60, _), (4, _), (2, _), (1, _)] (.cons rfl (.cons rfl (.cons rfl (.cons rfl (.nil _))))) ?_
                    refine WC_true rfl rfl (WC_seq (WC_region ?_))
                    refine Lq (q_assign rfl) ?_
                    refine WL_nil (thenN (WC_ret (thenRet (blockRet (thenRet ?_)))))
                    refine ⟨_, [], [], fun Z w hs => .tmp rfl (.nil), ?_, fun Z w hs => hs.out (List.Sublist.cons _ (List.Sublist.refl _)) (fun _ h => h)⟩
                    try simp only [Bq0, Bq1, Bq2, Bq3, Bq4, Bq5, Bq6, Bq7, Bq8, Bq9, Bq10, Bq11, Bq12] at *
                    exact ⟨congrArg (Value.int .i64) (by unfold checkF rightF; simp_all <;> omega), rfl, rfl⟩
                  · refine Lg rfl rfl rfl g53 (q_field (o' := 6) Tryd.underlying31 rfl ti25 rfl rfl) ?_
                    refine Lg rfl rfl rfl g53 (q_loadN (vs := [_, _]) Tryd.underlying25 rfl ti25 rfl own0 rfl rfl) ?_
                    refine Lg rfl rfl rfl g53 (q_field (o' := 0) Tryd.underlying31 rfl ti28 rfl rfl) ?_
                    refine Lg rfl rfl rfl g53 (q_field (o' := 0) Tryd.underlying28 rfl ti25 rfl rfl) ?_
                    refine Lg rfl rfl rfl g53 (q_loadN (vs := [_, _]) Tryd.underlying25 rfl ti25 rfl own0 rfl rfl) ?_
                    refine Lg rfl rfl rfl g53 (q_aggeql rfl rfl (eq25 _ _ _ _)) ?_
                    refine Lq (q_pickF rfl g53 rfl) ?_
                    refine WL_nil (thenN ?_)
                    refine WC_fr [(60, _), (4, _), (2, _), (1, _)] (.cons rfl (.cons rfl (.cons rfl (.cons rfl (.nil _))))) ?_
                    refine WC_cond rfl (fun h60 => ?_) (fun h60 => ?_)
                    · refine WC_seq (WC_region ?_)
                      refine Lq (q_assign rfl) ?_
                      refine WL_nil (thenN (WC_ret (thenRet (blockRet (thenRet ?_)))))
                      refine ⟨_, [], [], fun Z w hs => .tmp rfl (.nil), ?_, fun Z w hs => hs.out (List.Sublist.cons _ (List.Sublist.refl _)) (fun _ h => h)⟩
                      try simp only [Bq0, Bq1, Bq2, Bq3, Bq4, Bq5, Bq6, Bq7, Bq8, Bq9, Bq10, Bq11, Bq12] at *
                      exact ⟨congrArg (Value.int .i64) (by unfold checkF rightF; simp_all <;> omega), rfl, rfl⟩
                    · refine WC_skip (thenN (WC_seq (WC_region ?_)))
                      refine Lq (q_assign rfl) ?_
                      refine WL_nil (thenN (WC_ret (blockRet (thenRet ?_))))
                      refine ⟨_, [], [], fun Z w hs => .tmp rfl (.nil), ?_, fun Z w hs => hs.out (List.Sublist.cons _ (List.Sublist.refl _)) (fun _ h => h)⟩
                      try simp only [Bq0, Bq1, Bq2, Bq3, Bq4, Bq5, Bq6, Bq7, Bq8, Bq9, Bq10, Bq11, Bq12] at *
                      exact ⟨congrArg (Value.int .i64) (by unfold checkF rightF; simp_all <;> omega), rfl, rfl⟩
                · refine WC_skip (blockN (thenN (WC_seq (WC_region ?_))))
                  refine Lq (q_field (o' := 5) Tryd.underlying31 rfl ti29 rfl rfl) ?_
                  refine Lq (q_load1 Tryd.underlying29 rfl rfl own0 rfl) ?_
                  refine Lq (q_move rfl) ?_
                  refine WL_main rfl (OW_call0 (checkRanges_s A c o.rs total hl) (.cons rfl (.cons rfl (.nil))) (by decide) (memc (.tail _ (.head _)) mem0) fun u16_3 Lo fs hres => ?_)
                  obtain ⟨rfl, rfl, rfl⟩ := hres
                  refine Lq (q_assign rfl) ?_
                  refine WL_nil (thenN (WC_ret ?_))
                  refine ⟨_, [], [], fun Z w hs => .tmp rfl (.nil), ?_, fun Z w hs => hs.out (List.Sublist.cons _ (List.Sublist.refl _)) (fun _ h => h)⟩
                  try simp only [Bq0, Bq1, Bq2, Bq3, Bq4, Bq5, Bq6, Bq7, Bq8, Bq9, Bq10, Bq11, Bq12] at *
                  exact ⟨congrArg (Value.int .i64) (by unfold checkF rightF; simp_all <;> omega), rfl, rfl⟩

end Go.Proofs.YtggdddkbhigjoaaDoor
/- Walks: op.Apply. -/
namespace Go.Proofs.YtggdddkbhigjoaaDoor
open Go Go.GW
theorem EffOk.bump {x : GOp} {row : List Ce} (h : EffOk x row) (hb : row.length ≤ 60000) (hr : InR row) : (x.kind = 2 → BuOk x.rs 1 row ∧ x.rs ≠ []) ∧ (x.kind = 3 → BuOk x.rs (-1) row ∧ x.rs ≠ []) := by
  have key : ∀ k : Int, (x.kind = 2 ∧ k = 1) ∨ (x.kind = 3 ∧ k = -1) → BuOk x.rs k row ∧ x.rs ≠ [] := by
    intro k hk
    obtain ⟨h1, h2⟩ := (rangesF_ok (xs := x.rs) (w := row.length) (by omega)).1 ((check_cov (by omega) (by omega)).1 h.ck).2
    refine ⟨⟨h2.ck (by omega), h2.below, fun q c hq hi => ?_⟩, h1⟩
    have hc := hr c (List.mem_of_getElem? hq)
    rcases hk with ⟨hk, rfl⟩ | ⟨hk, rfl⟩
    · have := h.up hk q c hq hi; omega
    · have := h.dn hk q c hq hi; omega
  exact ⟨fun hk => key 1 (.inl ⟨hk, rfl⟩), fun hk => key (-1) (.inr ⟨hk, rfl⟩)⟩

set_option maxRecDepth 10000 in
theorem apply_s (b : Nat) (A Ax : Option Addr) (cx : Nat) (t : Tr) (x : GOp) (wt : Wf t) (hb : t.row.length ≤ 60000) (he : EffOk x t.row) (hs : x.text.size ≤ 1073741824) (hl : x.rs.length ≤ 4398046511104) : Sp Tryd.prog 33 [.pointer (some ⟨b, 0, none⟩), opV x Ax cx] [rpP b A] [barF, TrF A t, RdF rgD Ax cx x.rs] (RpP b (applyRow x t.row)) := by
  obtain ⟨hb2, hb3⟩ := he.bump hb wt.inR
  refine Sp.of (n := 38) ⟨_, Tryd.func33, rfl, rfl, rfl, rfl⟩ (Nat.le_of_ble_eq_true rfl) fun Ps As => ?_
  refine WC_seq (WC_region ?_)
  refine WL_main rfl (OW_box (cs := [_, _, _, _, _, _, _, _, _]) rfl rfl (by decide) fun b3 => ?_)
  refine Lq (q_assign rfl) ?_
  refine WL_nil (thenN (WC_seq (WC_seq (WC_region ?_))))
  refine Lq (q_move rfl) ?_
  refine Lq (q_peql Tryd.underlying55 rfl rfl (by simp)) ?_
  refine WL_nil (thenN (WC_false rfl rfl (WC_skip (thenN (WC_seq (WC_seq ?_))))))
  refine WC_pick (.s (.z)) ?_
  refine WC_draw _ _ [] (.c 0 0 (.c 1 0 (.c 2 2 (.c 3 2 (.c 4 0 .nil))))) mixed (fun _ _ _ _ h => h) (List.Sublist.cons_cons _ (List.Sublist.cons_cons _ (List.Sublist.refl _))) (fun _ h => h) (by kernel_rfl) (by decide) fun ws Z0 => ?_
  refine Qe rfl (q_loadN (vs := [_, _, _, _, _, _, _, _, _]) Tryd.underlying31 rfl ti31 rfl (ownS (own0)) rfl rfl) ?_
  refine Qe rfl (q_move rfl) ?_
  refine WE_main rfl rfl (OW_call1 (rtotal_s b A t wt) (.cons rfl (.nil)) (by decide) (.z) (memc (.tail _ (.tail _ (.head _))) mem0) fun u3_2 Lo fs hres => ?_)
  obtain ⟨rfl, rfl, rfl⟩ := hres
  refine ⟨⟨(List.Sublist.cons_cons _ (List.Sublist.cons_cons _ (List.Sublist.refl _))), (.head _)⟩, ?_⟩
  refine WE_main rfl rfl (OW_call0 (opCheck_s x Ax cx t.row.length (by omega) hl) (.cons rfl (.cons rfl (.nil))) (by decide) (memc (.tail _ (.head _)) (memc (.tail _ (.tail _ (.tail _ (.head _)))) mem0)) fun u3_3 Lo fs hres => ?_)
  obtain ⟨rfl, rfl, rfl⟩ := hres
  refine ⟨⟨(List.Sublist.cons_cons _ (List.Sublist.cons_cons _ (List.Sublist.refl _))), (.head _)⟩, ?_⟩
  refine Qe rfl (q_assign rfl) ?_
  refine WE_end (WF_nil ?_)
  refine thenN (WC_seq (WC_region ?_))
  refine Lq (q_move rfl) ?_
  refine Lq (q_neq rfl rfl) ?_
  refine WL_nil (thenN ?_)
  refine WC_false rfl (by rw [he.ck]; rfl) ?_
  refine WC_skip (thenN (WC_seq (WC_seq (WC_region ?_))))
  refine Lq (q_field (o' := 0) Tryd.underlying31 rfl ti28 rfl rfl) ?_
  refine Lq (q_field (o' := 2) Tryd.underlying28 rfl ti26 rfl rfl) ?_
  refine Lq (q_load1 Tryd.underlying26 rfl rfl (ownS (own0)) rfl) ?_
  refine WL_nil (thenN ?_)
  refine WC_fr [(17, _), (4, _), (3, _), (0, _)] (.cons rfl (.cons rfl (.cons rfl (.cons rfl (.nil _))))) ?_
  refine WC_block (WC_seq (WC_region ?_))
  refine Lq (q_eql rfl rfl) ?_
  refine Lq (q_assign rfl) ?_
  refine WL_nil (thenN ?_)
  refine WC_cond rfl (fun h18 => ?_) (fun h18 => ?_)
  · have hk : x.kind = 1 := by simpa using h18
    obtain ⟨hu, hn, hat, hw⟩ := insF_ok.1 ((check_ins hk (by omega)).1 he.ck).2
    have hru := utF_runes hu
    refine WC_seq (WC_region ?_)
    refine Lq (q_move rfl) ?_
    refine Lq (q_field (o' := 3) Tryd.underlying31 rfl ti3 rfl rfl) ?_
    refine Lq (q_load1 Tryd.underlying3 rfl rfl (ownS (own0)) rfl) ?_
    refine Lq (q_field (o' := 4) Tryd.underlying31 rfl ti9 rfl rfl) ?_
    refine Lq (q_load1 Tryd.underlying9 rfl rfl (ownS (own0)) rfl) ?_
    refine WL_main rfl (OW_call1 (rinsert_s b A t x.at_ x.text 0 wt hat hs hu (by omega) (by omega) (by omega)) (.cons rfl (.cons rfl (.cons rfl (.cons rfl (.nil))))) (by decide) (.z) (memc (.tail _ (.head _)) (memc (.tail _ (.tail _ (.head _))) mem0)) fun u8_5 Lo fs hres => ?_)
    obtain ⟨A2, t2, rfl, rfl, rfl, wt2, r2⟩ := hres
    refine Lq (q_assign rfl) ?_
    refine WL_nil (thenN (WC_ret (blockRet (thenRet ?_))))
    refine ⟨_, [_], [_], fun Z w hs => .tmp rfl (.nil), ?_, fun Z w hs => hs.out (List.Sublist.cons_cons _ (List.Sublist.cons _ (List.Sublist.refl _))) (memc (.head _) (fun _ h => .tail _ (.tail _ h)))⟩
    exact ⟨_, _, rfl, rfl, rfl, wt2, by rw [r2]; unfold applyRow; rw [if_pos hk]⟩
  · refine WC_seq (WC_region ?_)
    refine Lq (q_eql rfl rfl) ?_
    refine Lq (q_assign rfl) ?_
    refine WL_nil (thenN ?_)
    refine WC_cond rfl (fun h26 => ?_) (fun h26 => ?_)
    · have hk : x.kind = 2 := by simpa using h26
      refine WC_seq (WC_region ?_)
      refine Lq (q_move rfl) ?_
      refine Lq (q_field (o' := 5) Tryd.underlying31 rfl ti29 rfl rfl) ?_
      refine Lq (q_load1 Tryd.underlying29 rfl rfl (ownS (own0)) rfl) ?_
      refine WL_main rfl (OW_call1 (bumpUp_s b A Ax cx t x.rs wt (by omega) (hb2 hk).1 (hb2 hk).2) (.cons rfl (.cons rfl (.cons rfl (.nil)))) (by decide) (.z) (memc (.tail _ (.tail _ (.head _))) (memc (.tail _ (.tail _ (.tail _ (.head _)))) mem0)) fun u10_3 Lo fs hres => ?_)
      obtain ⟨A2, t2, rfl, rfl, rfl, wt2, r2⟩ := hres
      refine Lq (q_assign rfl) ?_
      refine WL_nil (thenN (WC_ret (blockRet (thenRet ?_))))
      refine ⟨_, [_], [_], fun Z w hs => .tmp rfl (.nil), ?_, fun Z w hs => hs.out (List.Sublist.cons_cons _ (List.Sublist.cons _ (List.Sublist.refl _))) (memc (.head _) (fun _ h => .tail _ (.tail _ h)))⟩
      exact ⟨_, _, rfl, rfl, rfl, wt2, by rw [r2]; unfold applyRow; rw [if_neg (by omega), if_pos hk]⟩
    · refine WC_seq (WC_region ?_)
      refine Lq (q_eql rfl rfl) ?_
      refine Lq (q_assign rfl) ?_
      refine WL_nil (thenN ?_)
      refine WC_cond rfl (fun h32 => ?_) (fun h32 => ?_)
      · have hk : x.kind = 3 := by simpa using h32
        refine WC_seq (WC_region ?_)
        refine Lq (q_move rfl) ?_
        refine Lq (q_field (o' := 5) Tryd.underlying31 rfl ti29 rfl rfl) ?_
        refine Lq (q_load1 Tryd.underlying29 rfl rfl (ownS (own0)) rfl) ?_
        refine WL_main rfl (OW_call1 (bumpDn_s b A Ax cx t x.rs wt (by omega) (hb3 hk).1 (hb3 hk).2) (.cons rfl (.cons rfl (.cons rfl (.nil)))) (by decide) (.z) (memc (.tail _ (.tail _ (.head _))) (memc (.tail _ (.tail _ (.tail _ (.head _)))) mem0)) fun u12_3 Lo fs hres => ?_)
        obtain ⟨A2, t2, rfl, rfl, rfl, wt2, r2⟩ := hres
        refine Lq (q_assign rfl) ?_
        refine WL_nil (thenN ?_)
        refine WC_fr [(4, _)] (.cons rfl (.nil _)) ?_
        refine WC_ret (blockRet (thenRet ?_))
        refine ⟨_, [_], [_], fun Z w hs => .tmp rfl (.nil), ?_, fun Z w hs => hs.out (List.Sublist.cons_cons _ (List.Sublist.cons _ (List.Sublist.refl _))) (memc (.head _) (fun _ h => .tail _ (.tail _ h)))⟩
        exact ⟨_, _, rfl, rfl, rfl, wt2, by rw [r2]; unfold applyRow; rw [if_neg (by omega), if_neg (by omega), if_pos hk]⟩
      · exfalso
        have := he.kind
        simp at h18 h26 h32
        omega

end Go.Proofs.YtggdddkbhigjoaaDoor
/- Plain texts of the statements: words' runes; what Check says of them. -/
namespace Go.Proofs.YtggdddkbhigjoaaDoor
open Go Go.GW
def mkB (l : List UInt8) : ByteArray := ⟨l.toArray⟩
theorem mkB_size (l : List UInt8) : (mkB l).size = l.length := by simp [mkB, ByteArray.size]
theorem mkB_get (a b : List UInt8) (k : Nat) (h : k < b.length) : (mkB (a ++ b)).get! (a.length + k) = b[k] := by
  have hlt : a.length + k < (a ++ b).length := by simp; omega
  show (a ++ b).toArray[a.length + k]! = b[k]
  rw [List.getElem!_toArray, getElem!_pos (a ++ b) (a.length + k) hlt, List.getElem_append_right (by omega)]
  congr 1; omega
theorem mkB_append (a b : List UInt8) : mkB a ++ mkB b = mkB (a ++ b) := ByteArray.mk_append_mk a b
theorem decode_wide (a b : List UInt8) : Utf8.decode (mkB (a ++ ([0xE2, 0x82, 0xAC] ++ b))) a.length = (8364, 3) := by
  have g : ∀ k (h : k < ([0xE2, 0x82, 0xAC] ++ b : List UInt8).length), (mkB (a ++ ([0xE2, 0x82, 0xAC] ++ b))).get! (a.length + k) = ([0xE2, 0x82, 0xAC] ++ b : List UInt8)[k] := fun k h => mkB_get a _ k h
  have g0 := g 0 (by simp)
  have g1 := g 1 (by simp)
  have g2 := g 2 (by simp)
  have s : (mkB (a ++ ([0xE2, 0x82, 0xAC] ++ b))).size = a.length + (3 + b.length) := by rw [mkB_size]; simp; omega
  have e0 : ([0xE2, 0x82, 0xAC] ++ b : List UInt8)[0]'(by simp) = 0xE2 := rfl
  have e1 : ([0xE2, 0x82, 0xAC] ++ b : List UInt8)[1]'(by simp) = 0x82 := rfl
  have e2 : ([0xE2, 0x82, 0xAC] ++ b : List UInt8)[2]'(by simp) = 0xAC := rfl
  rw [e0] at g0; rw [e1] at g1; rw [e2] at g2
  unfold Utf8.decode
  simp only [g0, g1, g2, s]
  have h1 : a.length + 1 < a.length + (3 + b.length) := by omega
  have h2 : a.length + 2 < a.length + (3 + b.length) := by omega
  simp only [h1, h2, decide_true, Bool.true_and, show (0xE2 : UInt8).toNat = 226 from rfl, show (0x82 : UInt8).toNat = 130 from rfl, show (0xAC : UInt8).toNat = 172 from rfl]
  rw [if_neg (by decide), if_neg (by decide), if_pos (by decide), if_pos (by decide)]
theorem decode_one (a b : List UInt8) (c : UInt8) (hc : c.toNat < 128) : Utf8.decode (mkB (a ++ ([c] ++ b))) a.length = (c.toNat, 1) := by
  have g0 := mkB_get a ([c] ++ b) 0 (by simp)
  have e0 : ([c] ++ b : List UInt8)[0]'(by simp) = c := rfl
  rw [e0] at g0
  unfold Utf8.decode
  simp only [g0]
  rw [if_pos hc]
theorem letF_wide : letF 8364 = true := by decide
theorem letF_low {c : Int} (h1 : 97 ≤ c) (h2 : c ≤ 122) : letF c = true := by
  unfold letF barL
  simp only [List.all_cons, List.all_nil, Bool.and_true, Bool.and_eq_true, Bool.not_eq_true', Bool.and_eq_false_iff, decide_eq_false_iff_not, decide_eq_true_eq]
  omega
end Go.Proofs.YtggdddkbhigjoaaDoor
