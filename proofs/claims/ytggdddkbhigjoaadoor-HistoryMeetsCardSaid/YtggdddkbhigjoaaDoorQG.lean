/- 'redraft/redraftlaw06.HistoryMeets' answers true, whatever its arguments and the world in which it is called: on every schedule and every choice; what is handed in reads as_ it did. Its condition: the table of package utext holds what its initialiser lays (the card ties that to the program's text). -/
import Derived.Test.YtggdddkbhigjoaaDoorTie
import Derived.Test.YtggdddkbhigjoaaDoorQF
set_option linter.unusedVariables false
set_option linter.unusedSimpArgs false
/- Walks: Text. -/
namespace Go.Proofs.YtggdddkbhigjoaaDoor
open Go Go.GW
theorem vbs_ne {X : List Ce} (h : 0 < visN X) : vbs X ≠ [] := fun e => by
  unfold vbs at e
  rw [← visF_length] at h
  obtain ⟨r, rs, hr⟩ := List.exists_cons_of_ne_nil (List.length_pos_iff.1 h)
  rw [hr, List.flatMap_cons] at e
  have := encI_len r
  have e2 := (List.append_eq_nil_iff.1 e).1
  rw [e2] at this
  simp at this
theorem txCb (bF bL bS bB F : Nat) (R : List Ce) (hF : Fst R F) (hR : R.length ≤ 1048576) : CbF 109 [.pointer (some ⟨bF, 0, none⟩), .pointer (some ⟨bL, 0, none⟩), .pointer (some ⟨bS, 0, none⟩)] (TxI bF bL bS bB F R) (TxJ bF bL bS bB F R) R F := by
  rintro X q rs hid A c ⟨ad, v, p, hs, rfl⟩ hne hh hp hlo
  have hpl := hp.length_le
  rw [List.length_append, cellsOf_length] at hpl
  rcases Int.lt_or_eq_of_le hh with h | h
  · refine (btw_h bF bL bS bB F ((visN R : Int) - visN X) ad v p X.length rs hid A c h).flat.mono ?_
    rintro u Lo fs ⟨Lo', ⟨rfl, rfl, rfl⟩, rfl⟩
    have hz := cells_hid rs (show hid ≠ 0 by omega)
    refine ⟨rfl, _, rfl, .inl ⟨rfl, ad, v, p, ?_, ?_⟩⟩
    · have e : vbs (X ++ cellsOf rs hid) = vbs X := by rw [vbs_append]; unfold vbs; rw [visF_hid hz]; simp
      rw [e]; exact hs
    · rw [visN_append, visN_hid hz, Nat.add_zero]
  · subst h
    have hx := hF.vis hne hp
    have hv : visN (X ++ cellsOf rs 0) = visN X + rs.length := by rw [visN_append, ← visF_length (cellsOf rs 0), visF_cells]
    have hvp := visN_pre hp
    have hvR := visN_le R
    have hbl := vbs_len X
    refine (btw_v bF bL bS bB F ((visN R : Int) - visN X) (vbs X) ad v p hs (by omega) X.length rs A c hx (by omega) (by omega) (by omega) (by omega)).flat.mono ?_
    rintro u Lo fs ⟨Lo', ⟨rfl, rfl, ad', v', p', hs', rfl⟩, rfl⟩
    have e : vbs (X ++ cellsOf rs 0) = vbs X ++ rs.flatMap encI := by rw [vbs_append]; unfold vbs; rw [visF_cells]
    refine ⟨rfl, _, rfl, ?_⟩
    by_cases hl : (visN R : Int) - visN X - rs.length > 0
    · refine .inl ⟨by rw [decide_eq_true hl], ad', v', p', by rw [e]; exact hs', ?_⟩
      rw [hv, show (visN R : Int) - ((visN X + rs.length : Nat) : Int) = (visN R : Int) - visN X - rs.length from by omega]
    · refine .inr ⟨by rw [decide_eq_false hl], _, ad', v', p', ?_, rfl⟩
      have e2 : vbs R = vbs (X ++ cellsOf rs 0) := by unfold vbs; rw [visF_full hp (by omega)]
      rw [e2, e]; exact hs'
theorem txI_nil (bF bL bS bB F : Nat) (R : List Ce) : TxI bF bL bS bB F R [] (txtL bF bL bS bB F (visN R) none (.slice none 0 0) []).flatten :=
  ⟨none, _, [], ⟨.inl rfl, Row.nil _ _⟩, by rw [show visN [] = 0 from rfl]; simp⟩
theorem txSkip (bF bL bS bB F : Nat) (R : List Ce) (hF : Fst R F) : ∀ X Y q, TxI bF bL bS bB F R X q → X ++ Y <+: R → (X ++ Y).length ≤ F → TxI bF bL bS bB F R (X ++ Y) q := by
  rintro X Y q ⟨ad, v, p, hs, rfl⟩ hp hl
  have h1 := hF.skip hp hl
  have h2 := hF.skip ((List.prefix_append X Y).trans hp) (by rw [List.length_append] at hl; omega)
  refine ⟨ad, v, p, ?_, ?_⟩
  · have e : vbs (X ++ Y) = vbs X := by unfold vbs; rw [h1, h2]
    rw [e]; exact hs
  · have e : visN (X ++ Y) = visN X := by rw [← visF_length, ← visF_length, h1, h2]
    rw [e]
theorem q_sliceData0 {P : Program} {l : Fr} {Ps : List Part} {As : List Fact} {d : Option Tmp} {ty : TypeId} {pos : String} {aft : Array Edge} {g : Option (Nat × Bool)} {T : TypeId} {x : Operand} {m c : Nat} (hx : evs l x = some (.slice none m c)) : QR P l Ps As ⟨d, .call ⟨.builtin .unsafeSliceData, #[x], #[T]⟩, ty, pos, aft, g⟩ (.pointer none) := fun Z w ρ hs hρ => by
  simp only [execOp, resolve, invoke, List.map_toArray, List.map_cons, List.map_nil, hρ _ _ hx, Sem.run_bind, Sem.run_pure, Result.andThen_ok]
  show ((do pure (Next.value (← Builtin.unsafeSliceData_ #[T] ty #[.slice none m c])) : Sem Next)).run P w = _
  rw [Sem.run_bind, Lib.run_unsafeSliceData_nil]; rfl
theorem q_unsafeString0 {P : Program} {l : Fr} {Ps : List Part} {As : List Fact} {d : Option Tmp} {ty : TypeId} {pos : String} {aft : Array Edge} {g : Option (Nat × Bool)} {pt it : TypeId} {x y : Operand} {p : Option Addr} (hx : evs l x = some (.pointer p)) (hy : evs l y = some (.int .i64 0)) : QR P l Ps As ⟨d, .call ⟨.builtin .unsafeString, #[x, y], #[pt, it]⟩, ty, pos, aft, g⟩ (.string .empty) := fun Z w ρ hs hρ => by
  simp only [execOp, resolve, invoke, List.map_toArray, List.map_cons, List.map_nil, hρ _ _ hx, hρ _ _ hy, Sem.run_bind, Sem.run_pure, Result.andThen_ok]
  show ((do pure (Next.value (← Builtin.unsafeString_ #[pt, it] ty #[.pointer p, .int .i64 0])) : Sem Next)).run P w = _
  rw [Sem.run_bind, Lib.run_unsafeString_none]; rfl

set_option maxRecDepth 10000 in
theorem bstr_0 (b : Nat) (ad : Option Addr) : Sp Tryd.prog 53 [.pointer (some ⟨b, 0, none⟩)] [blP b ad (.slice none 0 0)] [] (fun u Lo fs => u = .string .empty ∧ Lo = [blP b ad (.slice none 0 0)] ∧ fs = []) := by
  refine Sp.of (n := 14) ⟨_, Tryd.func53, rfl, rfl, rfl, rfl⟩ (Nat.le_of_ble_eq_true rfl) fun Ps As => WC_seq (WC_region (Lq (q_assign rfl) (WL_nil (thenN (WC_seq (WC_draw _ _ [] (.c 0 0 (.c 1 0 (.c 2 0 (.c 3 0 (.c 4 0 (.c 5 0 (.c 6 0 (.c 7 0 (.c 8 0 (.c 9 0 (.c 10 2 (.c 11 0 .nil)))))))))))) mixed (fun _ _ _ _ h => h) (List.Sublist.cons_cons _ (List.Sublist.refl _)) (fun _ h => h) (by kernel_rfl) (by decide) fun ws Z0 => Qe rfl (q_move rfl) (Qe rfl (q_nil rfl) (Qe rfl (q_field (o' := 1) Tryd.underlying124 rfl ti122 rfl rfl) (Qe rfl (q_load1 Tryd.underlying122 rfl rfl own0 rfl) (Qe rfl (q_sliceData0 rfl) ?_))))))))))
  refine Qe rfl (q_move rfl) (Qe rfl (q_nil rfl) (Qe rfl (q_field (o' := 1) Tryd.underlying124 rfl ti122 rfl rfl) (Qe rfl (q_load1 Tryd.underlying122 rfl rfl own0 rfl) (Qe rfl (q_len Tryd.underlying122 rfl) (WE_main rfl rfl (OW_quiet (q_unsafeString0 rfl rfl) (by decide) ?_))))))
  refine ⟨⟨(List.Sublist.cons_cons _ (List.Sublist.refl _)), (.head _)⟩, ?_⟩
  refine Qe rfl (q_assign rfl) (WE_end (WF_nil (thenN (WC_ret ?_))))
  refine ⟨_, [_], [], fun Z w hs => .tmp rfl (.nil), ?_, fun Z w hs => hs.out (List.Sublist.cons_cons _ (List.Sublist.refl _)) (fun _ h => .tail _ h)⟩
  exact ⟨rfl, rfl, rfl⟩


set_option maxRecDepth 10000 in
theorem between_0 (b bB : Nat) : Sp Tryd.prog 102 [.pointer (some ⟨b, 0, none⟩), .int .i64 0, .int .i64 0, clT bB] [] [] (Is (.tuple #[])) := by
  refine Sp.of (n := 30) ⟨_, Tryd.func102, rfl, rfl, rfl, rfl⟩ (Nat.le_of_ble_eq_true rfl) fun Ps As => WC_seq (WC_region (WL_main rfl (OW_box (cs := [_]) rfl rfl (by decide) fun b7 => WL_nil (thenN (WC_seq (WC_seq (WC_region (Lq (q_move rfl) (Lq (q_move rfl) (Lq (q_eql rfl rfl) (WL_nil (thenN (WC_true rfl rfl (WC_ret (thenRet ?_)))))))))))))))
  refine ⟨_, [], [], fun Z w hs => .nil, ?_, fun Z w hs => hs.out (List.Sublist.cons _ (List.Sublist.refl _)) (fun _ h => h)⟩
  exact ⟨rfl, rfl, rfl⟩


set_option maxRecDepth 10000 in
theorem between_1 (b : Nat) (A : Option Addr) (t : Tr) (wt : Wf t) (hb : t.row.length ≤ 1048576) (h0 : 0 < visN t.row) (bB : Nat) : Sp Tryd.prog 102 [.pointer (some ⟨b, 0, none⟩), .int .i64 0, .int .i64 (visN t.row : Nat), clT bB] [rpP b A, blP bB none (.slice none 0 0), []] [TrF A t] (fun u Lo fs => u = .tuple #[] ∧ fs = [] ∧ ∃ q bF bL bS F left ad v p, TxS bB (vbs t.row) ad v p ∧ q = (txtL bF bL bS bB F left ad v p).flatten ∧ Lo = [rpP b A, q]) := by
  refine Sp.of (n := 30) ⟨_, Tryd.func102, rfl, rfl, rfl, rfl⟩ (Nat.le_of_ble_eq_true rfl) fun Ps As => WC_seq (WC_region (WL_main rfl (OW_box (cs := [_]) rfl rfl (by decide) fun b7 => WL_nil (thenN (WC_seq (WC_seq (WC_region (Lq (q_move rfl) (Lq (q_move rfl) (Lq (q_eql rfl rfl) (WL_nil (thenN (WC_false rfl (by simp; omega) (WC_skip (thenN (WC_seq (WC_region ?_)))))))))))))))))
  refine Lq (q_move rfl) (Lq (q_move rfl) (WL_main rfl (OW_call1 (totalOf_s b A t wt hb h0) (.cons rfl (.cons rfl (.nil))) (by decide) (.s (.z)) (memc (.head _) mem0) fun u2_2 Lo fs hres => ?_)))
  obtain ⟨F, hF, rfl, rfl, rfl⟩ := hres
  have hFle := hF.le
  have hvl := visN_le t.row
  refine Lq (q_move rfl) (Lq (q_extract (vs := [_, _]) rfl rfl) (Lq (q_extract (vs := [_, _]) rfl rfl) (WL_main rfl (OW_alloc (cs := [_]) ti3 rfl (by decide) fun b8 => WL_main rfl (OW_store1 ti3 rfl rfl rfl (.z) (.z) (Lq (q_assign rfl) (WL_nil (thenN (WC_seq (WC_region (Lq (q_move rfl) (Lq (q_move rfl) (Lq (q_sub rfl rfl (wr64 (by omega)) (c := ((visN t.row : Nat) : Int))) ?_)))))))))))))
  refine WL_main rfl (OW_alloc (cs := [_]) ti3 rfl (by decide) fun b10 => WL_main rfl (OW_store1 ti3 rfl rfl rfl (.z) (.z) (WL_nil (thenN (WC_pick (.s (.s (.s (.s (.s (.z)))))) (WC_pick (.s (.s (.s (.s (.s (.z)))))) (WC_pick (.s (.s (.s (.s (.s (.z)))))) (WC_pick (.s (.s (.s (.z)))) (WC_pick (.s (.s (.s (.s (.z))))) (WC_draw _ _ [] (.c 0 0 (.c 1 0 (.c 2 0 (.c 3 0 (.c 5 0 (.c 4 2 (.c 6 2 .nil))))))) mixed (fun _ _ _ _ h => h) (List.Sublist.cons _ (List.Sublist.cons _ (List.Sublist.cons _ (List.Sublist.cons _ (List.Sublist.cons _ (List.Sublist.cons_cons _ (List.Sublist.refl _))))))) (fun _ h => h) (by kernel_rfl) (by decide) fun ws Z0 => Qe rfl (q_move rfl) ?_))))))))))
  refine Qe rfl (q_nil rfl) (Qe rfl (q_field (o' := 0) Tryd.underlying115 rfl ti113 rfl rfl) (Qe rfl (q_load1 Tryd.underlying113 rfl rfl own0 rfl) (Qe rfl (q_func (.cons rfl (.cons rfl (.cons rfl (.nil))))) (WE_main rfl rfl (OW_quiet (q_load1 Tryd.underlying3 rfl rfl own0 rfl) (by decide) ?_)))))
  refine ⟨⟨(List.Sublist.cons _ (List.Sublist.cons _ (List.Sublist.cons _ (List.Sublist.cons _ (List.Sublist.cons _ (List.Sublist.cons_cons _ (List.Sublist.refl _))))))), (.head _)⟩, ?_⟩
  refine WE_main rfl rfl (OW_callP (walk_f 109 _ _ _ t.row F hb hFle (txCb b8 b10 b7 bB F t.row hF hb) (txSkip b8 b10 b7 bB F t.row hF) t.size A t [] _ wt (Nat.le_refl _) (List.prefix_refl _) (txI_nil b8 b10 b7 bB F t.row)) (.cons rfl (.cons rfl (.cons rfl (.cons rfl .nil)))) (by decide) (List.Perm.refl _) (memc (.tail _ (.head _)) mem0) fun u4 Lo fs hres => ?_)
  obtain ⟨rfl, q1, rfl, hv⟩ := hres
  refine ⟨⟨(List.Sublist.cons _ (List.Sublist.cons _ (List.Sublist.cons_cons _ (List.Sublist.refl _)))), (.head _)⟩, ?_⟩
  refine WE_end (WF_nil ?_)
  refine ⟨_, [_, _], [], fun Z w hs => .nil, ?_, fun Z w hs => ((hs.pick (.z)).pick (.s (.s (.z)))).out (List.Sublist.cons_cons _ (List.Sublist.cons_cons _ (List.Sublist.cons _ (List.Sublist.refl _)))) (fun _ h => .tail _ h)⟩
  refine ⟨rfl, rfl, ?_⟩
  rcases hv with ⟨_, ad, v, p, hs, rfl⟩ | ⟨_, left, ad, v, p, hs, rfl⟩
  · exact ⟨_, b8, b10, b7, F, _, ad, v, p, hs, rfl, rfl⟩
  · exact ⟨_, b8, b10, b7, F, left, ad, v, p, hs, rfl, rfl⟩


set_option maxRecDepth 10000 in
theorem slice_0 (b : Nat) (A : Option Addr) (t : Tr) (wt : Wf t) (hb : t.row.length ≤ 1048576) (h0 : visN t.row = 0) : Sp Tryd.prog 87 [.pointer (some ⟨b, 0, none⟩), .int .i64 0, .int .i64 (visN t.row : Nat)] [rpP b A] [TrF A t] (fun u Lo fs => u = .tuple #[.string (textF t.row), .int .i64 0] ∧ Lo = [rpP b A] ∧ fs = []) := by
  refine Sp.of (n := 28) ⟨_, Tryd.func87, rfl, rfl, rfl, rfl⟩ (Nat.le_of_ble_eq_true rfl) fun Ps As => WC_seq (WC_region (Lq (q_assign rfl) (Lq (q_assign rfl) (WL_nil (thenN (WC_seq (WC_seq (WC_region (Lq (q_move rfl) (Lq (q_lss rfl rfl) (Lq (q_move rfl) (Lg rfl rfl rfl rfl (q_move rfl) (Lg rfl rfl rfl rfl (q_move rfl) ?_)))))))))))))
  refine Lg rfl rfl rfl rfl (q_gtr rfl rfl) (Lq (q_pickF rfl rfl rfl) (Lq (q_move rfl) (Lg rfl rfl rfl (by simp) (q_move rfl) (Lg rfl rfl rfl (by simp) (q_move rfl) (WL_gmain rfl rfl rfl (by simp) (OW_call1 (rshown_s b A t wt) (.cons rfl (.nil)) (by decide) (.z) (memc (.head _) mem0) fun u1_10 Lo fs hres => ?_))))))
  obtain ⟨rfl, rfl, rfl⟩ := hres
  refine Lg rfl rfl rfl (by simp) (q_gtr rfl rfl) (Lq (q_pickF rfl (by simp) rfl) (WL_nil (thenN (WC_false rfl (by simp) (WC_skip (thenN (WC_seq (WC_region (WL_main rfl (OW_alloc (cs := [_, _]) ti124 rfl (by decide) fun b8 => WL_nil (thenN (WC_seq ?_))))))))))))
  rw [h0]
  refine WC_region (Lq (q_move rfl) (Lq (q_move rfl) (Lq (q_move rfl) (Lq (q_func (.cons rfl (.nil))) (WL_main rfl (OW_call0 (between_0 b b8) (.cons rfl (.cons rfl (.cons rfl (.cons rfl (.nil))))) (by decide) mem0 fun u4_4 Lo fs hres => ?_))))))
  obtain ⟨rfl, rfl, rfl⟩ := hres
  refine WL_nil (thenN (WC_seq (WC_region (WL_main rfl (OW_call1 (bstr_0 b8 none) (.cons rfl (.nil)) (by decide) (.z) mem0 fun u5_0 Lo fs hres => ?_)))))
  obtain ⟨rfl, rfl, rfl⟩ := hres
  refine Lq (q_assign rfl) (Lq (q_assign rfl) (WL_nil (thenN (WC_ret ?_))))
  refine ⟨_, [_], [], fun Z w hs => .tmp rfl (.tmp rfl (.nil)), ?_, fun Z w hs => hs.out (List.Sublist.cons _ (List.Sublist.cons_cons _ (List.Sublist.refl _))) (fun _ h => h)⟩
  have e : textF t.row = .empty := by
    have hz : visF t.row = [] := List.length_eq_zero_iff.1 (by rw [visF_length]; exact h0)
    unfold textF vbs; rw [hz]; rfl
  rw [e]; exact ⟨rfl, rfl, rfl⟩


set_option maxRecDepth 10000 in
theorem slice_1 (b : Nat) (A : Option Addr) (t : Tr) (wt : Wf t) (hb : t.row.length ≤ 1048576) (h0 : 0 < visN t.row) : Sp Tryd.prog 87 [.pointer (some ⟨b, 0, none⟩), .int .i64 0, .int .i64 (visN t.row : Nat)] [rpP b A] [TrF A t] (fun u Lo fs => u = .tuple #[.string (textF t.row), .int .i64 0] ∧ Lo = [rpP b A] ∧ fs = []) := by
  refine Sp.of (n := 28) ⟨_, Tryd.func87, rfl, rfl, rfl, rfl⟩ (Nat.le_of_ble_eq_true rfl) fun Ps As => WC_seq (WC_region (Lq (q_assign rfl) (Lq (q_assign rfl) (WL_nil (thenN (WC_seq (WC_seq (WC_region (Lq (q_move rfl) (Lq (q_lss rfl rfl) (Lq (q_move rfl) (Lg rfl rfl rfl rfl (q_move rfl) (Lg rfl rfl rfl rfl (q_move rfl) ?_)))))))))))))
  refine Lg rfl rfl rfl rfl (q_gtr rfl rfl) (Lq (q_pickF rfl rfl rfl) (Lq (q_move rfl) (Lg rfl rfl rfl (by simp) (q_move rfl) (Lg rfl rfl rfl (by simp) (q_move rfl) (WL_gmain rfl rfl rfl (by simp) (OW_call1 (rshown_s b A t wt) (.cons rfl (.nil)) (by decide) (.z) (memc (.head _) mem0) fun u1_10 Lo fs hres => ?_))))))
  obtain ⟨rfl, rfl, rfl⟩ := hres
  refine Lg rfl rfl rfl (by simp) (q_gtr rfl rfl) (Lq (q_pickF rfl (by simp) rfl) (WL_nil (thenN (WC_false rfl (by simp) (WC_skip (thenN (WC_seq (WC_region (WL_main rfl (OW_alloc (cs := [_, _]) ti124 rfl (by decide) fun b8 => WL_nil (thenN (WC_seq (WC_nilPart (WC_pick (.z) (WC_pick (.s (.z)) ?_)))))))))))))))
  refine WC_pick (.s (.s (.z))) (WC_region (Lq (q_move rfl) (Lq (q_move rfl) (Lq (q_move rfl) (Lq (q_func (.cons rfl (.nil))) (WL_main rfl (OW_callP (between_1 b A t wt hb h0 b8) (.cons rfl (.cons rfl (.cons rfl (.cons rfl (.nil))))) (by decide) (List.Perm.refl _) (memc (.head _) mem0) fun u4_4 Lo fs hres => ?_)))))))
  obtain ⟨rfl, rfl, q1, bF, bL, bS, F, left, ad, v, p, hs, hq1, rfl⟩ := hres
  refine WL_nil (thenN (WC_seq (WC_pick (.s (.z)) ?_)))
  subst hq1
  refine WC_unflat (Qs := txtL bF bL bS b8 F left ad v p) (WC_region (WL_main rfl (OW_call2 (bstr_s b8 ad v (vbs t.row) p hs.row (by have := vbs_len t.row; omega) (vbs_by _) (vbs_ne h0)) (.cons rfl (.nil)) (by decide) (.s (.s (.s (.z)))) (.s (.s (.s (.z)))) mem0 fun u5_0 Lo fs hres => ?_)))
  obtain ⟨rfl, rfl, rfl⟩ := hres
  refine Lq (q_assign rfl) (Lq (q_assign rfl) (WL_nil (thenN (WC_ret ?_))))
  refine ⟨_, [_], [], fun Z w hs => .tmp rfl (.tmp rfl (.nil)), ?_, fun Z w hs => hs.out (List.Sublist.cons _ (List.Sublist.cons _ (List.Sublist.cons _ (List.Sublist.cons _ (List.Sublist.cons_cons _ (List.Sublist.refl _)))))) (fun _ h => h)⟩
  exact ⟨rfl, rfl, rfl⟩

theorem slice_s (b : Nat) (A : Option Addr) (t : Tr) (wt : Wf t) (hb : t.row.length ≤ 1048576) : Sp Tryd.prog 87 [.pointer (some ⟨b, 0, none⟩), .int .i64 0, .int .i64 (visN t.row : Nat)] [rpP b A] [TrF A t] (fun u Lo fs => u = .tuple #[.string (textF t.row), .int .i64 0] ∧ Lo = [rpP b A] ∧ fs = []) := by
  rcases Nat.eq_zero_or_pos (visN t.row) with h | h
  · exact slice_0 b A t wt hb h
  · exact slice_1 b A t wt hb h

set_option maxRecDepth 10000 in
theorem text_s (b : Nat) (A : Option Addr) (t : Tr) (wt : Wf t) (hb : t.row.length ≤ 1048576) : Sp Tryd.prog 65 [.pointer (some ⟨b, 0, none⟩)] [rpP b A] [TrF A t] (fun u Lo fs => u = .string (textF t.row) ∧ Lo = [rpP b A] ∧ fs = []) := by
  refine Sp.of (n := 13) ⟨_, Tryd.func65, rfl, rfl, rfl, rfl⟩ (Nat.le_of_ble_eq_true rfl) fun Ps As => WC_seq (WC_region (Lq (q_assign rfl) (WL_nil (thenN (WC_seq (WC_region (Lq (q_move rfl) (Lq (q_move rfl) (WL_main rfl (OW_call1 (rshown_s b A t wt) (.cons rfl (.nil)) (by decide) (.z) (memc (.head _) mem0) fun u1_2 Lo fs hres => ?_))))))))))
  obtain ⟨rfl, rfl, rfl⟩ := hres
  refine WL_main rfl (OW_call1 (slice_s b A t wt hb) (.cons rfl (.cons rfl (.cons rfl (.nil)))) (by decide) (.z) (memc (.head _) mem0) fun u1_3 Lo fs hres => ?_)
  obtain ⟨rfl, rfl, rfl⟩ := hres
  refine Lq (q_move rfl) (Lq (q_extract (vs := [_, _]) rfl rfl) (Lq (q_extract (vs := [_, _]) rfl rfl) (Lq (q_assign rfl) (Lq (q_assign rfl) (WL_nil (thenN (WC_seq (WC_region (Lq (q_move rfl) (Lq (q_assign rfl) (WL_nil (thenN (WC_ret ?_)))))))))))))
  refine ⟨_, [_], [], fun Z w hs => .tmp rfl (.nil), ?_, fun Z w hs => hs.out (List.Sublist.cons_cons _ (List.Sublist.refl _)) (fun _ h => h)⟩
  exact ⟨rfl, rfl, rfl⟩

end Go.Proofs.YtggdddkbhigjoaaDoor
/- Walks: entries. -/
namespace Go.Proofs.YtggdddkbhigjoaaDoor
open Go Go.GW
def enD : De GEn where
  sz := 7
  rep Z w e cs := ∃ A c, cs = enC e A c ∧ RdS rgD Z w A c e.rs
  len h := by obtain ⟨A, c, rfl, _⟩ := h; rfl
  one h := by obtain ⟨A, c, rfl, _⟩ := h; rfl
  stable hz hh h1 h2 h3 h := by
    obtain ⟨A, c, g1, g2⟩ := h
    exact ⟨A, c, g1, (RdF rgD A c _).stable hz hh h1 h2 h3 g2⟩
theorem en_open (u : GEn) : ∀ Z w cs, enD.rep Z w u cs → ∃ y : Option Addr × Nat, cs = enC u y.1 y.2 ∧ ∀ B ∈ [RdF rgD y.1 y.2 u.rs], B.holds Z w := fun _ _ _ h => by
  obtain ⟨A, c, h1, h2⟩ := h
  exact ⟨(A, c), h1, fun B hB => by simp only [List.mem_singleton] at hB; subst hB; exact h2⟩
def ensL (H : Hist) : List GEn := H.ents.map entE
theorem ensL_len (H : Hist) : (ensL H).length = H.ents.length := by simp [ensL]
theorem ensL_at {H : Hist} {k : Nat} (h : k < H.ents.length) : (ensL H)[k]'(by rw [ensL_len]; exact h) = entE H.ents[k] := by simp [ensL]

set_option maxRecDepth 10000 in
theorem entries_s (h m cap : Nat) (A : Option Addr) (H : Hist) (L : List MR) (hr : HR H L) (hb : H.ents.length ≤ 1000000) : Sp Tryd.prog 25 [.pointer (some ⟨h, 0, none⟩)] [hdP h A H.ops.length cap m H.total, mpP m L, mkP L] [RdF opD A cap H.ops, AllF L nowF] (fun v Lo fs => ∃ A' c', v = .tuple #[.slice A' H.ents.length c', .bool true] ∧ Lo = [hdP h A H.ops.length cap m H.total, mpP m L, mkP L] ∧ fs = [RdF enD A' c' (ensL H)]) := by
  have hol := ops_len H
  refine Sp.of (n := 27) ⟨_, Tryd.func25, rfl, rfl, rfl, rfl⟩ (Nat.le_of_ble_eq_true rfl) fun Ps As => WC_seq (WC_region (Lq (q_assign rfl) (Lq (q_assign rfl) (WL_nil (thenN (WC_seq (WC_region (Lq (q_assign rfl) (WL_nil (thenN (WC_seq (WC_seq (WC_region (Lq (q_assign rfl) (WL_nil (thenN (WC_block (WC_fact (A := RepsF enD ((ensL H).take 0) []) (fun Z w hs => Reps.nil) ?_))))))))))))))))))
  refine WC_nilPart ?_
  refine WC_loopE (α := Nat × Value × Part × List (List Value)) (fun (k, v, p, css) => H.ents.length - k)
    (fun (k, v, p, css) => [(0, .pointer (some ⟨h, 0, none⟩)), (4, v), (5, .int .i64 k)])
    (fun (k, v, p, css) => (p :: hdP h A H.ops.length cap m H.total :: mpP m L :: mkP L :: Ps))
    (fun (k, v, p, css) => (RepsF enD ((ensL H).take k) css :: RdF opD A cap H.ops :: AllF L nowF :: As))
    (fun (k, v, p, css) => k ≤ H.ents.length ∧ Row 42 7 v k css.flatten p)
    (0, .slice none 0 0, [], []) ?_ (.cons rfl (.cons rfl (.cons rfl (.nil _)))) (List.Sublist.cons_cons _ (List.Sublist.cons_cons _ (List.Sublist.cons_cons _ (List.Sublist.cons_cons _ (List.Sublist.refl _))))) (fun _ h => h) ?_
  · exact ⟨Nat.zero_le _, Row.nil _ _⟩
  · rintro ⟨k, v, p, css⟩ hI
    have hle : k ≤ H.ents.length := hI.1
    refine WC_seq (WC_seq (WC_region (Lq (q_move rfl) (Lq (q_move rfl) (WL_main rfl (OW_call1 (hlen_s h m H.ops.length cap A H.total) (.cons rfl (.nil)) (by decide) (.s (.z)) mem0 fun u3_2 Lo fs hres => ?_))))))
    obtain ⟨rfl, rfl, rfl⟩ := hres
    refine Lq (q_lss rfl rfl) (WL_nil (thenN (WC_cond rfl (fun h11 => ?_) (fun h11 => ?_))))
    · refine WC_skip (thenN (WC_seq (WC_block (WC_seq ?_))))
      try simp only [Bp, Bq] at *
      have hk : k < H.ents.length := by omega
      refine WC_region (Lq (q_move rfl) (Lq (q_move rfl) (WL_main rfl (OW_call3 (entry_s h m cap A H L hr k) (.cons rfl (.cons rfl (.nil))) (by decide) (.z) (.s (.z)) (.s (.z)) (memc (.tail _ (.head _)) (memc (.tail _ (.tail _ (.head _))) mem0)) fun u5_2 Lo fs hres => ?_))))
      obtain ⟨Ae, ce, rfl, rfl, rfl⟩ := hres
      rw [entryF_at hk]
      dsimp only
      refine Lq (q_move rfl) (Lq (q_extract (vs := [_, _]) rfl rfl) (Lq (q_extract (vs := [_, _]) rfl rfl) (WL_main rfl (OW_alloc (cs := [_, _, _, _, _, _, _]) ti42 rfl (by decide) fun b6 => WL_main rfl (OW_storeN (cs' := [_, _, _, _, _, _, _]) (vs := [_, _, _, _, _, _, _]) ti42 rfl rfl rfl rfl rfl (Nat.le_of_ble_eq_true rfl) (.z) (Lq (q_assign rfl) (WL_nil (thenN (WC_seq (WC_seq (WC_region (Lq (q_move rfl) (Lq (q_neq rfl rfl) (WL_nil (thenN (WC_false rfl rfl (WC_skip (thenN ?_))))))))))))))))))
      refine WC_repsAdd (e := enD) (u := entE H.ents[k]) (cs := enC (entE H.ents[k]) Ae ce) (.tail _ (.head _)) (fun Z w hs => ⟨Ae, ce, rfl, hs.facts _ (.head _)⟩) (show (ensL H).take (k + 1) = (ensL H).take k ++ [entE H.ents[k]] from by rw [List.take_succ_eq_append_getElem (by rw [ensL_len]; exact hk), ensL_at hk]) (WC_region (Lq (q_move rfl) (Lq (q_loadN (vs := [_, _, _, _, _, _, _]) Tryd.underlying42 rfl ti42 rfl own0 rfl rfl) (WL_main rfl (OW_slice1 (cs := [_, _, _, _, _, _, _]) Tryd.underlying70 ti42 (by decide) (by decide) rfl rfl rfl rfl (by decide) fun b24 => WL_main rfl (OW_append1 (news := [_, _, _, _, _, _, _]) Tryd.underlying70 ti42 rfl (by decide) rfl rfl hI.2 own0 rfl rfl (by omega) (by unfold maxLen; omega) (by decide) (DelAt.perm (.s (.s (.s (.s (.s (.z))))))) fun v25 p25 hr25 => Lq (q_assign rfl) (WL_nil (blockN (thenN (WC_region (Lq (q_move rfl) ?_)))))))))))
      refine Lq (q_add rfl rfl (wr64 (by omega)) (c := ((k + 1 : Nat) : Int))) (Lq (q_assign rfl) (WL_nil (thenK ?_)))
      refine ⟨(k + 1, v25, p25, css ++ [enC (entE H.ents[k]) Ae ce]), ?_, (.cons rfl (.cons rfl (.cons rfl (.nil _)))), (List.Sublist.cons_cons _ (List.Sublist.cons _ (List.Sublist.cons _ (List.Sublist.cons_cons _ (List.Sublist.cons_cons _ (List.Sublist.cons_cons _ (List.Sublist.refl _))))))), (memc (.head _) (fun _ h => .tail _ (.tail _ (.tail _ h))))⟩
      refine ⟨by show H.ents.length - (k + 1) < H.ents.length - k; omega, by show k + 1 ≤ H.ents.length; omega, ?_⟩
      rw [List.flatten_append, show [enC (entE H.ents[k]) Ae ce].flatten = enC (entE H.ents[k]) Ae ce from by simp]
      exact hr25
    · refine WC_exit (thenExit (thenExit (blockHit (thenN (WC_seq ?_)))))
      try simp only [Bp, Bq] at *
      have hI1 : k ≤ H.ents.length := hI.1
      obtain rfl : k = H.ents.length := by omega
      refine WC_freeze (e := enD) (css := css) (xs := (ensL H).take H.ents.length) hI.2 (.s (.z)) (by rw [List.take_of_length_le (by rw [ensL_len]; omega), ensL_len]) (.head _) fun Ao co eo => ?_
      subst eo
      rw [List.take_of_length_le (by rw [ensL_len]; omega)]
      refine WC_region (Lq (q_move rfl) (Lq (q_assign rfl) (Lq (q_assign rfl) (WL_nil (thenN (WC_ret ?_))))))
      refine ⟨_, [_, _, _], [_], fun Z w hs => .tmp rfl (.tmp rfl (.nil)), ?_, fun Z w hs => hs.out (List.Sublist.cons_cons _ (List.Sublist.cons_cons _ (List.Sublist.cons_cons _ (List.Sublist.refl _)))) (memc (.head _) (fun _ h => .tail _ (.tail _ h)))⟩
      exact ⟨Ao, co, by rw [ensL_len]; rfl, rfl, rfl⟩

end Go.Proofs.YtggdddkbhigjoaaDoor
/- Walks: rope.Runs. -/
namespace Go.Proofs.YtggdddkbhigjoaaDoor
open Go Go.GW
theorem runCb (bB bR bH bF : Nat) : CbOk 56 [.pointer (some ⟨bH, 0, none⟩), .pointer (some ⟨bF, 0, none⟩), .pointer (some ⟨bB, 0, none⟩)] (RunI bB bR bH bF) 2097152 := by
  rintro X q x rs hid A c ⟨ad, v, p, rv, rp, hs, rfl⟩ hne hl
  have h := (rcb_s bB bR bH bF (rowF X) ad v p rv rp hs X.length (rowF_ok X) (by omega) x rs hid A c (by omega)).flat
  refine h.mono ?_
  rintro u Lo fs ⟨Lo', ⟨rfl, rfl, ad', v', p', rv', rp', hs', rfl⟩, rfl⟩
  refine ⟨rfl, rfl, _, rfl, ad', v', p', rv', rp', ?_, ?_⟩
  · rw [rowF_piece X hid hne]; exact hs'
  · rw [rowF_piece X hid hne, pieceF_hid]
theorem runI_nil (bB bR bH bF : Nat) : RunI bB bR bH bF [] [blP bB none (.slice none 0 0), [], rcP bR (.slice none 0 0), [], hcP bH 0, fcP bF bB bR bH].flatten :=
  ⟨none, _, [], _, [], ⟨.inl rfl, Row.nil _ _, Row.nil _ _⟩, rfl⟩

set_option maxRecDepth 10000 in
theorem runs_s (b : Nat) (A : Option Addr) (t : Tr) (wt : Wf t) (hb : t.row.length ≤ 1048576) : Sp Tryd.prog 31 [.pointer (some ⟨b, 0, none⟩)] [rpP b A] [TrF A t] (fun v Lo fs => ∃ A' c', v = .slice A' (runsF t.row).length c' ∧ Lo = [rpP b A] ∧ fs = [RdF runD A' c' (runsF t.row)]) := by
  refine Sp.of (n := 17) ⟨_, Tryd.func31, rfl, rfl, rfl, rfl⟩ (Nat.le_of_ble_eq_true rfl) fun Ps As => WC_seq (WC_region (Lq (q_assign rfl) (WL_nil (thenN (WC_seq (WC_region (WL_main rfl (OW_alloc (cs := [_]) ti84 rfl (by decide) fun b3 => WL_nil (thenN (WC_seq (WC_region (WL_main rfl (OW_alloc (cs := [_, _]) ti124 rfl (by decide) fun b4 => WL_nil (thenN (WC_seq (WC_region (WL_main rfl (OW_alloc (cs := [_]) ti3 rfl (by decide) fun b5 => WL_main rfl (OW_store1 ti3 rfl rfl rfl (.z) (.z) ?_)))))))))))))))))))
  refine WL_nil (thenN (WC_seq (WC_region (Lq (q_func (.cons rfl (.cons rfl (.cons rfl (.nil))))) (WL_main rfl (OW_alloc (cs := [_]) ti1 rfl (by decide) fun b6 => WL_main rfl (OW_store1 ti1 rfl rfl rfl (.z) (.z) (WL_nil (thenN (WC_seq (WC_pick (.z) (WC_pick (.s (.z)) (WC_pick (.s (.s (.s (.z)))) (WC_pick (.s (.s (.s (.z)))) (WC_nilPart ?_)))))))))))))))
  refine WC_nilPart (WC_pick (.s (.s (.s (.s (.s (.z)))))) (WC_pick (.s (.s (.s (.s (.s (.z)))))) (WC_pick (.s (.s (.z))) (WC_pick (.s (.s (.s (.s (.s (.z)))))) (WC_pick (.s (.s (.s (.s (.z))))) (WC_pick (.s (.s (.s (.s (.s (.z)))))) (WC_flat (Qs := [blP b4 none (.slice none 0 0), [], rcP b3 (.slice none 0 0), [], hcP b5 0, fcP b6 b4 b3 b5]) (WC_region (Lq (q_move rfl) ?_)))))))))
  refine Lq (q_nil rfl) (Lq (q_field (o' := 0) Tryd.underlying115 rfl ti113 rfl rfl) (Lq (q_load1 Tryd.underlying113 rfl rfl (ownS (own0)) rfl) (Lq (q_func (.cons rfl (.cons rfl (.cons rfl (.nil))))) (WL_main rfl (OW_call1 (walk_n 56 _ _ 2097152 (by omega) (runCb b4 b3 b5 b6) t.size A t [] _ wt (Nat.le_refl _) (by simp; omega) (runI_nil b4 b3 b5 b6)) (.cons rfl (.cons rfl (.cons rfl (.cons rfl (.nil))))) (by decide) (.z) (memc (.head _) mem0) fun u5_5 Lo fs hres => ?_)))))
  obtain ⟨rfl, rfl, q1, rfl, hI1⟩ := hres
  refine WL_nil (thenN (WC_seq ?_))
  obtain ⟨ad, v, p, rv, rpp, hs, rfl⟩ := hI1
  refine WC_unflat (Qs := [blP b4 ad v, p, rcP b3 rv, rpp, hcP b5 (rowF ([] ++ t.row)).hid, fcP b6 b4 b3 b5]) ?_
  simp only [List.cons_append, List.nil_append] at hs ⊢
  have hB := rowF_ok t.row
  refine WC_region (Lq (q_load1 Tryd.underlying1 rfl rfl (ownS (ownS (ownS (ownS (ownS (own0)))))) rfl) (WL_main rfl (OW_callV (caps := [_, _, _]) rfl (flush_s b4 b3 b5 (rowF t.row) ad v p rv rpp hs hB.by_ (by have := hB.bl; omega) (by have := hB.rl; omega)) .nil (by decide) (List.Perm.refl _) mem0 fun u6 Lo fs hres => ?_)))
  obtain ⟨rfl, rfl, rv2, rp2, hr2, rfl⟩ := hres
  refine WL_nil (thenN (WC_seq ?_))
  obtain ⟨Ar, cr, rfl⟩ := hr2.slice
  refine WC_fact (A := RepsF runD (runsF t.row) ((runsF t.row).map runC)) (fun Z w _ => reps_of (fun _ _ _ => rfl) _ Z w) (WC_freeze (e := runD) (xs := (runsF t.row)) (css := ((runsF t.row).map runC)) hr2 (.s (.s (.z))) rfl (.head _) fun A9 c9 e9 => ?_)
  cases e9
  refine WC_region (Lq (q_load1 Tryd.underlying84 rfl rfl (ownS (own0)) rfl) (Lq (q_assign rfl) (WL_nil (thenN (WC_ret ?_)))))
  refine ⟨_, [_], [_], fun Z w hs => .tmp rfl (.nil), ?_, fun Z w hs => hs.out (List.Sublist.cons _ (List.Sublist.cons _ (List.Sublist.cons _ (List.Sublist.cons _ (List.Sublist.cons_cons _ (List.Sublist.refl _)))))) (memc (.head _) (fun _ h => .tail _ (.tail _ h)))⟩
  exact ⟨_, _, rfl, rfl, rfl⟩

end Go.Proofs.YtggdddkbhigjoaaDoor
/- Walks: eqRuns. -/
namespace Go.Proofs.YtggdddkbhigjoaaDoor
open Go Go.GW
theorem eq127 (x0 : ByteArray) (x1 : Int) (y0 : ByteArray) (y1 : Int) : EqT Tryd.prog 127 [.string x0, .int .i64 x1].toArray [.string y0, .int .i64 y1].toArray ((x0 == y0) && ((x1 == y1) && true)) := EqD.eqT (D := 2) (EqD.struct (D := 0) (l := [(9, 0), (3, 1)]) (by kernel_rfl) (by kernel_rfl) (by kernel_rfl) (.str Tryd.underlying9 rfl rfl (.int Tryd.underlying3 rfl rfl .nil))) (by decide) (by kernel_rfl)
theorem bytes_beq {s t : ByteArray} : (s == t) = true ↔ s = t := by
  rw [beq_toListBytes, ByteArray.toList_eq, ByteArray.toList_eq]
  obtain ⟨⟨x⟩⟩ := s
  obtain ⟨⟨y⟩⟩ := t
  simp

set_option maxRecDepth 10000 in
theorem eqRuns_s (A B : Option Addr) (c d : Nat) (xs ys : List Rn) (hl : xs.length ≤ 4398046511104) : Sp Tryd.prog 35 [.slice A xs.length c, .slice B ys.length d] [] [RdF runD A c xs, RdF runD B d ys] (Is (.bool (decide (xs = ys)))) := by
  refine Sp.of (n := 26) ⟨_, Tryd.func35, rfl, rfl, rfl, rfl⟩ (Nat.le_of_ble_eq_true rfl) fun Ps As => WC_seq (WC_region (Lq (q_assign rfl) (WL_nil (thenN (WC_seq (WC_seq (WC_region (Lq (q_move rfl) (Lq (q_len Tryd.underlying84 rfl) (Lq (q_move rfl) (Lq (q_len Tryd.underlying84 rfl) (Lq (q_neq rfl rfl) (WL_nil (thenN ?_))))))))))))))
  refine WC_cond rfl (fun h10 => ?_) (fun h10 => ?_)
  · refine WC_seq (WC_region (Lq (q_assign rfl) (WL_nil (thenN (WC_ret (thenRet ?_))))))
    refine ⟨_, [], [], fun Z w hs => .tmp rfl (.nil), ?_, fun Z w hs => hs.out (List.Sublist.refl _) (fun _ h => h)⟩
    refine ⟨congrArg Value.bool (decide_eq_false fun e => ?_).symm, rfl, rfl⟩
    rw [e] at h10; simp at h10
  · refine WC_skip (thenN (WC_seq (WC_seq (WC_region (Lq (q_assign rfl) (WL_nil (thenN (WC_block ?_))))))))
    refine WC_loopE (α := Nat) (fun k => xs.length - k)
      (fun k => [(0, .slice A xs.length c), (1, .slice B ys.length d), (5, .int .i64 k)])
      (fun k => Ps)
      (fun k => (RdF runD A c xs :: RdF runD B d ys :: As))
      (fun k => k ≤ xs.length ∧ xs.length = ys.length ∧ xs.take k = ys.take k)
      0 ?_ (.cons rfl (.cons rfl (.cons rfl (.nil _)))) (List.Sublist.refl _) (fun _ h => h) ?_
    · try simp only [Bp, Bq] at *
      exact ⟨Nat.zero_le _, by omega, rfl⟩
    · rintro k hI
      have hle := hI.1
      have hxy := hI.2.1
      have htk := hI.2.2
      refine WC_seq (WC_seq (WC_region (Lq (q_move rfl) (Lq (q_move rfl) (Lq (q_len Tryd.underlying84 rfl) (Lq (q_lss rfl rfl) (WL_nil (thenN (WC_cond rfl (fun h14 => ?_) (fun h14 => ?_))))))))))
      · refine WC_skip (thenN (WC_seq (WC_block (WC_seq ?_))))
        try simp only [Bp, Bq] at *
        have hk1 : k < xs.length := by omega
        have hk2 : k < ys.length := by omega
        refine WC_elem (k := k) (.head _) (List.getElem?_eq_getElem hk1) (run_open _) fun b1 q1 y1 e1 => ?_
        cases e1
        refine WC_elem (k := k) (.tail _ (.tail _ (.head _))) (List.getElem?_eq_getElem hk2) (run_open _) fun b2 q2 y2 e2 => ?_
        cases e2
        refine WC_draw _ _ [] (.c 0 0 (.c 1 0 (.c 2 0 (.c 3 0 (.c 4 0 (.c 5 0 (.c 6 0 (.c 7 0 (.c 8 0 .nil))))))))) mixed (fun _ _ _ _ h => h) (List.Sublist.refl _) (fun _ h => h) (by kernel_rfl) (by decide) fun ws Z0 => Qe rfl (q_move rfl) (Qe rfl (q_move rfl) (Qe rfl (q_idxRd Tryd.underlying84 ti127 rfl rfl (by omega) (by omega)) (Qe rfl (q_loadFN (k := 0) (vs := [_, _]) Tryd.underlying127 rfl ti127 rfl (.tail _ (.head _)) rfl rfl rfl) (Qe rfl (q_move rfl) (Qe rfl (q_move rfl) (Qe rfl (q_idxRd Tryd.underlying84 ti127 rfl rfl (by omega) (by omega)) (Qe rfl (q_loadFN (k := 0) (vs := [_, _]) Tryd.underlying127 rfl ti127 rfl (.head _) rfl rfl rfl) (Qe rfl (q_aggneq rfl rfl (eq127 _ _ _ _)) ?_))))))))
        refine WE_end (WF_nil (thenN (WC_cond rfl (fun h25 => ?_) (fun h25 => ?_))))
        · refine WC_seq (WC_region (Lq (q_assign rfl) (WL_nil (thenN (WC_ret (blockRet (thenRet (thenRet (blockRet (thenRet ?_))))))))))
          refine ⟨_, [], [], fun Z w hs => .tmp rfl (.nil), ?_, fun Z w hs => hs.out (List.Sublist.refl _) (fun _ h => .tail _ (.tail _ (.tail _ h)))⟩
          refine ⟨congrArg Value.bool (decide_eq_false fun e => ?_).symm, rfl, rfl⟩
          subst e
          have hs : ∀ s : ByteArray, (s == s) = true := fun s => bytes_beq.2 rfl
          simp [hs] at h25
        · refine WC_skip (blockN (thenN (WC_region (Lq (q_move rfl) (Lq (q_add rfl rfl (wr64 (by omega)) (c := ((k + 1 : Nat) : Int))) (Lq (q_assign rfl) (WL_nil (thenK ?_))))))))
          refine ⟨k + 1, ?_, (.cons rfl (.cons rfl (.cons rfl (.nil _)))), (List.Sublist.refl _), (fun _ h => .tail _ (.tail _ (.tail _ h)))⟩
          refine ⟨by omega, by omega, hxy, ?_⟩
          rw [List.take_succ_eq_append_getElem hk1, List.take_succ_eq_append_getElem hk2, htk]
          congr 2
          simp only [Bool.not_eq_false', Bool.and_eq_true, beq_iff_eq, bytes_beq] at h25
          exact Prod.ext h25.1 h25.2.1
      · refine WC_exit (thenExit (thenExit (blockHit (thenN (WC_seq (WC_region (Lq (q_assign rfl) (WL_nil (thenN (WC_ret ?_))))))))))
        refine ⟨_, [], [], fun Z w hs => .tmp rfl (.nil), ?_, fun Z w hs => hs.out (List.Sublist.refl _) (fun _ h => h)⟩
        refine ⟨congrArg Value.bool (decide_eq_true ?_).symm, rfl, rfl⟩
        simp only [decide_eq_false_iff_not] at h14
        have h1 : xs.take k = xs := List.take_of_length_le (by omega)
        have h2 : ys.take k = ys := List.take_of_length_le (by omega)
        rw [← h1, ← h2]; exact htk

end Go.Proofs.YtggdddkbhigjoaaDoor
/- HistoryCarries, plain: what a command that comes to a place does to the later ones. -/
namespace Go.Proofs.YtggdddkbhigjoaaDoor
open Go Go.GW
structure Car (H : Hist) (n i : Nat) (o : GOp) (H2 : Hist) (eff t : GOp) (later : List GOp) : Prop where
  cross : crossF [o] (H.ops.drop i) = ([t], later, 0)
  ahead : H2.ops.take i = H.ops.take i
  one : (H2.ops.take (i + 1)).drop i = [o]
  rest : (H2.ops.take (n + 1)).drop (i + 1) = later
  len : later.length = n - i
  kind : o.kind ≠ 4 → eff.kind = o.kind
  at_ : o.kind ≠ 4 → eff.at_ = t.at_
  text : o.kind ≠ 4 → eff.text = o.text
  rs : o.kind ≠ 4 → eff.rs = t.rs
end Go.Proofs.YtggdddkbhigjoaaDoor
/- Walks: HistoryCarries. -/
namespace Go.Proofs.YtggdddkbhigjoaaDoor
open Go Go.GW
theorem hopsX_s (h m cap : Nat) (A : Option Addr) (H : Hist) (L : List MR) (hr : HR H L) (lo hi : Nat) (xs : List GOp) (hb : lo ≤ hi ∧ hi ≤ H.ents.length) (hx : (H.ops.take hi).drop lo = xs) : Sp Tryd.prog 17 [.pointer (some ⟨h, 0, none⟩), .int .i64 lo, .int .i64 hi] [hdP h A H.ops.length cap m H.total, mpP m L, mkP L] [RdF opD A cap H.ops] (fun v Lo fs => ∃ A' c', v = .tuple #[.slice A' xs.length c', .int .i64 0] ∧ Lo = [hdP h A H.ops.length cap m H.total, mpP m L, mkP L] ∧ fs = [RdF opD A' c' xs]) := by
  refine (hops_s h m cap A H L hr lo hi).mono ?_
  rintro v Lo fs ⟨A', c', h1, ⟨h2, _⟩ | ⟨_, h3, h4⟩⟩
  · omega
  · subst hx; exact ⟨A', c', h3, h1, h4⟩

set_option maxRecDepth 10000 in
theorem eqOps_t (A B : Option Addr) (c d : Nat) (xs : List GOp) (hl : xs.length ≤ 1000000000) (hf : ∀ o ∈ xs, Fit o) : Sp Tryd.prog 23 [.slice A xs.length c, .slice B xs.length d] [] [RdF opD A c xs, RdF opD B d xs] (Is (.bool true)) := by
  refine Sp.of (n := 27) ⟨_, Tryd.func23, rfl, rfl, rfl, rfl⟩ (Nat.le_of_ble_eq_true rfl) fun Ps As => WC_seq (WC_region (Lq (q_assign rfl) (WL_nil (thenN (WC_seq (WC_seq (WC_region (Lq (q_move rfl) (Lq (q_len Tryd.underlying45 rfl) (Lq (q_move rfl) (Lq (q_len Tryd.underlying45 rfl) (Lq (q_neq rfl rfl) (WL_nil (thenN ?_))))))))))))))
  refine WC_false rfl (by simp) (WC_skip (thenN (WC_seq (WC_seq (WC_region (Lq (q_assign rfl) (WL_nil (thenN (WC_block ?_)))))))))
  refine WC_loopE (α := Nat) (fun k => xs.length - k)
    (fun k => [(0, .slice A xs.length c), (1, .slice B xs.length d), (5, .int .i64 k)])
    (fun k => Ps)
    (fun k => (RdF opD A c xs :: RdF opD B d xs :: As))
    (fun k => k ≤ xs.length)
    0 ?_ (.cons rfl (.cons rfl (.cons rfl (.nil _)))) (List.Sublist.refl _) (fun _ h => h) ?_
  · exact Nat.zero_le _
  · rintro k hI
    refine WC_seq (WC_seq (WC_region (Lq (q_move rfl) (Lq (q_move rfl) (Lq (q_len Tryd.underlying45 rfl) (Lq (q_lss rfl rfl) (WL_nil (thenN (WC_cond rfl (fun h14 => ?_) (fun h14 => ?_))))))))))
    · refine WC_skip (thenN (WC_seq (WC_block (WC_seq ?_))))
      try simp only [Bp, Bq] at *
      have hk1 : k < xs.length := by omega
      refine WC_elem (k := k) (.head _) (List.getElem?_eq_getElem hk1) (op_open _) fun b1 q1 y1 e1 => ?_
      cases e1
      refine WC_elem (k := k) (.tail _ (.tail _ (.tail _ (.head _)))) (List.getElem?_eq_getElem hk1) (op_open _) fun b2 q2 y2 e2 => ?_
      cases e2
      refine WC_draw _ _ [] (.c 0 0 (.c 1 0 (.c 2 0 (.c 3 0 (.c 4 0 (.c 5 0 (.c 6 0 (.c 7 0 (.c 8 2 (.c 9 0 .nil)))))))))) mixed (fun _ _ _ _ h => h) (List.Sublist.refl _) (fun _ h => h) (by kernel_rfl) (by decide) fun ws Z0 => Qe rfl (q_move rfl) (Qe rfl (q_move rfl) (Qe rfl (q_idxRd Tryd.underlying45 ti31 rfl rfl (by first | omega | simp) (by first | omega | simp)) (Qe rfl (q_loadFN (k := 0) (vs := [_, _, _, _, _, _, _, _, _]) Tryd.underlying31 rfl ti31 rfl (.tail _ (.tail _ (.head _))) rfl rfl rfl) (Qe rfl (q_move rfl) (Qe rfl (q_move rfl) (Qe rfl (q_idxRd Tryd.underlying45 ti31 rfl rfl (by first | omega | simp) (by first | omega | simp)) (Qe rfl (q_loadFN (k := 0) (vs := [_, _, _, _, _, _, _, _, _]) Tryd.underlying31 rfl ti31 rfl (.head _) rfl rfl rfl) ?_)))))))
      refine WE_main rfl rfl (OW_call0 (eqOp_t xs[k] y1.1 y2.1 y1.2 y2.2 (hf _ (List.getElem_mem hk1)).rs) (.cons rfl (.cons rfl (.nil))) (by decide) (memc (.tail _ (.tail _ (.tail _ (.tail _ (.head _))))) (memc (.tail _ (.tail _ (.head _))) mem0)) fun u6_8 Lo fs hres => ?_)
      obtain ⟨rfl, rfl, rfl⟩ := hres
      refine ⟨⟨(List.Sublist.refl _), (.head _)⟩, ?_⟩
      refine Qe rfl (q_not rfl) (WE_end (WF_nil (thenN (WC_false rfl rfl (WC_skip (blockN (thenN (WC_region (Lq (q_move rfl) (Lq (q_add rfl rfl (wr64 (by omega)) (c := ((k + 1 : Nat) : Int))) (Lq (q_assign rfl) (WL_nil (thenK ?_)))))))))))))
      refine ⟨k + 1, ?_, (.cons rfl (.cons rfl (.cons rfl (.nil _)))), (List.Sublist.refl _), (fun _ h => .tail _ (.tail _ (.tail _ (.tail _ (.tail _ h)))))⟩
      exact ⟨by omega, by omega⟩
    · refine WC_exit (thenExit (thenExit (blockHit (thenN (WC_seq (WC_region (Lq (q_assign rfl) (WL_nil (thenN (WC_ret ?_))))))))))
      refine ⟨_, [], [], fun Z w hs => .tmp rfl (.nil), ?_, fun Z w hs => hs.out (List.Sublist.refl _) (fun _ h => h)⟩
      exact ⟨rfl, rfl, rfl⟩


end Go.Proofs.YtggdddkbhigjoaaDoor
/- Walks: EqEntry, alike. -/
namespace Go.Proofs.YtggdddkbhigjoaaDoor
open Go Go.GW
set_option maxRecDepth 10000 in
theorem eqEntry_t (e : GEn) (A B : Option Addr) (c d : Nat) (hl : e.rs.length ≤ 4398046511104) : Sp Tryd.prog 64 [enV e A c, enV e B d] [] [RdF rgD A c e.rs, RdF rgD B d e.rs] (Is (.bool true)) := by
  refine Sp.of (n := 38) ⟨_, Tryd.func64, rfl, rfl, rfl, rfl⟩ (Nat.le_of_ble_eq_true rfl) fun Ps As => WC_seq (WC_region (WL_main rfl (OW_box (cs := [_, _, _, _, _, _, _]) rfl rfl (by decide) fun b2 => WL_main rfl (OW_box (cs := [_, _, _, _, _, _, _]) rfl rfl (by decide) fun b3 => Lq (q_assign rfl) (WL_nil (thenN (WC_seq (WC_region (Lq (q_field (o' := 0) Tryd.underlying42 rfl ti25 rfl rfl) (Lq (q_loadN (vs := [_, _]) Tryd.underlying25 rfl ti25 rfl (ownS (own0)) rfl rfl) (Lq (q_field (o' := 0) Tryd.underlying42 rfl ti25 rfl rfl) (Lq (q_loadN (vs := [_, _]) Tryd.underlying25 rfl ti25 rfl own0 rfl rfl) ?_))))))))))))
  refine Lq (q_aggeql rfl rfl (eq25 _ _ _ _)) (Lq (q_move rfl) (Lg rfl rfl rfl (by simp) (q_field (o' := 2) Tryd.underlying42 rfl ti26 rfl rfl) (Lg rfl rfl rfl (by simp) (q_load1 Tryd.underlying26 rfl rfl (ownS (own0)) rfl) (Lg rfl rfl rfl (by simp) (q_field (o' := 2) Tryd.underlying42 rfl ti26 rfl rfl) (Lg rfl rfl rfl (by simp) (q_load1 Tryd.underlying26 rfl rfl own0 rfl) (Lg rfl rfl rfl (by simp) (q_eql rfl rfl) (Lq (q_pickT rfl (by simp) rfl) (Lq (q_move rfl) (Lg rfl rfl rfl (by simp) (q_field (o' := 3) Tryd.underlying42 rfl ti4 rfl rfl) ?_)))))))))
  refine Lg rfl rfl rfl (by simp) (q_load1 Tryd.underlying4 rfl rfl (ownS (own0)) rfl) (Lg rfl rfl rfl (by simp) (q_field (o' := 3) Tryd.underlying42 rfl ti4 rfl rfl) (Lg rfl rfl rfl (by simp) (q_load1 Tryd.underlying4 rfl rfl own0 rfl) (Lg rfl rfl rfl (by simp) (q_beql' Tryd.underlying4 rfl rfl) (Lq (q_pickT rfl (by simp) rfl) (Lq (q_move rfl) (Lg rfl rfl rfl (by simp) (q_field (o' := 5) Tryd.underlying42 rfl ti25 rfl rfl) (Lg rfl rfl rfl (by simp) (q_loadN (vs := [_, _]) Tryd.underlying25 rfl ti25 rfl (ownS (own0)) rfl rfl) (Lg rfl rfl rfl (by simp) (q_field (o' := 5) Tryd.underlying42 rfl ti25 rfl rfl) (Lg rfl rfl rfl (by simp) (q_loadN (vs := [_, _]) Tryd.underlying25 rfl ti25 rfl own0 rfl rfl) ?_)))))))))
  refine Lg rfl rfl rfl (by simp) (q_aggeql rfl rfl (eq25 _ _ _ _)) (Lq (q_pickT rfl (by simp) rfl) (Lq (q_move rfl) (Lg rfl rfl rfl (by simp) (q_field (o' := 4) Tryd.underlying42 rfl ti29 rfl rfl) (Lg rfl rfl rfl (by simp) (q_load1 Tryd.underlying29 rfl rfl (ownS (own0)) rfl) (Lg rfl rfl rfl (by simp) (q_field (o' := 4) Tryd.underlying42 rfl ti29 rfl rfl) (Lg rfl rfl rfl (by simp) (q_load1 Tryd.underlying29 rfl rfl own0 rfl) (WL_gmain rfl rfl rfl (by simp) (OW_call0 (eqRanges_s A B c d e.rs e.rs hl) (.cons rfl (.cons rfl (.nil))) (by decide) (memc (.head _) (memc (.tail _ (.head _)) mem0)) fun u1_31 Lo fs hres => ?_))))))))
  obtain ⟨rfl, rfl, rfl⟩ := hres
  refine Lq (q_pickT rfl (by simp) rfl) (Lq (q_assign rfl) (WL_nil (thenN (WC_ret ?_))))
  refine ⟨_, [], [], fun Z w hs => .tmp rfl (.nil), ?_, fun Z w hs => hs.out (List.Sublist.cons _ (List.Sublist.cons _ (List.Sublist.refl _))) (fun _ h => h)⟩
  exact ⟨by simp [tup], rfl, rfl⟩


set_option maxRecDepth 10000 in
theorem alike_s (H : Hist) (v h m b : Nat) (L : List MR) (A : Option Addr) (cap : Nat) (B : Option Addr) (t : Tr) (A1 : Option Addr) (c1 : Nat) (A2 : Option Addr) (c2 : Nat) (A3 : Option Addr) (c3 : Nat) (nx : List Int) (vu hu mu bu : Nat) (Lu : List MR) (Au : Option Addr) (capu : Nat) (Bu : Option Addr) (tu : Tr) (A1u : Option Addr) (c1u : Nat) (A2u : Option Addr) (c2u : Nat) (A3u : Option Addr) (c3u : Nat) (nxu : List Int) (hr : HR H L) (hru : HR H Lu) (wt : Wf t) (wtu : Wf tu) (hX : tu.row = t.row) (hb : t.row.length ≤ 1048576) (hel : H.ents.length ≤ 1000000) : Sp Tryd.prog 38 [.pointer (some ⟨v, 0, none⟩), .pointer (some ⟨vu, 0, none⟩)] [vwP v h b A1 H.ents.length c1 A2 c2 A3 c3 nx, hdP h A H.ops.length cap m H.total, mpP m L, mkP L, rpP b B, vwP vu hu bu A1u H.ents.length c1u A2u c2u A3u c3u nxu, hdP hu Au H.ops.length capu mu H.total, mpP mu Lu, mkP Lu, rpP bu Bu] [RdF opD A cap H.ops, AllF L nowF, TrF B t, RdF opD Au capu H.ops, AllF Lu nowF, TrF Bu tu] (fun u Lo fs => u = .bool true ∧ Lo = [vwP v h b A1 H.ents.length c1 A2 c2 A3 c3 nx, hdP h A H.ops.length cap m H.total, mpP m L, mkP L, rpP b B, vwP vu hu bu A1u H.ents.length c1u A2u c2u A3u c3u nxu, hdP hu Au H.ops.length capu mu H.total, mpP mu Lu, mkP Lu, rpP bu Bu] ∧ fs = []) := by
  have hol : H.ops.length = H.ents.length := by simp [Hist.ops]
  have hfo : ∀ y ∈ H.ops, Fit y := fun y hy => by obtain ⟨e, he, rfl⟩ := List.mem_map.1 hy; exact hr.fit e he
  have hrn := (rowF_ok t.row).flush.2
  have hrn2 : (runsF t.row).length ≤ t.row.length := hrn
  refine Sp.of (n := 119) ⟨_, Tryd.func38, rfl, rfl, rfl, rfl⟩ (Nat.le_of_ble_eq_true rfl) fun Ps As => WC_seq (WC_region (Lq (q_assign rfl) (WL_nil (thenN (WC_seq (WC_region (Lq (q_move rfl) (Lq (q_nil rfl) (Lq (q_field (o' := 0) Tryd.underlying61 rfl ti22 rfl rfl) (Lq (q_load1 Tryd.underlying22 rfl rfl own0 rfl) (WL_main rfl (OW_call3 (entries_s h m cap A H L hr hel) (.cons rfl (.nil)) (by decide) (.s (.z)) (.s (.z)) (.s (.z)) (memc (.head _) (memc (.tail _ (.head _)) mem0)) fun u1_4 Lo fs hres => ?_))))))))))))
  obtain ⟨Ae, ce, rfl, rfl, rfl⟩ := hres
  refine Lq (q_move rfl) (Lq (q_extract (vs := [_, _]) rfl rfl) (Lq (q_extract (vs := [_, _]) rfl rfl) (Lq (q_assign rfl) (Lq (q_assign rfl) (WL_nil (thenN (WC_seq (WC_seq (WC_region (Lq (q_move rfl) (Lq (q_not rfl) (WL_nil (thenN (WC_false rfl rfl (WC_skip (thenN (WC_seq (WC_region (Lq (q_move rfl) ?_)))))))))))))))))))
  refine Lq (q_nil rfl) (Lq (q_field (o' := 0) Tryd.underlying61 rfl ti22 rfl rfl) (Lq (q_load1 Tryd.underlying22 rfl rfl (ownS (ownS (ownS (ownS (ownS (own0)))))) rfl) (WL_main rfl (OW_call3 (entries_s hu mu capu Au H Lu hru hel) (.cons rfl (.nil)) (by decide) (.s (.s (.s (.s (.s (.s (.z))))))) (.s (.s (.s (.s (.s (.s (.z))))))) (.s (.s (.s (.s (.s (.s (.z))))))) (memc (.tail _ (.tail _ (.tail _ (.tail _ (.head _))))) (memc (.tail _ (.tail _ (.tail _ (.tail _ (.tail _ (.head _)))))) mem0)) fun u4_4 Lo fs hres => ?_))))
  obtain ⟨Be, de, rfl, rfl, rfl⟩ := hres
  refine Lq (q_move rfl) (Lq (q_extract (vs := [_, _]) rfl rfl) (Lq (q_extract (vs := [_, _]) rfl rfl) (Lq (q_assign rfl) (Lq (q_assign rfl) (WL_nil (thenN (WC_seq (WC_seq (WC_region (Lq (q_move rfl) (Lq (q_not rfl) (Lq (q_move rfl) (Lg rfl rfl rfl rfl (q_move rfl) ?_)))))))))))))
  refine Lg rfl rfl rfl rfl (q_len Tryd.underlying70 rfl) (Lg rfl rfl rfl rfl (q_move rfl) (Lg rfl rfl rfl rfl (q_len Tryd.underlying70 rfl) (Lg rfl rfl rfl rfl (q_neq rfl rfl) (Lq (q_pickF rfl rfl rfl) (WL_nil (thenN (WC_false rfl (by simp) (WC_skip (thenN (WC_seq (WC_seq (WC_region (Lq (q_assign rfl) (WL_nil (thenN (WC_block ?_))))))))))))))))
  refine WC_pick (.s (.s (.s (.s (.s (.s (.s (.s (.s (.z)))))))))) (WC_pick (.s (.s (.s (.z)))) (WC_pick (.s (.s (.s (.z)))) (WC_pick (.s (.s (.s (.z)))) (WC_pick (.s (.s (.s (.s (.s (.s (.s (.s (.s (.z)))))))))) (WC_pick (.s (.s (.s (.s (.s (.s (.s (.s (.s (.z)))))))))) (WC_pick (.s (.s (.s (.s (.s (.s (.s (.s (.z))))))))) (WC_pick (.s (.s (.s (.s (.s (.s (.s (.s (.z))))))))) (WC_pick (.s (.s (.s (.s (.s (.s (.s (.s (.z))))))))) (WC_pick (.s (.s (.s (.s (.s (.s (.s (.s (.s (.z)))))))))) ?_)))))))))
  refine WC_loopE (α := Nat) (fun k => H.ents.length - k)
    (fun k => [(0, .pointer (some ⟨v, 0, none⟩)), (1, .pointer (some ⟨vu, 0, none⟩)), (5, .slice Ae H.ents.length ce), (7, .slice Be H.ents.length de), (8, .int .i64 k)])
    (fun k => (vwP v h b A1 H.ents.length c1 A2 c2 A3 c3 nx :: hdP h A H.ops.length cap m H.total :: mpP m L :: mkP L :: rpP b B :: vwP vu hu bu A1u H.ents.length c1u A2u c2u A3u c3u nxu :: hdP hu Au H.ops.length capu mu H.total :: mpP mu Lu :: mkP Lu :: rpP bu Bu :: Ps))
    (fun k => (RdF enD Ae ce (ensL H) :: RdF enD Be de (ensL H) :: RdF opD A cap H.ops :: AllF L nowF :: TrF B t :: RdF opD Au capu H.ops :: AllF Lu nowF :: TrF Bu tu :: As))
    (fun k => k ≤ H.ents.length)
    0 ?_ (.cons rfl (.cons rfl (.cons rfl (.cons rfl (.cons rfl (.nil _)))))) (List.Sublist.cons_cons _ (List.Sublist.cons_cons _ (List.Sublist.cons_cons _ (List.Sublist.cons_cons _ (List.Sublist.cons_cons _ (List.Sublist.cons_cons _ (List.Sublist.cons_cons _ (List.Sublist.cons_cons _ (List.Sublist.cons_cons _ (List.Sublist.cons_cons _ (List.Sublist.refl _))))))))))) (memc (.tail _ (.head _)) (memc (.head _) (fun _ h => .tail _ (.tail _ h)))) ?_
  · exact Nat.zero_le _
  · rintro k hI
    refine WC_seq (WC_seq (WC_region (Lq (q_move rfl) (Lq (q_move rfl) (Lq (q_len Tryd.underlying70 rfl) (Lq (q_lss rfl rfl) (WL_nil (thenN (WC_cond rfl (fun h43 => ?_) (fun h43 => ?_))))))))))
    · refine WC_skip (thenN (WC_seq (WC_block (WC_seq ?_))))
      try simp only [Bp, Bq] at *
      have hk : k < H.ents.length := by omega
      have hk2 : k < (ensL H).length := by rw [ensL_len]; exact hk
      have hrs : (ensL H)[k].rs.length ≤ 4398046511104 := by
        rw [ensL_at hk]
        have := hr.now _ (List.getElem_mem hk)
        unfold entE
        split
        · exact Nat.zero_le _
        · exact this
      refine WC_elem (k := k) (.head _) (List.getElem?_eq_getElem hk2) (en_open _) fun b1 q1 y1 e1 => ?_
      cases e1
      refine WC_elem (k := k) (.tail _ (.tail _ (.tail _ (.head _)))) (List.getElem?_eq_getElem hk2) (en_open _) fun b2 q2 y2 e2 => ?_
      cases e2
      refine WC_draw _ _ [] (.c 0 0 (.c 1 0 (.c 2 0 (.c 3 0 (.c 4 0 (.c 5 0 (.c 6 0 (.c 7 0 (.c 8 2 (.c 9 0 .nil)))))))))) mixed (fun _ _ _ _ h => h) (List.Sublist.cons_cons _ (List.Sublist.cons_cons _ (List.Sublist.cons_cons _ (List.Sublist.cons_cons _ (List.Sublist.cons_cons _ (List.Sublist.cons_cons _ (List.Sublist.cons_cons _ (List.Sublist.cons_cons _ (List.Sublist.cons_cons _ (List.Sublist.cons_cons _ (List.Sublist.refl _))))))))))) (fun _ h => h) (by kernel_rfl) (by decide) fun ws Z0 => Qe rfl (q_move rfl) (Qe rfl (q_move rfl) (Qe rfl (q_idxRd Tryd.underlying70 ti42 rfl rfl (by omega) (by omega)) (Qe rfl (q_loadFN (k := 0) (vs := [_, _, _, _, _, _, _]) Tryd.underlying42 rfl ti42 rfl (.tail _ (.tail _ (.head _))) rfl rfl rfl) (Qe rfl (q_move rfl) (Qe rfl (q_move rfl) (Qe rfl (q_idxRd Tryd.underlying70 ti42 rfl rfl (by omega) (by omega)) ?_))))))
      refine Qe rfl (q_loadFN (k := 0) (vs := [_, _, _, _, _, _, _]) Tryd.underlying42 rfl ti42 rfl (.head _) rfl rfl rfl) (WE_main rfl rfl (OW_call0 (eqEntry_t (ensL H)[k] y1.1 y2.1 y1.2 y2.2 hrs) (.cons rfl (.cons rfl (.nil))) (by decide) (memc (.tail _ (.tail _ (.tail _ (.tail _ (.head _))))) (memc (.tail _ (.tail _ (.head _))) mem0)) fun u10_8 Lo fs hres => ?_))
      obtain ⟨rfl, rfl, rfl⟩ := hres
      refine ⟨⟨(List.Sublist.cons_cons _ (List.Sublist.cons_cons _ (List.Sublist.cons_cons _ (List.Sublist.cons_cons _ (List.Sublist.cons_cons _ (List.Sublist.cons_cons _ (List.Sublist.cons_cons _ (List.Sublist.cons_cons _ (List.Sublist.cons_cons _ (List.Sublist.cons_cons _ (List.Sublist.refl _))))))))))), (.head _)⟩, ?_⟩
      refine Qe rfl (q_not rfl) (WE_end (WF_nil (thenN (WC_false rfl rfl (WC_skip (blockN (thenN (WC_region (Lq (q_move rfl) (Lq (q_add rfl rfl (wr64 (by omega)) (c := ((k + 1 : Nat) : Int))) (Lq (q_assign rfl) (WL_nil (thenK ?_)))))))))))))
      refine ⟨k + 1, ?_, (.cons rfl (.cons rfl (.cons rfl (.cons rfl (.cons rfl (.nil _)))))), (List.Sublist.cons_cons _ (List.Sublist.cons_cons _ (List.Sublist.cons_cons _ (List.Sublist.cons_cons _ (List.Sublist.cons_cons _ (List.Sublist.cons_cons _ (List.Sublist.cons_cons _ (List.Sublist.cons_cons _ (List.Sublist.cons_cons _ (List.Sublist.cons_cons _ (List.Sublist.refl _))))))))))), (fun _ h => .tail _ (.tail _ (.tail _ (.tail _ (.tail _ h)))))⟩
      exact ⟨by omega, by omega⟩
    · refine WC_exit (thenExit (thenExit (blockHit (thenN (WC_seq (WC_draw _ _ [] (.c 0 0 (.c 1 0 (.c 2 0 (.c 3 0 (.c 4 0 (.c 5 0 (.c 6 0 (.c 7 0 (.c 8 2 (.c 9 2 (.c 10 0 (.c 11 0 (.c 12 0 (.c 13 0 (.c 14 0 .nil))))))))))))))) mixed (fun _ _ _ _ h => h) (List.Sublist.cons_cons _ (List.Sublist.cons _ (List.Sublist.cons _ (List.Sublist.cons _ (List.Sublist.cons_cons _ (List.Sublist.cons_cons _ (List.Sublist.cons_cons _ (List.Sublist.cons_cons _ (List.Sublist.cons_cons _ (List.Sublist.cons_cons _ (List.Sublist.refl _))))))))))) (fun _ h => h) (by kernel_rfl) (by decide) fun ws Z0 => Qe rfl (q_move rfl) (Qe rfl (q_nil rfl) (Qe rfl (q_field (o' := 0) Tryd.underlying61 rfl ti22 rfl rfl) (Qe rfl (q_load1 Tryd.underlying22 rfl rfl own0 rfl) (Qe rfl (q_move rfl) (Qe rfl (q_nil rfl) (Qe rfl (q_field (o' := 0) Tryd.underlying61 rfl ti22 rfl rfl) ?_))))))))))))
      refine Qe rfl (q_load1 Tryd.underlying22 rfl rfl own0 rfl) (WE_main rfl rfl (OW_call1 (hlen_s h m H.ops.length cap A H.total) (.cons rfl (.nil)) (by decide) (.s (.z)) mem0 fun u12_8 Lo fs hres => ?_))
      obtain ⟨rfl, rfl, rfl⟩ := hres
      refine ⟨⟨(List.Sublist.cons _ (List.Sublist.cons_cons _ (List.Sublist.cons _ (List.Sublist.cons _ (List.Sublist.cons_cons _ (List.Sublist.cons_cons _ (List.Sublist.cons_cons _ (List.Sublist.cons_cons _ (List.Sublist.cons_cons _ (List.Sublist.cons_cons _ (List.Sublist.refl _))))))))))), (.head _)⟩, ?_⟩
      refine WE_main rfl rfl (OW_call3 (hopsX_s h m cap A H L hr 0 H.ops.length H.ops (by omega) (by rw [List.take_length]; rfl)) (.cons rfl (.cons rfl (.cons rfl (.nil)))) (by decide) (.z) (.s (.z)) (.s (.z)) (memc (.tail _ (.tail _ (.tail _ (.head _)))) mem0) fun u12_9 Lo fs hres => ?_)
      obtain ⟨Ao1, co1, rfl, rfl, rfl⟩ := hres
      refine ⟨⟨(List.Sublist.cons _ (List.Sublist.cons _ (List.Sublist.cons _ (List.Sublist.cons_cons _ (List.Sublist.cons_cons _ (List.Sublist.cons_cons _ (List.Sublist.cons_cons _ (List.Sublist.cons_cons _ (List.Sublist.cons_cons _ (List.Sublist.cons_cons _ (List.Sublist.refl _))))))))))), (.tail _ (.head _))⟩, ?_⟩
      refine Qe rfl (q_move rfl) (Qe rfl (q_extract (vs := [_, _]) rfl rfl) (Qe rfl (q_extract (vs := [_, _]) rfl rfl) (Qe rfl (q_assign rfl) (Qe rfl (q_assign rfl) (WE_end (WF_nil (thenN (WC_seq (WC_draw _ _ [] (.c 0 0 (.c 1 0 (.c 2 0 (.c 3 0 (.c 4 0 (.c 5 0 (.c 6 0 (.c 7 0 (.c 8 2 (.c 9 2 (.c 10 0 (.c 11 0 (.c 12 0 (.c 13 0 (.c 14 0 .nil))))))))))))))) mixed (fun _ _ _ _ h => h) (List.Sublist.cons_cons _ (List.Sublist.cons_cons _ (List.Sublist.cons_cons _ (List.Sublist.cons_cons _ (List.Sublist.cons_cons _ (List.Sublist.cons_cons _ (List.Sublist.cons _ (List.Sublist.cons _ (List.Sublist.cons _ (List.Sublist.cons_cons _ (List.Sublist.refl _))))))))))) (fun _ h => h) (by kernel_rfl) (by decide) fun ws Z0 => Qe rfl (q_move rfl) (Qe rfl (q_nil rfl) ?_))))))))))
      refine Qe rfl (q_field (o' := 0) Tryd.underlying61 rfl ti22 rfl rfl) (Qe rfl (q_load1 Tryd.underlying22 rfl rfl (ownS (ownS (ownS (ownS (ownS (own0)))))) rfl) (Qe rfl (q_move rfl) (Qe rfl (q_nil rfl) (Qe rfl (q_field (o' := 0) Tryd.underlying61 rfl ti22 rfl rfl) (Qe rfl (q_load1 Tryd.underlying22 rfl rfl (ownS (ownS (ownS (ownS (ownS (own0)))))) rfl) (WE_main rfl rfl (OW_call1 (hlen_s hu mu H.ops.length capu Au H.total) (.cons rfl (.nil)) (by decide) (.s (.s (.s (.s (.s (.s (.z))))))) mem0 fun u13_8 Lo fs hres => ?_)))))))
      obtain ⟨rfl, rfl, rfl⟩ := hres
      refine ⟨⟨(List.Sublist.cons _ (List.Sublist.cons_cons _ (List.Sublist.cons_cons _ (List.Sublist.cons_cons _ (List.Sublist.cons_cons _ (List.Sublist.cons_cons _ (List.Sublist.cons_cons _ (List.Sublist.cons _ (List.Sublist.cons _ (List.Sublist.cons_cons _ (List.Sublist.refl _))))))))))), (.head _)⟩, ?_⟩
      refine WE_main rfl rfl (OW_call3 (hopsX_s hu mu capu Au H Lu hru 0 H.ops.length H.ops (by omega) (by rw [List.take_length]; rfl)) (.cons rfl (.cons rfl (.cons rfl (.nil)))) (by decide) (.z) (.s (.s (.s (.s (.s (.s (.z))))))) (.s (.s (.s (.s (.s (.s (.z))))))) (memc (.tail _ (.tail _ (.tail _ (.tail _ (.tail _ (.tail _ (.tail _ (.tail _ (.head _))))))))) mem0) fun u13_9 Lo fs hres => ?_)
      obtain ⟨Ao2, co2, rfl, rfl, rfl⟩ := hres
      refine ⟨⟨(List.Sublist.cons _ (List.Sublist.cons _ (List.Sublist.cons _ (List.Sublist.cons_cons _ (List.Sublist.cons_cons _ (List.Sublist.cons_cons _ (List.Sublist.cons_cons _ (List.Sublist.cons_cons _ (List.Sublist.cons_cons _ (List.Sublist.cons_cons _ (List.Sublist.refl _))))))))))), (.tail _ (.head _))⟩, ?_⟩
      refine Qe rfl (q_move rfl) (Qe rfl (q_extract (vs := [_, _]) rfl rfl) (Qe rfl (q_extract (vs := [_, _]) rfl rfl) (Qe rfl (q_assign rfl) (Qe rfl (q_assign rfl) (WE_end (WF_nil (thenN (WC_seq ?_))))))))
      refine WC_draw _ _ [] (.c 0 0 (.c 1 0 (.c 2 0 (.c 3 0 (.c 4 0 (.c 5 0 (.c 6 0 (.c 7 0 (.c 8 0 (.c 9 2 (.c 10 0 (.c 11 0 (.c 12 0 (.c 13 0 (.c 14 0 (.c 15 0 (.c 17 0 (.c 18 0 (.c 19 0 (.c 20 0 (.c 16 2 (.c 21 2 (.c 22 2 (.c 23 0 (.c 24 0 (.c 25 0 (.c 26 0 (.c 27 0 (.c 28 0 (.c 30 0 (.c 31 0 (.c 32 0 (.c 33 0 (.c 29 2 (.c 34 2 (.c 35 0 (.c 36 0 (.c 37 0 .nil)))))))))))))))))))))))))))))))))))))) mixed (fun _ _ _ _ h => h) (List.Sublist.cons_cons _ (List.Sublist.cons_cons _ (List.Sublist.cons_cons _ (List.Sublist.cons_cons _ (List.Sublist.cons_cons _ (List.Sublist.cons_cons _ (List.Sublist.cons_cons _ (List.Sublist.cons _ (List.Sublist.cons_cons _ (List.Sublist.cons _ (List.Sublist.refl _))))))))))) (fun _ h => h) (by kernel_rfl) (by decide) fun ws Z0 => Qe rfl (q_move rfl) (Qe rfl (q_eql rfl rfl) (Qe rfl (q_move rfl) (WE_gq rfl rfl rfl rfl rfl (q_move rfl) (by decide) ?_)))
      refine WE_gq rfl rfl rfl rfl rfl (q_eql rfl rfl) (by decide) (Qe rfl (q_pickT rfl rfl rfl) (Qe rfl (q_move rfl) (WE_gq rfl rfl rfl rfl rfl (q_move rfl) (by decide) (WE_gq rfl rfl rfl rfl rfl (q_move rfl) (by decide) (WE_gmain rfl rfl rfl rfl rfl rfl (OW_call0 (eqOps_t Ao1 Ao2 co1 co2 H.ops (by omega) hfo) (.cons rfl (.cons rfl (.nil))) (by decide) (memc (.tail _ (.tail _ (.tail _ (.head _)))) (memc (.tail _ (.head _)) mem0)) fun u14_9 Lo fs hres => ?_))))))
      obtain ⟨rfl, rfl, rfl⟩ := hres
      refine ⟨⟨(List.Sublist.cons_cons _ (List.Sublist.cons_cons _ (List.Sublist.cons_cons _ (List.Sublist.cons_cons _ (List.Sublist.cons_cons _ (List.Sublist.cons_cons _ (List.Sublist.cons_cons _ (List.Sublist.cons _ (List.Sublist.cons_cons _ (List.Sublist.cons _ (List.Sublist.refl _))))))))))), (.head _)⟩, ?_⟩
      refine Qe rfl (q_pickT rfl rfl rfl) (Qe rfl (q_move rfl) (WE_gq rfl rfl rfl rfl rfl (q_move rfl) (by decide) (WE_gq rfl rfl rfl rfl rfl (q_nil rfl) (by decide) (WE_gq rfl rfl rfl rfl rfl (q_field (o' := 1) Tryd.underlying61 rfl ti55 rfl rfl) (by decide) (WE_gq rfl rfl rfl rfl rfl (q_load1 Tryd.underlying55 rfl rfl (ownS (ownS (ownS (ownS (ownS (ownS (own0))))))) rfl) (by decide) (WE_gq rfl rfl rfl rfl rfl (q_move rfl) (by decide) (WE_gq rfl rfl rfl rfl rfl (q_nil rfl) (by decide) (WE_gq rfl rfl rfl rfl rfl (q_field (o' := 1) Tryd.underlying61 rfl ti55 rfl rfl) (by decide) (WE_gq rfl rfl rfl rfl rfl (q_load1 Tryd.underlying55 rfl rfl (ownS (ownS (ownS (ownS (ownS (ownS (ownS (own0)))))))) rfl) (by decide) ?_)))))))))
      refine WE_gmain rfl rfl rfl rfl rfl rfl (OW_call1 (runs_s b B t wt hb) (.cons rfl (.nil)) (by decide) (.s (.s (.s (.s (.s (.s (.s (.z)))))))) (memc (.tail _ (.tail _ (.tail _ (.tail _ (.tail _ (.tail _ (.tail _ (.tail _ (.tail _ (.head _)))))))))) mem0) fun u14_16 Lo fs hres => ?_)
      obtain ⟨Ar, cr, rfl, rfl, rfl⟩ := hres
      refine ⟨⟨(List.Sublist.cons _ (List.Sublist.cons_cons _ (List.Sublist.cons_cons _ (List.Sublist.cons_cons _ (List.Sublist.cons_cons _ (List.Sublist.cons_cons _ (List.Sublist.cons_cons _ (List.Sublist.cons_cons _ (List.Sublist.cons_cons _ (List.Sublist.cons _ (List.Sublist.refl _))))))))))), (.tail _ (.head _))⟩, ?_⟩
      refine WE_gmain rfl rfl rfl rfl rfl rfl (OW_call1 (runs_s bu Bu tu wtu (by rw [hX]; exact hb)) (.cons rfl (.nil)) (by decide) (.s (.s (.s (.s (.s (.s (.s (.s (.s (.z)))))))))) (memc (.tail _ (.tail _ (.tail _ (.tail _ (.tail _ (.tail _ (.tail _ (.tail _ (.tail _ (.tail _ (.tail _ (.tail _ (.tail _ (.head _)))))))))))))) mem0) fun u14_21 Lo fs hres => ?_)
      obtain ⟨Aq, cq, rfl, rfl, rfl⟩ := hres
      rw [hX]
      refine ⟨⟨(List.Sublist.cons _ (List.Sublist.cons _ (List.Sublist.cons_cons _ (List.Sublist.cons_cons _ (List.Sublist.cons_cons _ (List.Sublist.cons_cons _ (List.Sublist.cons_cons _ (List.Sublist.cons_cons _ (List.Sublist.cons_cons _ (List.Sublist.cons_cons _ (List.Sublist.refl _))))))))))), (.tail _ (.tail _ (.head _)))⟩, ?_⟩
      refine WE_gmain rfl rfl rfl rfl rfl rfl (OW_call0 (eqRuns_s Ar Aq cr cq (runsF t.row) (runsF t.row) (by omega)) (.cons rfl (.cons rfl (.nil))) (by decide) (memc (.tail _ (.head _)) (memc (.head _) mem0)) fun u14_22 Lo fs hres => ?_)
      obtain ⟨rfl, rfl, rfl⟩ := hres
      refine ⟨⟨(List.Sublist.cons _ (List.Sublist.cons _ (List.Sublist.cons_cons _ (List.Sublist.cons_cons _ (List.Sublist.cons_cons _ (List.Sublist.cons_cons _ (List.Sublist.cons_cons _ (List.Sublist.cons_cons _ (List.Sublist.cons_cons _ (List.Sublist.cons_cons _ (List.Sublist.refl _))))))))))), (.tail _ (.tail _ (.head _)))⟩, ?_⟩
      refine Qe rfl (q_pickT rfl rfl rfl) (Qe rfl (q_move rfl) (WE_gq rfl rfl rfl rfl (by simp) (q_move rfl) (by decide) (WE_gq rfl rfl rfl rfl (by simp) (q_nil rfl) (by decide) (WE_gq rfl rfl rfl rfl (by simp) (q_field (o' := 1) Tryd.underlying61 rfl ti55 rfl rfl) (by decide) (WE_gq rfl rfl rfl rfl (by simp) (q_load1 Tryd.underlying55 rfl rfl (ownS (ownS (ownS (ownS (ownS (ownS (own0))))))) rfl) (by decide) (WE_gq rfl rfl rfl rfl (by simp) (q_move rfl) (by decide) (WE_gq rfl rfl rfl rfl (by simp) (q_nil rfl) (by decide) (WE_gq rfl rfl rfl rfl (by simp) (q_field (o' := 1) Tryd.underlying61 rfl ti55 rfl rfl) (by decide) (WE_gq rfl rfl rfl rfl (by simp) (q_load1 Tryd.underlying55 rfl rfl (ownS (ownS (ownS (ownS (ownS (ownS (ownS (own0)))))))) rfl) (by decide) ?_)))))))))
      refine WE_gmain rfl rfl rfl rfl rfl (by simp) (OW_call1 (text_s b B t wt hb) (.cons rfl (.nil)) (by decide) (.s (.z)) (memc (.tail _ (.tail _ (.tail _ (.tail _ (.tail _ (.tail _ (.tail _ (.tail _ (.tail _ (.tail _ (.tail _ (.head _)))))))))))) mem0) fun u14_29 Lo fs hres => ?_)
      obtain ⟨rfl, rfl, rfl⟩ := hres
      refine ⟨⟨(List.Sublist.cons _ (List.Sublist.cons _ (List.Sublist.cons_cons _ (List.Sublist.cons_cons _ (List.Sublist.cons_cons _ (List.Sublist.cons_cons _ (List.Sublist.cons_cons _ (List.Sublist.cons_cons _ (List.Sublist.cons_cons _ (List.Sublist.cons_cons _ (List.Sublist.refl _))))))))))), (.tail _ (.tail _ (.head _)))⟩, ?_⟩
      refine WE_gmain rfl rfl rfl rfl rfl (by simp) (OW_call1 (text_s bu Bu tu wtu (by rw [hX]; exact hb)) (.cons rfl (.nil)) (by decide) (.s (.z)) (memc (.tail _ (.tail _ (.tail _ (.tail _ (.tail _ (.tail _ (.tail _ (.tail _ (.tail _ (.tail _ (.tail _ (.tail _ (.tail _ (.tail _ (.head _))))))))))))))) mem0) fun u14_34 Lo fs hres => ?_)
      obtain ⟨rfl, rfl, rfl⟩ := hres
      rw [hX]
      refine ⟨⟨(List.Sublist.cons _ (List.Sublist.cons _ (List.Sublist.cons_cons _ (List.Sublist.cons_cons _ (List.Sublist.cons_cons _ (List.Sublist.cons_cons _ (List.Sublist.cons_cons _ (List.Sublist.cons_cons _ (List.Sublist.cons_cons _ (List.Sublist.cons_cons _ (List.Sublist.refl _))))))))))), (.tail _ (.tail _ (.head _)))⟩, ?_⟩
      refine WE_gq rfl rfl rfl rfl (by simp) (q_seql rfl rfl) (by decide) (Qe rfl (q_pickT rfl (by simp) rfl) (Qe rfl (q_assign rfl) (WE_end (WF_nil (thenN (WC_fr [(4, _)] (.cons rfl (.nil _)) (WC_ret ?_)))))))
      refine ⟨_, [_, _, _, _, _, _, _, _, _, _], [], fun Z w hs => .tmp rfl (.nil), ?_, fun Z w hs => ((((((((((hs.pick (.z)).pick (.s (.s (.s (.s (.z)))))).pick (.s (.s (.s (.s (.z)))))).pick (.s (.s (.s (.s (.z)))))).pick (.s (.s (.s (.s (.s (.s (.s (.s (.s (.z))))))))))).pick (.s (.s (.s (.s (.s (.z))))))).pick (.s (.s (.s (.s (.s (.s (.s (.s (.z)))))))))).pick (.s (.s (.s (.s (.s (.s (.s (.s (.z)))))))))).pick (.s (.s (.s (.s (.s (.s (.s (.s (.z)))))))))).pick (.s (.s (.s (.s (.s (.s (.s (.s (.s (.z))))))))))).out (List.Sublist.cons_cons _ (List.Sublist.cons_cons _ (List.Sublist.cons_cons _ (List.Sublist.cons_cons _ (List.Sublist.cons_cons _ (List.Sublist.cons_cons _ (List.Sublist.cons_cons _ (List.Sublist.cons_cons _ (List.Sublist.cons_cons _ (List.Sublist.cons_cons _ (List.Sublist.refl _))))))))))) (fun _ h => .tail _ (.tail _ (.tail _ (.tail _ (.tail _ (.tail _ (.tail _ (.tail _ (.tail _ h)))))))))⟩
      exact ⟨congrArg Value.bool (beq_bytes_self _), rfl, rfl⟩

end Go.Proofs.YtggdddkbhigjoaaDoor
/- Places of inserts: each place is one insert's, and holds its text's rune. -/
namespace Go.Proofs.YtggdddkbhigjoaaDoor
open Go Go.GW
/-- The places of a list, one by one. -/
def placesF (rs : List Rg) : List Int := rs.flatMap fun r => (List.range (r.hi - r.lo).toNat).map fun (j : Nat) => r.lo + j
theorem places_cons (r : Rg) (rs : List Rg) : placesF (r :: rs) = ((List.range (r.hi - r.lo).toNat).map fun (j : Nat) => r.lo + j) ++ placesF rs := by simp [placesF]
theorem mem_run {lo hi q : Int} : q ∈ ((List.range (hi - lo).toNat).map fun (j : Nat) => lo + j) ↔ lo ≤ q ∧ q < hi := by
  simp only [List.mem_map, List.mem_range]
  constructor
  · rintro ⟨j, hj, rfl⟩; omega
  · intro h; exact ⟨(q - lo).toNat, by omega, by omega⟩
theorem mem_places {q : Int} : ∀ {rs : List Rg}, q ∈ placesF rs ↔ memR q rs
  | [] => by simp [placesF, memR]
  | r :: rs => by rw [places_cons, List.mem_append, mem_run, mem_places, memR_cons]
theorem run_sorted (lo : Int) (n : Nat) : ((List.range n).map fun (j : Nat) => lo + j).Pairwise (· < ·) := by
  rw [List.pairwise_map]
  exact List.pairwise_lt_range.imp fun h => by omega
theorem places_sorted : ∀ {b : Int} {rs : List Rg}, NormB b rs → (placesF rs).Pairwise (· < ·)
  | _, [], _ => List.Pairwise.nil
  | b, r :: rs, h => by
    rw [places_cons, List.pairwise_append]
    refine ⟨run_sorted _ _, places_sorted h.2.2, fun x hx y hy => ?_⟩
    have h1 := mem_run.1 hx
    have h2 := h.2.2.below (mem_places.1 hy)
    omega
theorem sorted_ext : ∀ {a b : List Int}, a.Pairwise (· < ·) → b.Pairwise (· < ·) → (∀ q, q ∈ a ↔ q ∈ b) → a = b
  | [], [], _, _, _ => rfl
  | [], y :: b, _, _, h => by have := (h y).2 List.mem_cons_self; cases this
  | x :: a, [], _, _, h => by have := (h x).1 List.mem_cons_self; cases this
  | x :: a, y :: b, h1, h2, h => by
    rw [List.pairwise_cons] at h1 h2
    have e : x = y := by
      rcases List.mem_cons.1 ((h x).1 List.mem_cons_self) with e | e
      · exact e
      · rcases List.mem_cons.1 ((h y).2 List.mem_cons_self) with e' | e'
        · exact e'.symm
        · have := h1.1 _ e'; have := h2.1 _ e; omega
    subst e
    rw [sorted_ext h1.2 h2.2 fun q => ?_]
    constructor
    · intro hq
      rcases List.mem_cons.1 ((h q).1 (List.mem_cons_of_mem _ hq)) with e | e
      · have := h1.1 _ hq; omega
      · exact e
    · intro hq
      rcases List.mem_cons.1 ((h q).2 (List.mem_cons_of_mem _ hq)) with e | e
      · have := h2.1 _ hq; omega
      · exact e
def shQ (at_ n q : Int) : Int := if q < at_ then q else q + n
theorem places_shift {T at_ n : Int} {xs : List Rg} (h : Pls T xs) (hT : 0 ≤ T) (ha : 0 ≤ at_ ∧ at_ ≤ T) (hn : 0 ≤ n) (hs : T + n ≤ 65535) : placesF (thrF xs at_ n).1 = (placesF xs).map (shQ at_ n) := by
  obtain ⟨t1, t2, t3, t4⟩ := thr_ok h hT ha hn hs
  refine sorted_ext (places_sorted t2.norm) ?_ fun q => ?_
  · rw [List.pairwise_map]
    exact (places_sorted h.norm).imp fun {x y} hxy => by unfold shQ; split <;> split <;> omega
  · rw [mem_places, t3, List.mem_map]
    constructor
    · rintro (⟨h1, h2⟩ | ⟨h1, h2⟩)
      · exact ⟨q, mem_places.2 h2, by unfold shQ; rw [if_pos h1]⟩
      · exact ⟨q - n, mem_places.2 h2, by unfold shQ; rw [if_neg (by omega)]; omega⟩
    · rintro ⟨p, hp, rfl⟩
      have hp := mem_places.1 hp
      unfold shQ
      split
      · exact .inl ⟨by assumption, hp⟩
      · exact .inr ⟨by omega, by rw [Int.add_sub_cancel]; exact hp⟩
/-! ### What an entry is of, and what it stands for -/
abbrev Sig := Int × ByteArray × List Rg
def sigE (e : Ent) : Sig := (e.op.kind, e.op.text, e.now)
def sigs (es : List Ent) : List Sig := es.map sigE
theorem sigs_zipE : ∀ (xs : List GOp) (es : List Ent), Sames (es.map (·.op)) xs → sigs (zipE xs es) = sigs es
  | [], [], _ => rfl
  | x :: xs, e :: es, h => by
    cases h with
    | cons h hr => show sigE ⟨x, e.now, e.off⟩ :: sigs (zipE xs es) = _ ; rw [sigs_zipE xs es hr]; unfold sigs sigE; simp only [List.map_cons, h.kind, h.text]
  | [], e :: es, h => by cases h
  | x :: xs, [], h => by cases h
theorem sigs_new {i : Nat} {o : GOp} {nw : List Rg} {es : List Ent} {later : List GOp} (h : Sames ((es.drop i).map (·.op)) later) : sigs (newEnts i o nw es later) = insAt (sigs es) i (o.kind, o.text, nw) := by
  unfold newEnts insAt
  have := sigs_zipE _ _ h
  unfold sigs at *
  rw [List.map_append, List.map_cons, this, List.map_take, List.map_drop]; rfl
theorem sigs_turned (H : Hist) (i : Nat) (o : GOp) : sigs (turnedF H i o).1 = sigs H.ents := by
  rcases turned_cases H i o with e | ⟨k, e, h1, h2, h3, h4, h5⟩
  · rw [e]
  · rw [h5]
    show sigs (H.ents.set k (offE e (!o.on))) = _
    have hk : k < H.ents.length := by
      rcases Nat.lt_or_ge k H.ents.length with h | h
      · exact h
      · rw [List.getElem?_eq_none h] at h2; cases h2
    rw [List.getElem?_eq_getElem hk] at h2
    have e1 : sigE (offE e (!o.on)) = (sigs H.ents)[k]'(by unfold sigs; rw [List.length_map]; exact hk) := by
      unfold sigs; rw [List.getElem_map, Option.some.inj h2]; rfl
    unfold sigs
    rw [List.map_set]
    unfold sigs at e1
    rw [e1, List.set_getElem_self]
theorem insAt_mem {α : Type} {l : List α} {i : Nat} {x y : α} : y ∈ insAt l i x ↔ y = x ∨ y ∈ l := by
  unfold insAt
  conv => rhs; rw [← List.take_append_drop i l]
  rw [List.mem_append, List.mem_cons, List.mem_append]
  constructor
  · rintro (h | h | h)
    · exact .inr (.inl h)
    · exact .inl h
    · exact .inr (.inr h)
  · rintro (h | h | h)
    · exact .inr (.inl h)
    · exact .inl h
    · exact .inr (.inr h)
theorem insAt_countP {α : Type} (f : α → Bool) (l : List α) (i : Nat) (x : α) : (insAt l i x).countP f = l.countP f + (if f x = true then 1 else 0) := by
  unfold insAt
  conv => rhs; rw [← List.take_append_drop i l, List.countP_append]
  rw [List.countP_append, List.countP_cons]; omega
def mkOf (q : Int) (s : Sig) : Bool := decide (s.1 = 1) && inRb q s.2.2
structure Mk (S : List Sig) (T : Int) (X : List Ce) : Prop where
  text : ∀ s ∈ S, s.1 = 1 → (placesF s.2.2).map (fun q => (X[q.toNat]?).map (·.1)) = (runesF s.2.1).map some
  one : ∀ q, 0 ≤ q → q < T → S.countP (mkOf q) = 1
theorem Mk.same {S : List Sig} {T : Int} {X X' : List Ce} (h : Mk S T X) (hx : ∀ q : Nat, (X'[q]?).map (·.1) = (X[q]?).map (·.1)) {i : Nat} {s : Sig} (hs : s.1 ≠ 1) : Mk (insAt S i s) T X' := by
  refine ⟨fun t ht hk => ?_, fun q h0 h1 => ?_⟩
  · rcases insAt_mem.1 ht with rfl | ht
    · exact absurd hk hs
    · rw [← h.text t ht hk]
      exact List.map_congr_left fun q _ => hx q.toNat
  · rw [insAt_countP, h.one q h0 h1]
    have : mkOf q s = false := by unfold mkOf; simp [hs]
    rw [this]; simp
theorem countP_map_shift {T at_ n : Int} (q : Int) (ha : 0 ≤ at_ ∧ at_ ≤ T) (hn : 0 ≤ n) (hs : T + n ≤ 65535) : ∀ (S : List Sig), (∀ s ∈ S, Pls T s.2.2) → (S.map fun s => (s.1, s.2.1, (thrF s.2.2 at_ n).1)).countP (mkOf q) = if q < at_ then S.countP (mkOf q) else if q < at_ + n then 0 else S.countP (mkOf (q - n))
  | [], _ => by simp
  | s :: S, h => by
    have ih := countP_map_shift q ha hn hs S fun x hx => h x (List.mem_cons_of_mem _ hx)
    obtain ⟨t1, t2, t3, t4⟩ := thr_ok (h s List.mem_cons_self) (by omega) ha hn hs
    have e2 : inRb q (thrF s.2.2 at_ n).1 = if q < at_ then inRb q s.2.2 else if q < at_ + n then false else inRb (q - n) s.2.2 := by
      rw [Bool.eq_iff_iff]
      rw [inRb_iff, t3 q]
      by_cases c1 : q < at_
      · rw [if_pos c1, inRb_iff]
        constructor
        · rintro (h | h)
          · exact h.2
          · omega
        · intro h; exact .inl ⟨c1, h⟩
      · rw [if_neg c1]
        by_cases c2 : q < at_ + n
        · rw [if_pos c2]
          constructor
          · rintro (h | h) <;> omega
          · intro h; cases h
        · rw [if_neg c2, inRb_iff]
          constructor
          · rintro (h | h)
            · omega
            · exact h.2
          · intro h; exact .inr ⟨by omega, h⟩
    rw [List.map_cons, List.countP_cons, ih]
    have e3 : mkOf q (s.1, s.2.1, (thrF s.2.2 at_ n).1) = (decide (s.1 = 1) && inRb q (thrF s.2.2 at_ n).1) := rfl
    rw [e3, e2]
    by_cases c1 : q < at_
    · simp only [if_pos c1]; rw [List.countP_cons]; rfl
    · by_cases c2 : q < at_ + n
      · simp only [if_neg c1, if_pos c2]; simp
      · simp only [if_neg c1, if_neg c2]; rw [List.countP_cons]; rfl
theorem put_mk {H : Hist} (h : HV H) {i : Nat} {o : GOp} {es : List Ent} {nw : List Rg} {eff : GOp} (g : Good H i o) (p : PutIs H i o es nw eff) {X : List Ce} (hr : Rule H X) (hm : Mk (sigs H.ents) H.total X) : Mk (sigs (newEnts i o nw es (carryF o (H.ops.drop i)).2)) (H.total + widthF o) (applyRow eff X) := by
  obtain ⟨c1, c2, c3, c4, c5⟩ := cross_good h g
  have h0 := h.total0
  have hs := p.sames h g
  have hroom := g.room
  have hwid := g.right.width
  have hlen := hr.len
  rw [sigs_new hs]
  have hpl : ∀ s ∈ sigs H.ents, Pls H.total s.2.2 := fun s hs => by obtain ⟨e, he, rfl⟩ := List.mem_map.1 hs; exact h.pls e he
  rcases g.right.kind with hk | hk | hk
  · obtain ⟨e1, e2, e3⟩ := p.ins hk
    have hti := c2.ins (c4.kind.trans hk)
    have hw2 : widthF (carryF o (H.ops.drop i)).1 = widthF o := c4.width
    have hwk := (hwid.2.2.1 hk).2
    have hrun := runes_width g.right hk
    generalize hta : (carryF o (H.ops.drop i)).1.at_ = ta at *
    have hek : eff.kind = 1 := by rw [e3]; exact hk
    have hes : sigs es = (sigs H.ents).map fun s => (s.1, s.2.1, (thrF s.2.2 ta (widthF o)).1) := by rw [e1]; unfold sigs; rw [List.map_map, List.map_map]; rfl
    have happ : applyRow eff X = X.take ta.toNat ++ (cellsOf (runesF o.text) 0 ++ X.drop ta.toNat) := by unfold applyRow; rw [if_pos hek, e3]
    have el1 : (X.take ta.toNat).length = ta.toNat := by rw [List.length_take]; omega
    have hlo : ∀ q : Nat, q < ta.toNat → (applyRow eff X)[q]? = X[q]? := fun q hq => by rw [happ, List.getElem?_append_left (by omega), List.getElem?_take, if_pos hq]
    have hhi : ∀ q : Nat, ta.toNat + (widthF o).toNat ≤ q → (applyRow eff X)[q]? = X[q - (widthF o).toNat]? := fun q hq => by
      rw [happ, List.getElem?_append_right (by omega), List.getElem?_append_right (by rw [cellsOf_length]; omega), cellsOf_length, List.getElem?_drop]
      congr 1; omega
    have hmid : ∀ j : Nat, j < (runesF o.text).length → ((applyRow eff X)[ta.toNat + j]?).map (·.1) = (runesF o.text)[j]? := fun j hj => by
      rw [happ, List.getElem?_append_right (by omega), List.getElem?_append_left (by rw [cellsOf_length]; omega), el1, Nat.add_sub_cancel_left]
      unfold cellsOf; rw [List.getElem?_map, Option.map_map, show ((fun c : Ce => c.1) ∘ fun c : Int => ((c, 0) : Ce)) = id from rfl, Option.map_id]; rfl
    rw [hes, e2]
    refine ⟨fun s hs2 hk2 => ?_, fun q hq0 hq1 => ?_⟩
    · rcases insAt_mem.1 hs2 with rfl | hs2
      · show (placesF [⟨ta, ta + widthF o⟩]).map _ = (runesF o.text).map some
        rw [places_cons, show placesF [] = [] from rfl, List.append_nil, List.map_map]
        dsimp only
        rw [show (ta + widthF o - ta).toNat = (runesF o.text).length from by omega]
        apply List.ext_getElem?
        intro j
        rw [List.getElem?_map, List.getElem?_map]
        by_cases hj : j < (runesF o.text).length
        · rw [List.getElem?_range (by omega)]
          simp only [Option.map_some, Function.comp]
          rw [show (ta + (j : Int)).toNat = ta.toNat + j from by omega, hmid j hj, List.getElem?_eq_getElem hj]; rfl
        · rw [List.getElem?_eq_none (by rw [List.length_range]; omega), List.getElem?_eq_none (by omega)]; rfl
      · obtain ⟨t, ht, rfl⟩ := List.mem_map.1 hs2
        show (placesF (thrF t.2.2 ta (widthF o)).1).map _ = _
        rw [places_shift (hpl t ht) h0 ⟨hti.1, hti.2.1⟩ hwid.1 (by omega), List.map_map, ← hm.text t ht hk2]
        refine List.map_congr_left fun q hq => ?_
        have hqp := (hpl t ht).in (mem_places.1 hq)
        simp only [Function.comp]
        unfold shQ
        split
        · rw [hlo _ (by omega)]
        · rw [hhi _ (by omega)]
          congr 2; omega
    · rw [insAt_countP, countP_map_shift (T := H.total) q ⟨hti.1, hti.2.1⟩ hwid.1 (by omega) _ hpl]
      have e4 : mkOf q (o.kind, o.text, [⟨ta, ta + widthF o⟩]) = (decide (ta ≤ q) && decide (q < ta + widthF o)) := by unfold mkOf inRb; simp [hk]
      rw [e4]
      by_cases d1 : q < ta
      · rw [if_pos d1, hm.one q hq0 (by omega)]
        rw [show decide (ta ≤ q) = false from by simp; omega]; rfl
      · rw [if_neg d1]
        by_cases d2 : q < ta + widthF o
        · rw [if_pos d2, show decide (ta ≤ q) = true from by simp; omega, show decide (q < ta + widthF o) = true from by simp; omega]; rfl
        · rw [if_neg d2, hm.one (q - widthF o) (by omega) (by omega), show decide (q < ta + widthF o) = false from by simp; omega, Bool.and_false]; rfl
  · obtain ⟨e1, e2, e3⟩ := p.hide hk
    obtain ⟨t1, t2⟩ := c2.cov (c4.kind.trans hk) (by omega)
    rw [e1, hwid.2.2.2 (by omega), Int.add_zero]
    refine hm.same (fun q => ?_) (by show o.kind ≠ 1; omega)
    have hek : eff.kind = 2 := by rw [e3]; exact hk
    have hers : eff.rs = (carryF o (H.ops.drop i)).1.rs := by rw [e3]
    unfold applyRow
    rw [if_neg (by omega), if_pos hek, hers, (bumpL_get (k := 1) _ 0 X (Int.le_refl _) t2.norm (by rw [hlen]; exact t2.below)).2 q, Option.map_map]
    congr 1; funext c; simp only [Function.comp]; split <;> rfl
  · obtain ⟨e1, e2, e3⟩ := p.status hk
    have hsg : sigs es = sigs H.ents := by rw [e1]; exact sigs_turned H i o
    rw [hsg, hwid.2.2.2 (by omega), Int.add_zero]
    refine hm.same (fun q => ?_) (by show o.kind ≠ 1; omega)
    rcases turned_cases H i o with e | ⟨k, e, g1, g2, g3, g4, g5⟩
    · rw [e3, e]; rfl
    · have hpe := h.pls e (List.mem_of_getElem? g2)
      have hers : eff.rs = e.now := by rw [e3, g5]; rfl
      have hek : eff.kind = 2 ∨ eff.kind = 3 := by rw [e3, g5]; unfold turnF; simp only; split <;> simp
      have key : ∀ k, ((bumpL e.now k X)[q]?).map (·.1) = (X[q]?).map (·.1) := fun k => by
        rw [(bumpL_get (k := k) _ 0 X (Int.le_refl _) hpe.norm (by rw [hlen]; exact hpe.below)).2 q, Option.map_map]
        congr 1; funext c; simp only [Function.comp]; split <;> rfl
      unfold applyRow
      rcases hek with hek | hek
      · rw [if_neg (by omega), if_pos hek, hers]; exact key 1
      · rw [if_neg (by omega), if_neg (by omega), if_pos hek, hers]; exact key (-1)
theorem Made.mk {n : Nat} {H : Hist} {X : List Ce} (h : Made n H X) : n ≤ 1000 → Mk (sigs H.ents) H.total X := by
  induction h with
  | zero => exact fun _ => ⟨fun s hs => (by cases hs), fun q h0 h1 => by simp at h1; omega⟩
  | step h g ih =>
    intro hn
    obtain ⟨h1, h2, h3⟩ := h.inv (by omega)
    obtain ⟨es, nw, eff, p⟩ := put_good h1 g
    have := put_mk h1 g p h2 (ih (by omega))
    rw [p.put]; exact this
end Go.Proofs.YtggdddkbhigjoaaDoor
/- Names of cells: what an order's operations mean, whatever the turns in which they came. -/
namespace Go.Proofs.YtggdddkbhigjoaaDoor
open Go Go.GW
abbrev Nm := Int × Int × Nat
/-- The names that an insert puts in. -/
def blk (o : GOp) : List Nm := (List.range (widthF o).toNat).map fun k => (o.c, o.n, k)
/-- A row with an operation's cells. -/
def insRow (o : GOp) (N : List Nm) : List Nm := N.take o.at_.toNat ++ (blk o ++ N.drop o.at_.toNat)
/-- The names that an operation has in its context. -/
def namesOf (o : GOp) (N : List Nm) : List (Option Nm) := if o.kind = 1 then (blk o).map some else (placesF o.rs).map fun q => N[q.toNat]?
theorem blk_len (o : GOp) : (blk o).length = (widthF o).toNat := by unfold blk; simp
theorem blk_nil {o : GOp} (h : widthF o = 0) : blk o = [] := by unfold blk; rw [h]; rfl
theorem insRow_nil {o : GOp} (h : widthF o = 0) (N : List Nm) : insRow o N = N := by unfold insRow; rw [blk_nil h, List.nil_append, List.take_append_drop]
theorem insRow_len (o : GOp) (N : List Nm) (h : 0 ≤ o.at_ ∧ o.at_ ≤ N.length) : (insRow o N).length = N.length + (widthF o).toNat := by
  unfold insRow; simp only [List.length_append, List.length_take, List.length_drop, blk_len]; omega
theorem insRow_get {o : GOp} {N : List Nm} (h : 0 ≤ o.at_ ∧ o.at_ ≤ N.length) (hw : 0 ≤ widthF o) (q : Int) (hq : 0 ≤ q) : (insRow o N)[(shQ o.at_ (widthF o) q).toNat]? = N[q.toNat]? := by
  have e1 : (N.take o.at_.toNat).length = o.at_.toNat := by rw [List.length_take]; omega
  unfold insRow shQ
  split
  · rw [List.getElem?_append_left (by omega), List.getElem?_take, if_pos (by omega)]
  · rw [List.getElem?_append_right (by omega), List.getElem?_append_right (by rw [blk_len]; omega), List.getElem?_drop]
    congr 1
    rw [blk_len]; omega
/-- Two blocks go in, in either order. -/
theorem ins_comm {α : Type} (N A B : List α) (a b : Nat) (h1 : a ≤ b) (h2 : b ≤ N.length) :
    (N.take a ++ (A ++ N.drop a)).take (b + A.length) ++ (B ++ (N.take a ++ (A ++ N.drop a)).drop (b + A.length)) = (N.take b ++ (B ++ N.drop b)).take a ++ (A ++ (N.take b ++ (B ++ N.drop b)).drop a) := by
  have e1 : (N.take a).length = a := by rw [List.length_take]; omega
  have e2 : (N.take b).length = b := by rw [List.length_take]; omega
  have l1 : (N.take a ++ (A ++ N.drop a)).take (b + A.length) = N.take a ++ (A ++ (N.drop a).take (b - a)) := by
    rw [show b + A.length = (N.take a).length + (A.length + (b - a)) from by omega, List.take_length_add_append, List.take_length_add_append]
  have l2 : (N.take a ++ (A ++ N.drop a)).drop (b + A.length) = N.drop b := by
    rw [show b + A.length = (N.take a).length + (A.length + (b - a)) from by omega, List.drop_length_add_append, List.drop_length_add_append, List.drop_drop]
    congr 1; omega
  have l3 : (N.take b ++ (B ++ N.drop b)).take a = N.take a := by
    rw [List.take_append_of_le_length (by omega), List.take_take]; congr 1; omega
  have l4 : (N.take b ++ (B ++ N.drop b)).drop a = (N.drop a).take (b - a) ++ (B ++ N.drop b) := by
    rw [List.drop_append_of_le_length (by omega), List.drop_take]
  rw [l1, l2, l3, l4]; simp
/-- Carried over an operation, an operation has the names that it had. -/
theorem inc_names {w : Int} {N : List Nm} (hN : (N.length : Int) = w) {g h : GOp} (e : Bool) (hg : Right w g) (hh : Right w h) (hc : ¬ clashF g h) (hw : w + widthF g + widthF h ≤ 65535) : namesOf (includeF g h e).1 (insRow h N) = namesOf g N := by
  have w0 := hg.w0
  have wg := hg.width
  have wh := hh.width
  unfold includeF
  rw [if_neg hc]
  by_cases hk : h.kind = 1
  · rw [if_neg (by omega)]
    have hi := hh.ins hk
    rcases hg.kind with gk | gk | gk
    · rw [if_pos gk]
      have gi := hg.ins gk
      split
      · unfold movedF
        rw [if_neg (show ¬ (g.at_ + widthF h + widthF g > 1048576) by omega)]
        unfold namesOf
        rw [if_pos gk, if_pos (show ({ g with at_ := g.at_ + widthF h, rs := [] } : GOp).kind = 1 from gk)]; rfl
      · unfold namesOf; rw [if_pos gk, if_pos gk]
    · rw [if_neg (by omega), if_pos (.inl gk)]
      obtain ⟨c1, c2⟩ := hg.cov gk (by omega)
      obtain ⟨t1, t2, t3, t4⟩ := thr_ok c2 w0.1 ⟨hi.1, hi.2.1⟩ wh.1 (by omega)
      unfold rangedF
      rw [if_neg (by rw [t1]; simp)]
      unfold namesOf
      rw [if_neg (show ¬ g.kind = 1 by omega), if_neg (show ¬ ({ g with rs := (thrF g.rs h.at_ (widthF h)).1 } : GOp).kind = 1 by show ¬ g.kind = 1; omega)]
      show (placesF (thrF g.rs h.at_ (widthF h)).1).map _ = _
      rw [places_shift c2 w0.1 ⟨hi.1, hi.2.1⟩ wh.1 (by omega), List.map_map]
      refine List.map_congr_left fun q hq => ?_
      have hq2 := c2.in (mem_places.1 hq)
      exact insRow_get (by omega) wh.1 q hq2.1
    · rw [if_neg (by omega), if_neg (by omega)]
      unfold namesOf
      have g1 : ¬ g.kind = 1 := by omega
      simp only [g1, if_false, hg.noRs (show g.kind ≠ 2 by omega)]; rfl
  · rw [if_pos hk, insRow_nil (wh.2.2.2 hk)]
theorem inc_ins {a b : GOp} (e : Bool) (hc : ¬ clashF a b) (hb : b.kind = 1) (ha : a.kind = 1) (hw : a.at_ + widthF b + widthF a ≤ 1048576) : includeF a b e = (if b.at_ < a.at_ ∨ (b.at_ = a.at_ ∧ e = true) then ({ a with at_ := a.at_ + widthF b, rs := [] }, 0) else (a, 0)) := by
  unfold includeF
  rw [if_neg hc, if_neg (by omega), if_pos ha]
  split
  · unfold movedF; rw [if_neg (by omega)]
  · rfl
/-- f is ahead of l, both are inserts: both rows in the end are one. -/
theorem inc_rows1 {w : Int} {N : List Nm} (hN : (N.length : Int) = w) {f l : GOp} (hf : Right w f) (hl : Right w l) (hc : ¬ clashF f l) (hw : w + widthF f + widthF l ≤ 65535) (hk : f.kind = 1) (lk : l.kind = 1) : insRow (includeF l f true).1 (insRow f N) = insRow (includeF f l false).1 (insRow l N) := by
  have wf := hf.width
  have wl := hl.width
  have hc2 : ¬ clashF l f := fun h => hc (clash_comm.1 h)
  have fi := hf.ins hk
  have li := hl.ins lk
  rw [inc_ins true hc2 hk lk (by omega), inc_ins false hc lk hk (by omega)]
  by_cases hlt : f.at_ ≤ l.at_
  · rw [if_pos (show f.at_ < l.at_ ∨ (f.at_ = l.at_ ∧ true = true) from by rcases Int.lt_or_eq_of_le hlt with h | h; exact .inl h; exact .inr ⟨h, rfl⟩), if_neg (show ¬ (l.at_ < f.at_ ∨ (l.at_ = f.at_ ∧ false = true)) from by rintro (h | ⟨_, h⟩); omega; cases h)]
    have := ins_comm N (blk f) (blk l) f.at_.toNat l.at_.toNat (by omega) (by omega)
    rw [blk_len, ← show (l.at_ + widthF f).toNat = l.at_.toNat + (widthF f).toNat from by omega] at this
    exact this
  · rw [if_neg (show ¬ (f.at_ < l.at_ ∨ (f.at_ = l.at_ ∧ true = true)) from by rintro (h | ⟨h, _⟩) <;> omega), if_pos (show l.at_ < f.at_ ∨ (l.at_ = f.at_ ∧ false = true) from .inl (by omega))]
    have := ins_comm N (blk l) (blk f) l.at_.toNat f.at_.toNat (by omega) (by omega)
    rw [blk_len, ← show (f.at_ + widthF l).toNat = f.at_.toNat + (widthF l).toNat from by omega] at this
    exact this.symm
theorem inc_width {a b : GOp} (e : Bool) (ha : a.kind ≠ 1) (hb : (includeF a b e).1.kind = a.kind) : widthF (includeF a b e).1 = 0 := by unfold widthF; rw [if_neg (by rw [hb]; exact ha)]
theorem inc_off {a b : GOp} (e : Bool) (hc : ¬ clashF a b) (hb : b.kind ≠ 1) : includeF a b e = (a, 0) := by unfold includeF; rw [if_neg hc, if_pos hb]
theorem inc_rows {w : Int} {N : List Nm} (hN : (N.length : Int) = w) {f l : GOp} (hf : Right w f) (hl : Right w l) (hc : ¬ clashF f l) (hw : w + widthF f + widthF l ≤ 65535) (s1 : (includeF l f true).1.kind = l.kind) (s2 : (includeF f l false).1.kind = f.kind) : insRow (includeF l f true).1 (insRow f N) = insRow (includeF f l false).1 (insRow l N) := by
  have wf := hf.width
  have wl := hl.width
  have hc2 : ¬ clashF l f := fun h => hc (clash_comm.1 h)
  by_cases hk : f.kind = 1
  · by_cases lk : l.kind = 1
    · exact inc_rows1 hN hf hl hc hw hk lk
    · rw [inc_off false hc lk, insRow_nil (inc_width true lk s1), insRow_nil (wl.2.2.2 lk)]
  · rw [inc_off true hc2 hk, insRow_nil (wf.2.2.2 hk), insRow_nil (inc_width false hk s2)]
end Go.Proofs.YtggdddkbhigjoaaDoor
/- A history that was made is what its operations say, in their order. -/
namespace Go.Proofs.YtggdddkbhigjoaaDoor
open Go Go.GW
/-! ### Names -/
def rowN : List Nm → List GOp → List Nm
  | N, [] => N
  | N, o :: l => rowN (insRow o N) l
/-- The names of each operation in its own context. -/
def allN : List Nm → List GOp → List (List (Option Nm))
  | _, [] => []
  | N, o :: l => namesOf o N :: allN (insRow o N) l
theorem rowN_append : ∀ (N : List Nm) (a b : List GOp), rowN N (a ++ b) = rowN (rowN N a) b
  | N, [], b => rfl
  | N, o :: a, b => by simp only [List.cons_append, rowN]; exact rowN_append _ a b
theorem allN_append : ∀ (N : List Nm) (a b : List GOp), allN N (a ++ b) = allN N a ++ allN (rowN N a) b
  | N, [], b => rfl
  | N, o :: a, b => by simp only [List.cons_append, allN, rowN]; rw [allN_append _ a b]
theorem allN_length : ∀ (N : List Nm) (a : List GOp), (allN N a).length = a.length
  | N, [] => rfl
  | N, o :: a => by simp only [allN, List.length_cons, allN_length _ a]
theorem Right.rowLen {w : Int} {o : GOp} (h : Right w o) {N : List Nm} (hN : (N.length : Int) = w) : ((insRow o N).length : Int) = w + widthF o := by
  have h1 := h.width
  by_cases hk : o.kind = 1
  · have h2 := h.ins hk
    rw [insRow_len o N (by omega)]; omega
  · rw [insRow_nil (h1.2.2.2 hk), h1.2.2.2 hk]; omega
theorem rowN_len : ∀ {w : Int} {N : List Nm} {l : List GOp}, (N.length : Int) = w → CtxOk w l → ((rowN N l).length : Int) = w + sumO l
  | w, N, [], h, _ => by simp only [rowN, sumO]; omega
  | w, N, o :: l, h, hc => by
    simp only [rowN, sumO]
    rw [rowN_len (hc.1.rowLen h) hc.2]; omega
theorem carry_names : ∀ (ls : List GOp) (f : GOp) (w : Int) (N : List Nm), (N.length : Int) = w → Right w f → CtxOk w ls → (∀ l ∈ ls, ¬ clashF f l) → w + sumO ls + widthF f ≤ 65535 →
    namesOf (carryF f ls).1 (rowN N ls) = namesOf f N ∧ allN (insRow f N) (carryF f ls).2 = allN N ls ∧ rowN (insRow f N) (carryF f ls).2 = insRow (carryF f ls).1 (rowN N ls)
  | [], f, w, N, hN, hf, _, _, _ => ⟨rfl, rfl, rfl⟩
  | l :: ls, f, w, N, hN, hf, hl, hc, hw => by
    simp only [sumO] at hw
    have h1 := sumO_nonneg hl.2
    have hc1 : ¬ clashF f l := hc l List.mem_cons_self
    have hc2 : ¬ clashF l f := fun h => hc1 (clash_comm.1 h)
    obtain ⟨a1, a2⟩ := include_ok false hf hl.1 hc1 (by omega)
    obtain ⟨b1, b2⟩ := include_ok true hl.1 hf hc2 (by omega)
    have s1 := include_same a1
    have s2 := include_same b1
    obtain ⟨c1, c2, c3⟩ := carry_names ls (includeF f l false).1 (w + widthF l) (insRow l N) (hl.1.rowLen hN) a2 hl.2 (fun x hx h => hc x (List.mem_cons_of_mem _ hx) ((clash_same s1 (Same.refl x)).1 h)) (by rw [s1.width]; omega)
    have e1 := inc_rows hN hf hl.1 hc1 (by omega) s2.kind s1.kind
    have e2 := inc_names hN false hf hl.1 hc1 (by omega)
    have e3 := inc_names hN true hl.1 hf hc2 (by omega)
    refine ⟨?_, ?_, ?_⟩
    · simp only [carryF, rowN]; rw [c1, e2]
    · simp only [carryF, allN]; rw [e3, e1, c2]
    · simp only [carryF, rowN]; rw [e1, c3]
theorem insRow_perm (o : GOp) (N : List Nm) : (insRow o N).Perm (blk o ++ N) := by
  unfold insRow
  have h := (List.perm_append_comm (l₁ := N.take o.at_.toNat) (l₂ := blk o)).append_right (N.drop o.at_.toNat)
  rw [List.append_assoc, List.append_assoc, List.take_append_drop] at h
  exact h
theorem blk_mem {o : GOp} {x : Nm} (h : x ∈ blk o) : x.1 = o.c ∧ x.2.1 = o.n := by
  unfold blk at h
  obtain ⟨k, _, rfl⟩ := List.mem_map.1 h
  exact ⟨rfl, rfl⟩
theorem blk_nodup (o : GOp) : (blk o).Nodup := by
  unfold blk
  refine List.Pairwise.map _ ?_ List.nodup_range
  intro a b h e
  simp only [Prod.mk.injEq] at e
  exact h e.2.2
theorem rowN_nodup : ∀ {N : List Nm} {l : List GOp}, N.Nodup → (l.map fun o => (o.c, o.n)).Nodup → (∀ x ∈ N, ∀ o ∈ l, ¬ (x.1 = o.c ∧ x.2.1 = o.n)) → (rowN N l).Nodup
  | N, [], h, _, _ => h
  | N, o :: l, h, h2, h3 => by
    simp only [List.map_cons, List.nodup_cons] at h2
    simp only [rowN]
    refine rowN_nodup ?_ h2.2 ?_
    · rw [(insRow_perm o N).nodup_iff, List.nodup_append]
      refine ⟨blk_nodup o, h, fun a ha b hb e => ?_⟩
      subst e
      exact h3 a hb o List.mem_cons_self (blk_mem ha)
    · intro x hx p hp hh
      rcases List.mem_append.1 ((insRow_perm o N).mem_iff.1 hx) with hx | hx
      · have := blk_mem hx
        exact h2.1 (List.mem_map.2 ⟨p, hp, by rw [← hh.1, ← hh.2, this.1, this.2]⟩)
      · exact h3 x hx p (List.mem_cons_of_mem _ hp) hh
/-! ### Targets -/
def TgtOk : List GOp → List GOp → Prop
  | _, [] => True
  | P, o :: l => (o.kind = 4 → ∃ p ∈ P, p.c = o.tc ∧ p.n = o.tn ∧ p.kind ≠ 4) ∧ TgtOk (P ++ [o]) l
theorem TgtOk.append : ∀ {P a b : List GOp}, TgtOk P (a ++ b) ↔ TgtOk P a ∧ TgtOk (P ++ a) b
  | P, [], b => by simp [TgtOk]
  | P, o :: a, b => by
    simp only [List.cons_append, TgtOk, TgtOk.append (a := a), and_assoc]
    rw [List.append_assoc]; rfl
theorem TgtOk.mono : ∀ {P P' l l' : List GOp}, Sames l l' → (∀ p ∈ P, ∃ q ∈ P', q.c = p.c ∧ q.n = p.n ∧ q.kind = p.kind) → TgtOk P l → TgtOk P' l'
  | P, P', _, _, .nil, _, _ => trivial
  | P, P', _, _, .cons (a := a) (b := b) h hs, hp, ht => by
    refine ⟨fun hk => ?_, TgtOk.mono hs (fun p hp' => ?_) ht.2⟩
    · obtain ⟨p, h1, h2, h3, h4⟩ := ht.1 (by rw [← h.kind]; exact hk)
      obtain ⟨q, g1, g2, g3, g4⟩ := hp p h1
      exact ⟨q, g1, by rw [g2, h2, h.tc], by rw [g3, h3, h.tn], by rw [g4]; exact h4⟩
    · rcases List.mem_append.1 hp' with hp' | hp'
      · obtain ⟨q, g1, g2⟩ := hp p hp'
        exact ⟨q, List.mem_append_left _ g1, g2⟩
      · simp only [List.mem_singleton] at hp'; subst hp'
        exact ⟨b, List.mem_append_right _ (List.mem_singleton.2 rfl), h.c, h.n, h.kind⟩
theorem TgtOk.mem : ∀ {P l : List GOp}, TgtOk P l → ∀ o ∈ l, o.kind = 4 → ∃ p ∈ P ++ l, p.c = o.tc ∧ p.n = o.tn
  | P, [], _, o, h, _ => by cases h
  | P, x :: l, ht, o, h, hk => by
    rcases List.mem_cons.1 h with rfl | h
    · obtain ⟨p, h1, h2, h3, _⟩ := ht.1 hk
      exact ⟨p, List.mem_append_left _ h1, h2, h3⟩
    · obtain ⟨p, h1, h2⟩ := ht.2.mem o h hk
      exact ⟨p, by rw [List.append_assoc] at h1; exact h1, h2⟩
/-! ### States -/
def lastOff (c n : Int) : Bool → List GOp → Bool
  | b, [] => b
  | b, o :: l => lastOff c n (if o.kind = 4 ∧ o.tc = c ∧ o.tn = n then !o.on else b) l
theorem lastOff_append (c n : Int) : ∀ (b : Bool) (l m : List GOp), lastOff c n b (l ++ m) = lastOff c n (lastOff c n b l) m
  | b, [], m => rfl
  | b, o :: l, m => by simp only [List.cons_append, lastOff]; exact lastOff_append c n _ l m
theorem lastOff_same {c n : Int} {b : Bool} {l l' : List GOp} (h : Sames l l') : lastOff c n b l' = lastOff c n b l := by
  induction h generalizing b with
  | nil => rfl
  | cons h _ ih => simp only [lastOff]; rw [h.kind, h.tc, h.tn, h.on]; exact ih
theorem lastOff_none {c n : Int} {b : Bool} : ∀ {l : List GOp}, (∀ o ∈ l, o.kind = 4 → ¬ (o.tc = c ∧ o.tn = n)) → lastOff c n b l = b
  | [], _ => rfl
  | o :: l, h => by
    simp only [lastOff]
    rw [if_neg (fun hh => h o List.mem_cons_self hh.1 hh.2)]
    exact lastOff_none fun p hp => h p (List.mem_cons_of_mem _ hp)
theorem lastOff_any {c n : Int} : ∀ {l : List GOp}, (∃ o ∈ l, o.kind = 4 ∧ o.tc = c ∧ o.tn = n) → ∀ b b' : Bool, lastOff c n b l = lastOff c n b' l
  | [], h, _, _ => by obtain ⟨o, h, _⟩ := h; cases h
  | x :: l, h, b, b' => by
    simp only [lastOff]
    by_cases hx : x.kind = 4 ∧ x.tc = c ∧ x.tn = n
    · rw [if_pos hx, if_pos hx]
    · rw [if_neg hx, if_neg hx]
      obtain ⟨o, h1, h2⟩ := h
      rcases List.mem_cons.1 h1 with rfl | h1
      · exact absurd h2 hx
      · exact lastOff_any ⟨o, h1, h2⟩ b b'
theorem later_iff {l : List Ent} {c n : Int} : laterT l c n = true ↔ ∃ o ∈ l.map (·.op), o.kind = 4 ∧ o.tc = c ∧ o.tn = n := by
  unfold laterT
  rw [List.any_eq_true]
  simp only [Bool.and_eq_true, decide_eq_true_eq, List.mem_map]
  constructor
  · rintro ⟨e, h1, h2⟩; exact ⟨e.op, ⟨e, h1, rfl⟩, h2⟩
  · rintro ⟨o, ⟨e, h1, rfl⟩, h2⟩; exact ⟨e, h1, h2⟩
/-! ### What a made history is -/
def nmE (N : List Nm) (e : Ent) : List (Option Nm) := (placesF e.now).map fun q => N[q.toNat]?
structure CI (H : Hist) : Prop where
  now : H.ents.map (nmE (rowN [] H.ops)) = allN [] H.ops
  tgt : TgtOk [] H.ops
  off : ∀ e ∈ H.ents, e.off = lastOff e.op.c e.op.n false H.ops
theorem nm_zipE (N : List Nm) : ∀ (xs : List GOp) (es : List Ent), Sames (es.map (·.op)) xs → (zipE xs es).map (nmE N) = es.map (nmE N)
  | [], [], _ => rfl
  | x :: xs, e :: es, h => by
    cases h with
    | cons h hr => simp only [zipE, List.map_cons]; rw [nm_zipE N xs es hr]; rfl
  | [], e :: es, h => by cases h
  | x :: xs, [], h => by cases h
theorem put_ops {H : Hist} (h : HV H) {i : Nat} {o : GOp} {es : List Ent} {nw : List Rg} {eff : GOp} (g : Good H i o) (p : PutIs H i o es nw eff) : (⟨newEnts i o nw es (carryF o (H.ops.drop i)).2, H.total + widthF o⟩ : Hist).ops = H.ops.take i ++ ([o] ++ (carryF o (H.ops.drop i)).2) := by
  show (newEnts i o nw es (carryF o (H.ops.drop i)).2).map (·.op) = _
  rw [newEnts_ops (p.sames h g), p.es_ops g]
theorem put_now {H : Hist} (h : HV H) {i : Nat} {o : GOp} {es : List Ent} {nw : List Rg} {eff : GOp} (g : Good H i o) (p : PutIs H i o es nw eff) (I : CI H) :
    (newEnts i o nw es (carryF o (H.ops.drop i)).2).map (nmE (rowN [] (H.ops.take i ++ ([o] ++ (carryF o (H.ops.drop i)).2)))) = allN [] (H.ops.take i ++ ([o] ++ (carryF o (H.ops.drop i)).2)) := by
  obtain ⟨c1, c2, c3, c4, c5⟩ := cross_good h g
  obtain ⟨s1, s2, s3, s4⟩ := h.split i
  have hroom := g.room
  have hwid := g.right.width
  have h0 := h.total0
  have hA : ((rowN [] (H.ops.take i)).length : Int) = beforeF H i := by rw [rowN_len (w := 0) rfl s1, before_ops]; omega
  obtain ⟨k1, k2, k3⟩ := carry_names (H.ops.drop i) o (beforeF H i) (rowN [] (H.ops.take i)) hA g.right s2 (fun l hl => g.noclash l (List.mem_of_mem_drop hl)) (by omega)
  have eN : rowN (rowN [] (H.ops.take i)) (H.ops.drop i) = rowN [] H.ops := by rw [← rowN_append, List.take_append_drop]
  have eN' : rowN [] (H.ops.take i ++ ([o] ++ (carryF o (H.ops.drop i)).2)) = insRow (carryF o (H.ops.drop i)).1 (rowN [] H.ops) := by
    rw [rowN_append]; show rowN (insRow o (rowN [] (H.ops.take i))) (carryF o (H.ops.drop i)).2 = _
    rw [k3, eN]
  have hNl : ((rowN [] H.ops).length : Int) = H.total := by rw [rowN_len (w := 0) rfl h.ctx, h.tot]; omega
  rw [eN] at k1
  rw [eN', allN_append]
  show _ = allN [] (H.ops.take i) ++ (namesOf o (rowN [] (H.ops.take i)) :: allN (insRow o (rowN [] (H.ops.take i))) (carryF o (H.ops.drop i)).2)
  rw [k2]
  have hal : allN [] (H.ops.take i) ++ allN (rowN [] (H.ops.take i)) (H.ops.drop i) = allN [] H.ops := by rw [← allN_append, List.take_append_drop]
  have hil : i ≤ H.ops.length := by unfold Hist.ops; rw [List.length_map]; exact g.le
  have hlen : (allN [] (H.ops.take i)).length = i := by rw [allN_length, List.length_take]; omega
  have e1 : allN [] (H.ops.take i) = (allN [] H.ops).take i := by rw [← hal, List.take_left' hlen]
  have e2 : allN (rowN [] (H.ops.take i)) (H.ops.drop i) = (allN [] H.ops).drop i := by rw [← hal, List.drop_left' hlen]
  rw [e1, e2, ← I.now]
  have wf : widthF (carryF o (H.ops.drop i)).1 = widthF o := c4.width
  have hes : es.map (nmE (insRow (carryF o (H.ops.drop i)).1 (rowN [] H.ops))) = H.ents.map (nmE (rowN [] H.ops)) ∧ nmE (insRow (carryF o (H.ops.drop i)).1 (rowN [] H.ops)) ⟨o, nw, false⟩ = namesOf o (rowN [] (H.ops.take i)) := by
    rw [← k1]
    rcases g.right.kind with hk | hk | hk
    · obtain ⟨q1, q2, q3⟩ := p.ins hk
      have hti := c2.ins (c4.kind.trans hk)
      have hw1 := (hwid.2.2.1 hk).1
      constructor
      · rw [q1, List.map_map]
        refine List.map_congr_left fun e he => ?_
        have hpe := h.pls e he
        show (placesF (thrF e.now (carryF o (H.ops.drop i)).1.at_ (widthF o)).1).map _ = _
        rw [places_shift hpe h0 ⟨hti.1, hti.2.1⟩ hwid.1 (by omega), List.map_map]
        unfold nmE
        refine List.map_congr_left fun q hq => ?_
        have hq2 := hpe.in (mem_places.1 hq)
        have := insRow_get (o := (carryF o (H.ops.drop i)).1) (N := rowN [] H.ops) (by omega) (by omega) q hq2.1
        rw [wf] at this
        exact this
      · rw [q2]
        unfold nmE namesOf
        rw [if_pos (show (carryF o (H.ops.drop i)).1.kind = 1 from c4.kind.trans hk)]
        show (placesF [⟨(carryF o (H.ops.drop i)).1.at_, (carryF o (H.ops.drop i)).1.at_ + widthF o⟩]).map _ = _
        rw [places_cons, show placesF [] = [] from rfl, List.append_nil, List.map_map]
        dsimp only
        have el : (List.take (carryF o (H.ops.drop i)).1.at_.toNat (rowN [] H.ops)).length = (carryF o (H.ops.drop i)).1.at_.toNat := by rw [List.length_take]; omega
        apply List.ext_getElem?
        intro j
        rw [List.getElem?_map, List.getElem?_map]
        have hbl := blk_len (carryF o (H.ops.drop i)).1
        by_cases hj : j < (widthF o).toNat
        · rw [List.getElem?_range (by omega), List.getElem?_eq_getElem (l := blk _) (by omega)]
          simp only [Option.map_some, Function.comp]
          congr 1
          unfold insRow
          rw [List.getElem?_append_right (by omega), List.getElem?_append_left (by omega), el, List.getElem?_eq_getElem (by omega)]
          congr 2; omega
        · rw [List.getElem?_eq_none (by rw [List.length_range]; omega), List.getElem?_eq_none (by omega)]; rfl
    · obtain ⟨q1, q2, q3⟩ := p.hide hk
      rw [insRow_nil (by rw [wf]; exact hwid.2.2.2 (by omega)), q1, q2]
      refine ⟨rfl, ?_⟩
      unfold nmE namesOf
      rw [if_neg (by rw [c4.kind]; omega)]
    · obtain ⟨q1, q2, q3⟩ := p.status hk
      rw [insRow_nil (by rw [wf]; exact hwid.2.2.2 (by omega)), q1, q2]
      constructor
      · rcases turned_cases H i o with e | ⟨k, e, g1, g2, g3, g4, g5⟩
        · rw [e]
        · rw [g5]
          show (H.ents.set k (offE e (!o.on))).map _ = _
          have hkk : k < H.ents.length := by
            rcases Nat.lt_or_ge k H.ents.length with h | h
            · exact h
            · rw [List.getElem?_eq_none h] at g2; cases g2
          rw [List.getElem?_eq_getElem hkk] at g2
          rw [List.map_set, show nmE (rowN [] H.ops) (offE e (!o.on)) = (H.ents.map (nmE (rowN [] H.ops)))[k]'(by rw [List.length_map]; exact hkk) from by rw [List.getElem_map, Option.some.inj g2]; rfl, List.set_getElem_self]
      · unfold nmE namesOf
        rw [if_neg (by rw [c4.kind]; omega), c2.noRs (by rw [c4.kind]; omega)]
  unfold newEnts
  rw [List.map_append, List.map_cons, nm_zipE _ _ _ (p.sames h g), List.map_take, List.map_drop, hes.1, hes.2]
end Go.Proofs.YtggdddkbhigjoaaDoor
/- Two histories that were made and hold one list of operations are one, and so are their rows. -/
namespace Go.Proofs.YtggdddkbhigjoaaDoor
open Go Go.GW
theorem fresh_op {H : Hist} {c n : Int} (h : whereId H.ents c n = none) : ∀ o ∈ H.ops, ¬ (o.c = c ∧ o.n = n) := fun o ho => by
  obtain ⟨e, he, rfl⟩ := List.mem_map.1 ho
  exact whereId_none h e he
theorem good_tgt {H : Hist} {i : Nat} {o : GOp} (g : Good H i o) (hk : o.kind = 4) : ∃ p ∈ H.ops.take i, p.c = o.tc ∧ p.n = o.tn ∧ p.kind ≠ 4 := by
  obtain ⟨k, h1, h2, e, h3, h4⟩ := g.target hk
  obtain ⟨hk, h5, h6⟩ := whereId_some h1
  have h7 : H.ents[k] = e := by rw [List.getElem?_eq_getElem hk] at h3; exact Option.some.inj h3
  subst h7
  refine ⟨H.ents[k].op, List.mem_of_getElem? (i := k) ?_, h5, h6, h4⟩
  rw [List.getElem?_take, if_pos h2]
  unfold Hist.ops
  rw [List.getElem?_map, List.getElem?_eq_getElem hk]; rfl
theorem put_tgt {H : Hist} (h : HV H) {i : Nat} {o : GOp} (g : Good H i o) (I : TgtOk [] H.ops) : TgtOk [] (H.ops.take i ++ ([o] ++ (carryF o (H.ops.drop i)).2)) := by
  obtain ⟨c1, c2, c3, c4, c5⟩ := cross_good h g
  rw [← List.take_append_drop i H.ops, TgtOk.append] at I
  rw [TgtOk.append]
  refine ⟨I.1, ?_, ?_⟩
  · exact good_tgt g
  · refine TgtOk.mono c5 (fun p hp => ⟨p, ?_, rfl, rfl, rfl⟩) I.2
    exact List.mem_append_left _ hp
theorem put_off {H : Hist} (h : HV H) {i : Nat} {o : GOp} {es : List Ent} {nw : List Rg} {eff : GOp} (g : Good H i o) (p : PutIs H i o es nw eff) (I : CI H) :
    ∀ e ∈ newEnts i o nw es (carryF o (H.ops.drop i)).2, e.off = lastOff e.op.c e.op.n false (H.ops.take i ++ ([o] ++ (carryF o (H.ops.drop i)).2)) := by
  obtain ⟨c1, c2, c3, c4, c5⟩ := cross_good h g
  have hT := put_tgt h g I.tgt
  have hs := p.sames h g
  have hsp : ∀ c n, lastOff c n false (H.ops.take i ++ ([o] ++ (carryF o (H.ops.drop i)).2)) = lastOff c n (if o.kind = 4 ∧ o.tc = c ∧ o.tn = n then !o.on else lastOff c n false (H.ops.take i)) (H.ops.drop i) := fun c n => by
    rw [lastOff_append]
    show lastOff c n _ (carryF o (H.ops.drop i)).2 = _
    rw [lastOff_same c5]
  have hold : ∀ c n, lastOff c n (lastOff c n false (H.ops.take i)) (H.ops.drop i) = lastOff c n false H.ops := fun c n => by rw [← lastOff_append, List.take_append_drop]
  -- the old entries
  have hes : ∀ e ∈ es, e.off = lastOff e.op.c e.op.n false (H.ops.take i ++ ([o] ++ (carryF o (H.ops.drop i)).2)) := by
    by_cases hk : o.kind = 4
    · obtain ⟨q1, q2, q3⟩ := p.status hk
      obtain ⟨k0, w1, w2, e0, w3, w4⟩ := g.target hk
      obtain ⟨hk0, w5, w6⟩ := whereId_some w1
      have w7 : H.ents[k0] = e0 := by rw [List.getElem?_eq_getElem hk0] at w3; exact Option.some.inj w3
      -- by the place
      have key : ∀ (j : Nat) (hj : j < H.ents.length), ∀ b : Bool, (j ≠ k0 → b = H.ents[j].off) → (j = k0 → b = (if laterT (H.ents.drop i) o.tc o.tn = true then H.ents[j].off else !o.on)) → b = lastOff H.ents[j].op.c H.ents[j].op.n false (H.ops.take i ++ ([o] ++ (carryF o (H.ops.drop i)).2)) := by
        intro j hj b h1 h2
        have hb := I.off _ (List.getElem_mem hj)
        rw [hsp]
        by_cases hjk : j = k0
        · subst hjk
          rw [w5, w6] at hb ⊢
          rw [if_pos ⟨hk, rfl, rfl⟩, h2 rfl]
          by_cases hl : laterT (H.ents.drop i) o.tc o.tn = true
          · rw [if_pos hl, hb, ← hold]
            obtain ⟨x, hx, hh⟩ := later_iff.1 hl
            exact lastOff_any ⟨x, by unfold Hist.ops; rw [← List.map_drop]; exact hx, hh⟩ _ _
          · rw [if_neg hl, lastOff_none]
            intro x hx hx4 hxx
            refine hl (later_iff.2 ⟨x, ?_, hx4, hxx⟩)
            unfold Hist.ops at hx; rw [← List.map_drop] at hx; exact hx
        · rw [if_neg, h1 hjk, hb, hold]
          rintro ⟨_, x1, x2⟩
          have hn := h.ids
          have := List.getElem_inj (h₀ := by simpa using hj) (h₁ := by simpa using hk0) hn
          simp only [List.getElem_map, Prod.mk.injEq] at this
          exact hjk (this.1 ⟨by rw [w5, x1], by rw [w6, x2]⟩)
      have e1 : (turnedF H i o).1 = H.ents.set k0 (offE e0 (if laterT (H.ents.drop i) o.tc o.tn = true then e0.off else !o.on)) := by
        unfold turnedF
        by_cases hl : laterT (H.ents.drop i) o.tc o.tn = true
        · rw [if_pos hl, if_pos hl]
          show H.ents = H.ents.set k0 e0
          rw [← w7, List.set_getElem_self]
        · rw [if_neg hl, if_neg hl, w1]
          simp only [w3]
          by_cases hx : e0.off = !o.on
          · rw [if_pos hx, ← hx]
            show H.ents = H.ents.set k0 e0
            rw [← w7, List.set_getElem_self]
          · rw [if_neg hx]
      rw [q1, e1]
      intro e he
      obtain ⟨j, hj, hje⟩ := List.mem_iff_getElem.1 he
      rw [List.length_set] at hj
      rw [List.getElem_set] at hje
      split at hje
      · rename_i hjk
        subst hjk hje
        have := key k0 hj (if laterT (H.ents.drop i) o.tc o.tn = true then e0.off else !o.on) (fun hn => absurd rfl hn) (fun _ => by rw [w7])
        rw [w7] at this
        exact this
      · rename_i hjk
        rw [← hje]
        exact key j hj _ (fun _ => rfl) (fun hn => absurd hn.symm hjk)
    · intro e he
      have hx : ∃ x ∈ H.ents, e.op = x.op ∧ e.off = x.off := by
        rcases g.right.kind with h1 | h1 | h1
        · rw [(p.ins h1).1] at he
          obtain ⟨x, hx, rfl⟩ := List.mem_map.1 he
          exact ⟨x, hx, rfl, rfl⟩
        · rw [(p.hide h1).1] at he; exact ⟨e, he, rfl, rfl⟩
        · exact absurd h1 hk
      obtain ⟨x, hx, h1, h2⟩ := hx
      rw [h1, h2, hsp, if_neg (fun hh => hk hh.1), hold, ← I.off x hx]
  intro e he
  rcases newEnts_mem hs he with he | rfl | ⟨x, hx, y, hy, hsm, rfl⟩
  · exact hes e he
  · show false = lastOff o.c o.n false _
    rw [lastOff_none]
    intro x hx h4 hh
    obtain ⟨t, t1, t2, t3⟩ := hT.mem x hx h4
    rw [List.nil_append] at t1
    -- t is o itself, or an older one
    have hfr := fresh_op g.fresh
    have hnot : ∀ z ∈ (carryF o (H.ops.drop i)).2, ¬ (z.c = o.c ∧ z.n = o.n) := by
      intro z hz hzz
      obtain ⟨k, hk, rfl⟩ := List.mem_iff_getElem.1 hz
      have hk' : k < (H.ops.drop i).length := by rw [← c5.length]; exact hk
      have := c5.get k hk' hk
      exact hfr _ (List.mem_of_mem_drop (List.getElem_mem hk')) ⟨by rw [← this.c]; exact hzz.1, by rw [← this.n]; exact hzz.2⟩
    rw [TgtOk.append] at hT
    rcases List.mem_append.1 hx with hx | hx
    · -- a status ahead
      obtain ⟨t, t1, t2, t3⟩ := hT.1.mem x hx h4
      exact hfr t (List.mem_of_mem_take t1) ⟨t2.trans hh.1, t3.trans hh.2⟩
    · rcases List.mem_append.1 hx with hx | hx
      · simp only [List.mem_singleton] at hx; subst hx
        obtain ⟨t, t1, t2, t3, _⟩ := good_tgt g h4
        exact hfr t (List.mem_of_mem_take t1) ⟨t2.trans hh.1, t3.trans hh.2⟩
      · -- a status behind: its old form had the same target
        obtain ⟨k, hk, rfl⟩ := List.mem_iff_getElem.1 hx
        have hk' : k < (H.ops.drop i).length := by rw [← c5.length]; exact hk
        have hsm := c5.get k hk' hk
        obtain ⟨t, t1, t2, t3⟩ := I.tgt.mem _ (List.mem_of_mem_drop (List.getElem_mem hk')) (hsm.kind.symm.trans h4)
        exact hfr t t1 ⟨by rw [t2, ← hsm.tc]; exact hh.1, by rw [t3, ← hsm.tn]; exact hh.2⟩
  · show x.off = lastOff y.c y.n false _
    rw [hsm.c, hsm.n]; exact hes x hx
theorem Made.ci {n : Nat} {H : Hist} {X : List Ce} (h : Made n H X) : n ≤ 1000 → CI H := by
  induction h with
  | zero => exact fun _ => ⟨rfl, trivial, fun e he => (by cases he)⟩
  | step h g ih =>
    intro hn
    obtain ⟨h1, h2, h3⟩ := h.inv (by omega)
    have I := ih (by omega)
    obtain ⟨es, nw, eff, p⟩ := put_good h1 g
    have ho := put_ops h1 g p
    rw [p.put]
    refine ⟨?_, ?_, ?_⟩
    · rw [ho]; exact put_now h1 g p I
    · rw [ho]; exact put_tgt h1 g I.tgt
    · rw [ho]; exact put_off h1 g p I
theorem Made.ops {n : Nat} {H : Hist} {X : List Ce} (h : Made n H X) (hn : n ≤ 1000) {i : Nat} {o : GOp} (g : Good H i o) : (putF H i o).1.ops = H.ops.take i ++ ([o] ++ (carryF o (H.ops.drop i)).2) := by
  obtain ⟨h1, h2, h3⟩ := h.inv hn
  obtain ⟨es, nw, eff, p⟩ := put_good h1 g
  rw [p.put]; exact put_ops h1 g p
theorem map_nth_inj {N : List Nm} (hN : N.Nodup) : ∀ {a b : List Int}, (∀ q ∈ a, 0 ≤ q ∧ q < N.length) → (∀ q ∈ b, 0 ≤ q ∧ q < N.length) → a.map (fun q => N[q.toNat]?) = b.map (fun q => N[q.toNat]?) → a = b
  | [], [], _, _, _ => rfl
  | [], y :: b, _, _, h => by cases h
  | x :: a, [], _, _, h => by cases h
  | x :: a, y :: b, h1, h2, h => by
    simp only [List.map_cons, List.cons.injEq] at h
    have hx := h1 x List.mem_cons_self
    have hy := h2 y List.mem_cons_self
    have e := h.1
    rw [List.getElem?_eq_getElem (by omega), List.getElem?_eq_getElem (by omega)] at e
    have := (List.getElem_inj (h₀ := by omega) (h₁ := by omega) hN).1 (Option.some.inj e)
    rw [map_nth_inj hN (fun q hq => h1 q (List.mem_cons_of_mem _ hq)) (fun q hq => h2 q (List.mem_cons_of_mem _ hq)) h.2]
    congr 1; omega
theorem now_ext {T : Int} {N : List Nm} (hN : N.Nodup) (hl : (N.length : Int) = T) {xs ys : List Rg} (hx : Pls T xs) (hy : Pls T ys) (h : (placesF xs).map (fun q => N[q.toNat]?) = (placesF ys).map fun q => N[q.toNat]?) : xs = ys := by
  have := map_nth_inj hN (fun q hq => by have := hx.in (mem_places.1 hq); omega) (fun q hq => by have := hy.in (mem_places.1 hq); omega) h
  exact norm_ext hx.norm hy.norm fun q => by rw [← mem_places, ← mem_places, this]
theorem ents_ext {T : Int} {N : List Nm} (hN : N.Nodup) (hl : (N.length : Int) = T) (ops : List GOp) : ∀ {a b : List Ent}, a.map (·.op) = b.map (·.op) → a.map (nmE N) = b.map (nmE N) → (∀ e ∈ a, Pls T e.now) → (∀ e ∈ b, Pls T e.now) →
    (∀ e ∈ a, e.off = lastOff e.op.c e.op.n false ops) → (∀ e ∈ b, e.off = lastOff e.op.c e.op.n false ops) → a = b
  | [], [], _, _, _, _, _, _ => rfl
  | [], y :: b, h, _, _, _, _, _ => by cases h
  | x :: a, [], h, _, _, _, _, _ => by cases h
  | x :: a, y :: b, h, h1, h2, h3, h4, h5 => by
    simp only [List.map_cons, List.cons.injEq] at h h1
    have e1 := now_ext hN hl (h2 x List.mem_cons_self) (h3 y List.mem_cons_self) h1.1
    have e2 : x.off = y.off := by rw [h4 x List.mem_cons_self, h5 y List.mem_cons_self, h.1]
    rw [ents_ext hN hl ops h.2 h1.2 (fun e he => h2 e (List.mem_cons_of_mem _ he)) (fun e he => h3 e (List.mem_cons_of_mem _ he)) (fun e he => h4 e (List.mem_cons_of_mem _ he)) (fun e he => h5 e (List.mem_cons_of_mem _ he))]
    congr 1
    obtain ⟨o, nw, f⟩ := x
    obtain ⟨o', nw', f'⟩ := y
    have := h.1
    simp only at this e1 e2
    subst this e1 e2; rfl
theorem Mk.ext {S : List Sig} {T : Int} {X X' : List Ce} (h : Mk S T X) (h' : Mk S T X') (hl : (X.length : Int) = T) (hl' : (X'.length : Int) = T) : X.map (·.1) = X'.map (·.1) := by
  apply List.ext_getElem?
  intro q
  rw [List.getElem?_map, List.getElem?_map]
  by_cases hq : (q : Int) < T
  · have h1 := h.one q (by omega) hq
    have h2 : 0 < S.countP (mkOf q) := by omega
    obtain ⟨s, hs, hm⟩ := List.countP_pos_iff.1 h2
    unfold mkOf at hm
    simp only [Bool.and_eq_true, decide_eq_true_eq] at hm
    have hp := mem_places.2 (inRb_iff.1 hm.2)
    have e := (h.text s hs hm.1).trans (h'.text s hs hm.1).symm
    have := List.map_inj_left.1 e q hp
    simpa using this
  · rw [List.getElem?_eq_none (by omega), List.getElem?_eq_none (by omega)]
theorem rule_ext {H : Hist} {X X' : List Ce} (h : Rule H X) (h' : Rule H X') (e : X.map (·.1) = X'.map (·.1)) : X = X' := by
  apply List.ext_getElem?
  intro q
  have e1 := congrArg (·[q]?) e
  simp only [List.getElem?_map] at e1
  cases hx : X[q]? with
  | none =>
    rw [hx] at e1
    cases hy : X'[q]? with
    | none => rfl
    | some d => rw [hy] at e1; cases e1
  | some c =>
    rw [hx] at e1
    cases hy : X'[q]? with
    | none => rw [hy] at e1; cases e1
    | some d =>
      rw [hy] at e1
      simp only [Option.map_some, Option.some.injEq] at e1
      have c1 := h.cnt q c hx
      have c2 := h'.cnt q d hy
      congr 1
      exact Prod.ext e1 (by rw [c1, c2])
/-- The law. -/
theorem Made.one {n n' : Nat} {H H' : Hist} {X X' : List Ce} (h : Made n H X) (h' : Made n' H' X') (hn : n ≤ 1000) (hn' : n' ≤ 1000) (e : H.ops = H'.ops) : H = H' ∧ X = X' := by
  obtain ⟨v, r, l⟩ := h.inv hn
  obtain ⟨v', r', l'⟩ := h'.inv hn'
  have I := h.ci hn
  have I' := h'.ci hn'
  have et : H.total = H'.total := by rw [v.tot, v'.tot, e]
  have hN : (rowN [] H.ops).Nodup := rowN_nodup List.nodup_nil (by
    have := v.ids
    unfold Hist.ops
    rw [List.map_map]; exact this) (fun x hx => by cases hx)
  have hl : ((rowN [] H.ops).length : Int) = H.total := by rw [rowN_len (w := 0) rfl v.ctx, v.tot]; omega
  have ee : H.ents = H'.ents := ents_ext hN hl H.ops e (by rw [I.now, e, ← I'.now]) v.pls (by rw [et]; exact v'.pls) I.off (by rw [e]; exact I'.off)
  have eH : H = H' := by
    obtain ⟨a, b⟩ := H
    obtain ⟨a', b'⟩ := H'
    simp only at ee et
    subst ee et; rfl
  subst eH
  exact ⟨rfl, rule_ext r r' (Mk.ext (h.mk hn) (h'.mk hn') r.len r'.len)⟩
theorem CtxOk.take : ∀ {w : Int} {l : List GOp} (k : Nat), CtxOk w l → CtxOk w (l.take k)
  | w, [], k, _ => by simp [CtxOk]
  | w, o :: l, 0, _ => trivial
  | w, o :: l, k + 1, h => ⟨h.1, h.2.take k⟩
/-- The next one of the order can be put at the end. -/
theorem Made.next {n : Nat} {H : Hist} {X : List Ce} (h : Made n H X) (hn : n ≤ 1000) {k : Nat} {H1 : Hist} {X1 : List Ce} (h1 : Made k H1 X1) (e : H1.ops = H.ops.take k) (hk : k < H.ops.length) : Good H1 k H.ops[k] := by
  have hlen : H.ops.length = n := by unfold Hist.ops; rw [List.length_map]; exact (h.inv hn).2.2
  obtain ⟨v, r, l⟩ := h.inv hn
  obtain ⟨v1, r1, l1⟩ := h1.inv (by omega)
  have I := h.ci hn
  have hsp : H.ops = H.ops.take k ++ (H.ops[k] :: H.ops.drop (k + 1)) := by rw [← List.drop_eq_getElem_cons hk, List.take_append_drop]
  have hb : beforeF H1 k = sumO (H.ops.take k) := by
    rw [before_ops, e, List.take_of_length_le]
    rw [List.length_take]; omega
  have hc := v.ctx
  rw [hsp, CtxOk.append, Int.zero_add] at hc
  have ht := v.tot
  rw [hsp, sumO_append] at ht
  simp only [sumO] at ht
  have h0 := sumO_nonneg hc.2.2
  have hle := v.le
  have hT := I.tgt
  rw [hsp, TgtOk.append, List.nil_append] at hT
  have hid : ∀ p ∈ H.ops.take k, ¬ (p.c = H.ops[k].c ∧ p.n = H.ops[k].n) := by
    intro p hp hh
    obtain ⟨j, hj, rfl⟩ := List.mem_iff_getElem.1 hp
    rw [List.length_take] at hj
    rw [List.getElem_take] at hh
    have hnd := v.ids
    have e2 : (H.ents.map fun e => (e.op.c, e.op.n)) = H.ops.map fun o => (o.c, o.n) := by unfold Hist.ops; rw [List.map_map]; rfl
    rw [e2] at hnd
    have := List.getElem_inj (h₀ := by rw [List.length_map]; omega) (h₁ := by rw [List.length_map]; exact hk) hnd (i := j) (j := k)
    simp only [List.getElem_map, Prod.mk.injEq] at this
    have := this.1 hh
    omega
  have hfr : whereId H1.ents H.ops[k].c H.ops[k].n = none := by
    cases hw : whereId H1.ents H.ops[k].c H.ops[k].n with
    | none => rfl
    | some j =>
      obtain ⟨hj, g1, g2⟩ := whereId_some hw
      refine absurd ⟨g1, g2⟩ (hid H1.ents[j].op ?_)
      rw [← e]; exact List.mem_map.2 ⟨_, List.getElem_mem hj, rfl⟩
  refine ⟨by omega, by rw [hb]; exact hc.2.1, hfr, ?_, ?_, ?_⟩
  · obtain ⟨x, hx, hxe⟩ := List.mem_map.1 (show H.ops[k] ∈ H.ents.map (·.op) from List.getElem_mem hk)
    have := v.idr x hx
    rw [hxe] at this; exact this
  · intro h4
    obtain ⟨p, p1, p2, p3, p4⟩ := hT.2.1 h4
    rw [← e] at p1
    obtain ⟨x, hx, rfl⟩ := List.mem_map.1 p1
    obtain ⟨j, hj, rfl⟩ := List.mem_iff_getElem.1 hx
    refine ⟨j, ?_, by omega, H1.ents[j], List.getElem?_eq_getElem hj, p4⟩
    rw [← p2, ← p3]; exact whereId_of v1.ids hj
  · have ht1 : H1.total = sumO (H.ops.take k) := by rw [v1.tot, e]
    rw [ht1]; omega
theorem carry_nil (o : GOp) : carryF o [] = (o, []) := rfl
theorem Made.next_ops {n : Nat} {H : Hist} {X : List Ce} (h : Made n H X) (hn : n ≤ 1000) {k : Nat} {H1 : Hist} {X1 : List Ce} (h1 : Made k H1 X1) (e : H1.ops = H.ops.take k) (hk : k < H.ops.length) : (putF H1 k H.ops[k]).1.ops = H.ops.take (k + 1) := by
  have g := h.next hn h1 e hk
  have hlen : H.ops.length = n := by unfold Hist.ops; rw [List.length_map]; exact (h.inv hn).2.2
  have hl1 : H1.ops.length = k := by rw [e, List.length_take]; omega
  rw [h1.ops (by omega) g, List.take_of_length_le (by omega), List.drop_eq_nil_of_le (by omega), carry_nil, e, List.take_succ_eq_append_getElem hk]
  rfl
end Go.Proofs.YtggdddkbhigjoaaDoor
/- Two orders of the same commands: the incoming ones put ahead of the pending ones, or the pending ones carried behind them: one list of operations. -/
namespace Go.Proofs.YtggdddkbhigjoaaDoor
open Go Go.GW
/-- Pending ones, carried over one after another of the others. -/
def carryAll : List GOp → List GOp → List GOp
  | [], M => M
  | s :: S, M => carryAll S (carryF s M).2
theorem carryAll_snoc : ∀ (S : List GOp) (s : GOp) (M : List GOp), carryAll (S ++ [s]) M = (carryF s (carryAll S M)).2
  | [], s, M => rfl
  | x :: S, s, M => by simp only [List.cons_append, carryAll]; exact carryAll_snoc S s _
theorem crossOut_nil : ∀ (M : List GOp), crossOut [] M = .ok ([], M)
  | [] => rfl
  | l :: M => by rw [crossOut_cons, crossIn]; unfold restOut; simp only; rw [crossOut_nil M]
theorem cross_col : ∀ (M : List GOp) (s : GOp) (S : List GOp) (w : Int), Right w s → CtxOk w M → (∀ l ∈ M, ¬ clashF s l) → w + sumO M + widthF s ≤ 65535 → ∀ S' Y, crossOut S (carryF s M).2 = .ok (S', Y) → crossOut (s :: S) M = .ok ((carryF s M).1 :: S', Y)
  | [], s, S, w, _, _, _, _, S', Y, h => by
    simp only [carryF] at h ⊢
    rw [crossOut] at h ⊢
    cases h; rfl
  | l :: ls, s, S, w, hf, hl, hc, hw, S', Y, h => by
    simp only [sumO] at hw
    have h1 := sumO_nonneg hl.2
    have hc1 : ¬ clashF s l := hc l List.mem_cons_self
    have hc2 : ¬ clashF l s := fun h => hc1 (clash_comm.1 h)
    obtain ⟨a1, a2⟩ := include_ok false hf hl.1 hc1 (by omega)
    obtain ⟨b1, b2⟩ := include_ok true hl.1 hf hc2 (by omega)
    have s1 := include_same a1
    simp only [carryF] at h ⊢
    rw [crossOut_cons] at h ⊢
    rw [crossIn_ok (by simpa using b1) (by simpa using a1)]
    cases hx : crossIn (includeF l s true).1 S with
    | error e => rw [hx] at h; cases h
    | ok r =>
      obtain ⟨l', Sx⟩ := r
      rw [hx] at h
      simp only [restOut, putIn] at h ⊢
      cases hy : crossOut Sx (carryF (includeF s l false).1 ls).2 with
      | error e => rw [hy] at h; cases h
      | ok r =>
        obtain ⟨S2, Y2⟩ := r
        rw [hy] at h
        simp only [Except.ok.injEq, Prod.mk.injEq] at h
        have ih := cross_col ls (includeF s l false).1 Sx (w + widthF l) a2 hl.2 (fun x hx h => hc x (List.mem_cons_of_mem _ hx) ((clash_same s1 (Same.refl x)).1 h)) (by rw [s1.width]; omega) S2 Y2 hy
        simp only [List.cons_append, List.nil_append]
        rw [ih, ← h.1, ← h.2]
theorem cross_all : ∀ (S M : List GOp) (w : Int), CtxOk w S → CtxOk w M → (∀ s ∈ S, ∀ l ∈ M, s.c ≠ l.c) → w + sumO S + sumO M ≤ 65535 → ∃ S', crossOut S M = .ok (S', carryAll S M)
  | [], M, w, _, _, _, _ => ⟨[], crossOut_nil M⟩
  | s :: S, M, w, hs, hM, hc, hw => by
    simp only [sumO] at hw
    have h1 := sumO_nonneg hs.2
    have h2 := sumO_nonneg hM
    have hcl : ∀ l ∈ M, ¬ clashF s l := fun l hl h => hc s List.mem_cons_self l hl h.1
    obtain ⟨c1, c2, c3, c4, c5⟩ := carry_ok M s w hs.1 hM hcl (by omega)
    obtain ⟨S', h⟩ := cross_all S (carryF s M).2 (w + widthF s) hs.2 c3 (fun x hx l hl => by
      obtain ⟨k, hk, rfl⟩ := List.mem_iff_getElem.1 hl
      have hk' : k < M.length := by rw [← c5.length]; exact hk
      rw [(c5.get k hk' hk).c]
      exact hc x (List.mem_cons_of_mem _ hx) _ (List.getElem_mem hk')) (by rw [c5.sumO]; omega)
    exact ⟨_, cross_col M s S w hs.1 hM hcl (by omega) S' _ h⟩
theorem cross_all_F {S M : List GOp} {w : Int} (hs : CtxOk w S) (hM : CtxOk w M) (hc : ∀ s ∈ S, ∀ l ∈ M, s.c ≠ l.c) (hw : w + sumO S + sumO M ≤ 65535) : ∃ S', crossF S M = (S', carryAll S M, 0) := by
  obtain ⟨S', h⟩ := cross_all S M w hs hM hc hw
  have h1 := sumO_nonneg hs
  have h2 := sumO_nonneg hM
  exact ⟨S', crossF_4 (hs.owns (by omega)) (hM.owns (by omega)) h⟩
end Go.Proofs.YtggdddkbhigjoaaDoor
/- One by one in the order, plain: what the walk of HistoryIsFold asks. -/
namespace Go.Proofs.YtggdddkbhigjoaaDoor
open Go Go.GW
theorem decode_le4 (s : ByteArray) (p : Nat) : (Utf8.decode s p).2 ≤ 4 := by
  unfold Utf8.decode
  simp only
  repeat' split
  all_goals (show _ ≤ 4; first | exact (by decide : 1 ≤ 4) | exact (by decide : 2 ≤ 4) | exact (by decide : 3 ≤ 4) | exact (by decide : 4 ≤ 4))
theorem runes_size (s : ByteArray) : ∀ (m p : Nat), s.size - p ≤ m → s.size - p ≤ 4 * (runesAt s p).length
  | m, p, hm => by
    by_cases hp : p < s.size
    · rw [runesAt, dif_pos hp]
      have h1 := decode_pos s p
      have h2 := decode_le4 s p
      cases m with
      | zero => omega
      | succ m =>
        have := runes_size s m (p + (Utf8.decode s p).2) (by omega)
        simp only [List.length_cons]; omega
    · omega
theorem Right.text {w : Int} {o : GOp} (h : Right w o) : o.text.size ≤ 1024 := by
  by_cases hk : o.kind = 1
  · have h3 := insF_ok.1 ((check_ins hk h.w0).1 h.ck).2
    have h4 := utF_runes h3.1
    have h5 := runes_size o.text o.text.size 0 (by omega)
    unfold runesF at h4
    omega
  · have hh := (h.head h.w0).2.2
    unfold extraF at hh
    have h6 : (o.text == ⟨#[]⟩) = true := by
      cases hx : o.text == ⟨#[]⟩ with
      | true => rfl
      | false => exfalso; apply hh; simp [hk, hx]
    rw [emptyB_eq h6]; exact Nat.zero_le _
theorem VI.weak {N N' : Int} {n : Nat} {H : Hist} {X : List Ce} {nx : List Int} (h : VI N n H X nx) (hN : N ≤ N') : VI N' n H X nx := ⟨h.made, h.le, h.nxl, h.nxe, fun x hx => by have := h.nx0 x hx; omega⟩
/-- The first k of the order have come to the end, one by one. -/
structure FoI (H : Hist) (k : Nat) (H1 : Hist) (X1 : List Ce) (nx1 : List Int) (L1 : List MR) (t1 : Tr) : Prop where
  le : k ≤ H.ents.length
  vi : VI 1024 k H1 X1 nx1
  ops : H1.ops = H.ops.take k
  hr : HR H1 L1
  wt : Wf t1
  hX : t1.row = X1
theorem VI.next {N : Int} {n : Nat} {H : Hist} {X : List Ce} {nx : List Int} (h : VI N n H X nx) {k : Nat} {H1 : Hist} {X1 : List Ce} {nx1 : List Int} (h1 : VI 1024 k H1 X1 nx1) (e : H1.ops = H.ops.take k) (hk : k < H.ents.length) {o : GOp} (ho : H.ops[k]? = some o) :
    Good H1 k o ∧ o.text.size ≤ 1024 ∧ VI 1024 (k + 1) (putF H1 k o).1 (applyRow (putF H1 k o).2.1 X1) (nxF nx1 o.c o.n) ∧ (putF H1 k o).1.ops = H.ops.take (k + 1) := by
  have hkl : k < H.ops.length := by unfold Hist.ops; rw [List.length_map]; exact hk
  have hn := h.le
  have hl := h.len
  have g := h.made.next (by omega) h1.made e hkl
  have hp := h.made.next_ops (by omega) h1.made e hkl
  rw [List.getElem?_eq_getElem hkl] at ho
  obtain rfl := Option.some.inj ho
  have hb := right_bd g.idr
  exact ⟨g, g.right.text, h1.step g (by omega) (Int.le_refl _) hb.2.2.2, hp⟩
theorem VI.one {N N' : Int} {n n' : Nat} {H H' : Hist} {X X' : List Ce} {nx nx' : List Int} (h : VI N n H X nx) (h' : VI N' n' H' X' nx') (e : H.ops = H'.ops) : H = H' ∧ X = X' :=
  h.made.one h'.made (by have := h.le; omega) (by have := h'.le; omega) e
end Go.Proofs.YtggdddkbhigjoaaDoor
/- What the walk of HistoryMeets asks, plain. -/
namespace Go.Proofs.YtggdddkbhigjoaaDoor
open Go Go.GW
theorem Made.mid {n : Nat} {H : Hist} {X : List Ce} (h : Made n H X) (hn : n ≤ 1000) {k : Nat} {Hv : Hist} (v1 : HV Hv) {C : List GOp} (e : Hv.ops = H.ops.take k ++ C) (hk : k < H.ops.length) (hc : ∀ l ∈ C, l.c ≠ H.ops[k].c) (room : Hv.total + widthF H.ops[k] ≤ 60000) : Good Hv k H.ops[k] := by
  have hlen : H.ops.length = n := by unfold Hist.ops; rw [List.length_map]; exact (h.inv hn).2.2
  obtain ⟨v, r, l⟩ := h.inv hn
  have I := h.ci hn
  have hsp : H.ops = H.ops.take k ++ (H.ops[k] :: H.ops.drop (k + 1)) := by rw [← List.drop_eq_getElem_cons hk, List.take_append_drop]
  have htl : (H.ops.take k).length = k := by rw [List.length_take]; omega
  have hvl : Hv.ents.length = k + C.length := by
    have := congrArg List.length e
    rw [List.length_append, htl] at this
    unfold Hist.ops at this
    rw [List.length_map] at this; exact this
  have hb : beforeF Hv k = sumO (H.ops.take k) := by rw [before_ops, e, List.take_left' htl]
  have hx := v.ctx
  rw [hsp, CtxOk.append, Int.zero_add] at hx
  have hT := I.tgt
  rw [hsp, TgtOk.append, List.nil_append] at hT
  have hid : ∀ p ∈ H.ops.take k, ¬ (p.c = H.ops[k].c ∧ p.n = H.ops[k].n) := by
    intro p hp hh
    obtain ⟨j, hj, rfl⟩ := List.mem_iff_getElem.1 hp
    rw [List.length_take] at hj
    rw [List.getElem_take] at hh
    have hnd := v.ids
    have e2 : (H.ents.map fun e => (e.op.c, e.op.n)) = H.ops.map fun o => (o.c, o.n) := by unfold Hist.ops; rw [List.map_map]; rfl
    rw [e2] at hnd
    have := List.getElem_inj (h₀ := by rw [List.length_map]; omega) (h₁ := by rw [List.length_map]; exact hk) hnd (i := j) (j := k)
    simp only [List.getElem_map, Prod.mk.injEq] at this
    have := this.1 hh
    omega
  refine ⟨by omega, by rw [hb]; exact hx.2.1, ?_, ?_, ?_, room⟩
  · cases hw : whereId Hv.ents H.ops[k].c H.ops[k].n with
    | none => rfl
    | some j =>
      obtain ⟨hj, g1, g2⟩ := whereId_some hw
      have hm : Hv.ents[j].op ∈ H.ops.take k ++ C := by rw [← e]; exact List.mem_map.2 ⟨_, List.getElem_mem hj, rfl⟩
      rcases List.mem_append.1 hm with hm | hm
      · exact absurd ⟨g1, g2⟩ (hid _ hm)
      · exact absurd g1 (hc _ hm)
  · obtain ⟨x, hx, hxe⟩ := List.mem_map.1 (show H.ops[k] ∈ H.ents.map (·.op) from List.getElem_mem hk)
    have := v.idr x hx
    rw [hxe] at this; exact this
  · intro h4
    obtain ⟨p, p1, p2, p3, p4⟩ := hT.2.1 h4
    obtain ⟨j, hj, rfl⟩ := List.mem_iff_getElem.1 p1
    have hj' : j < k := by rw [htl] at hj; exact hj
    have hje : ∃ hj2 : j < Hv.ents.length, Hv.ents[j].op = (H.ops.take k)[j] := by
      refine ⟨by omega, ?_⟩
      have h1 : Hv.ops[j]? = (H.ops.take k)[j]? := by rw [e, List.getElem?_append_left (by omega)]
      rw [List.getElem?_eq_getElem hj] at h1
      unfold Hist.ops at h1
      rw [List.getElem?_map, List.getElem?_eq_getElem (by omega)] at h1
      exact Option.some.inj h1
    obtain ⟨hj2, hje⟩ := hje
    refine ⟨j, ?_, hj', Hv.ents[j], List.getElem?_eq_getElem hj2, by rw [hje]; exact p4⟩
    rw [← p2, ← p3, ← hje]; exact whereId_of v1.ids hj2
/-- Commands of one client made at the end, one by one. -/
structure MiI (H : Hist) (n k : Nat) (c : Int) (M : List GOp) (H1 : Hist) (X1 : List Ce) (nx1 : List Int) (L1 : List MR) (t1 : Tr) : Prop where
  le : k ≤ 6
  vi : VI (n + k : Nat) (n + k) H1 X1 nx1
  ops : H1.ops = H.ops ++ M
  len : M.length = k
  c : ∀ l ∈ M, l.c = c
  hr : HR H1 L1
  wt : Wf t1
  hX : t1.row = X1
theorem MiI.zero {H : Hist} {n : Nat} {c : Int} {X : List Ce} {nx : List Int} {L : List MR} {t : Tr} (hV : VI n n H X nx) (hr : HR H L) (wt : Wf t) (hX : t.row = X) : MiI H n 0 c [] H X nx L t :=
  ⟨Nat.zero_le _, hV, by simp, rfl, fun l hl => by (cases hl), hr, wt, hX⟩
theorem Hist.ops_length (H : Hist) : H.ops.length = H.ents.length := by unfold Hist.ops; rw [List.length_map]
/-- The next one of them. -/
theorem MiI.next {H : Hist} {n k : Nat} {c : Int} {M : List GOp} {H1 : Hist} {X1 : List Ce} {nx1 : List Int} {L1 : List MR} {t1 : Tr} (I : MiI H n k c M H1 X1 nx1 L1 t1) (hn : H.ents.length = n) (hn2 : n ≤ 20) (hk : k < 6) (hc : 1 ≤ c ∧ c ≤ 8) {x : Int} (hx : nx1[c.toNat]? = some x) {o0 : GOp} (hb : Body H1 (n + k) o0) :
    Good H1 (n + k) { o0 with c := c, n := x + 1 } ∧ VI (n + (k + 1) : Nat) (n + (k + 1)) (putF H1 (n + k : Nat) { o0 with c := c, n := x + 1 }).1 (applyRow (putF H1 (n + k : Nat) { o0 with c := c, n := x + 1 }).2.1 X1) (nxF nx1 c (x + 1)) ∧ (putF H1 (n + k : Nat) { o0 with c := c, n := x + 1 }).1.ops = H.ops ++ (M ++ [{ o0 with c := c, n := x + 1 }]) := by
  have hx0 := I.vi.nx0 x (List.mem_of_getElem? hx)
  have hl := I.vi.len
  have g := hb.good c (x + 1) (I.vi.fresh hx hc (by omega)) (by unfold rightF; simp; omega)
  refine ⟨g, ?_, ?_⟩
  · have := I.vi.step g (by omega) (N' := ((n + (k + 1) : Nat) : Int)) (by omega) (by show x + 1 ≤ _; omega)
    exact this
  · have h1 : H1.ops.length = n + k := by rw [Hist.ops_length, hl]
    rw [I.vi.made.ops (by omega) g, List.take_of_length_le (by omega), List.drop_eq_nil_of_le (by omega), carry_nil, I.ops, List.append_assoc]
    rfl
/-- The others' commands have come ahead of the pending ones. -/
structure PuI (H : Hist) (n m : Nat) (S M : List GOp) (k : Nat) (Hv : Hist) (X1 : List Ce) (nx1 : List Int) (L1 : List MR) (t1 : Tr) : Prop where
  le : k ≤ S.length
  vi : VI 1024 (n + m + k) Hv X1 nx1
  ops : Hv.ops = (H.ops ++ S.take k) ++ carryAll (S.take k) M
  c : ∀ l ∈ carryAll (S.take k) M, l.c = 1
  hr : HR Hv L1
  wt : Wf t1
  hX : t1.row = X1
theorem PuI.zero {H : Hist} {n m : Nat} {S M : List GOp} {Hv : Hist} {X1 : List Ce} {nx1 : List Int} {L1 : List MR} {t1 : Tr} (I : MiI H n m 1 M Hv X1 nx1 L1 t1) (hn : n ≤ 20) : PuI H n m S M 0 Hv X1 nx1 L1 t1 :=
  ⟨Nat.zero_le _, I.vi.weak (by have := I.le; omega), by rw [I.ops]; simp [carryAll], I.c, I.hr, I.wt, I.hX⟩
theorem PuI.next {H : Hist} {n m : Nat} {S M : List GOp} {k : Nat} {Hv : Hist} {X1 : List Ce} {nx1 : List Int} {L1 : List MR} {t1 : Tr} (I : PuI H n m S M k Hv X1 nx1 L1 t1) (hn : H.ents.length = n) (hn2 : n ≤ 20) (hm : m ≤ 6) {Hu : Hist} {Xu : List Ce} {nxu : List Int} {Lu : List MR} {tu : Tr} {s : Nat} (J : MiI H n s 2 S Hu Xu nxu Lu tu) (hk : k < s) {o : GOp} (ho : S[k]? = some o) :
    Good Hv (n + k) o ∧ o.text.size ≤ 1024 ∧ VI 1024 (n + m + (k + 1)) (putF Hv (n + k : Nat) o).1 (applyRow (putF Hv (n + k : Nat) o).2.1 X1) (nxF nx1 o.c o.n) ∧ (putF Hv (n + k : Nat) o).1.ops = (H.ops ++ S.take (k + 1)) ++ carryAll (S.take (k + 1)) M ∧ (∀ l ∈ carryAll (S.take (k + 1)) M, l.c = 1) := by
  have hl := I.vi.len
  have hj := J.vi.len
  have hjl := J.len
  have hs6 := J.le
  have hHl : H.ops.length = n := by rw [Hist.ops_length, hn]
  have hul : n + k < Hu.ops.length := by rw [Hist.ops_length, hj]; omega
  have hkS : k < S.length := by omega
  have hoe : Hu.ops[n + k] = o := by
    have h1 : Hu.ops[n + k]? = some o := by rw [J.ops, List.getElem?_append_right (by omega), hHl, Nat.add_sub_cancel_left]; exact ho
    rw [List.getElem?_eq_getElem hul] at h1
    exact Option.some.inj h1
  have htk : Hu.ops.take (n + k) = H.ops ++ S.take k := by
    rw [J.ops, ← hHl, List.take_length_add_append]
  have hoc : o.c = 2 := J.c o (List.mem_of_getElem? ho)
  have htv := I.vi.total
  have hur : widthF o ≤ 256 := by
    obtain ⟨v, r, l⟩ := J.vi.made.inv (by omega)
    have hx := v.ctx
    rw [← List.take_append_drop (n + k) Hu.ops, CtxOk.append, List.drop_eq_getElem_cons hul, hoe] at hx
    exact hx.2.1.width.2.1
  have g0 := J.vi.made.mid (by omega) I.vi.hv (C := carryAll (S.take k) M) (by rw [I.ops, htk]) hul (fun l hl => by rw [hoe, I.c l hl, hoc]; decide) (by rw [hoe]; omega)
  rw [hoe] at g0
  have hb := right_bd g0.idr
  have hA : (H.ops ++ S.take k).length = n + k := by rw [List.length_append, List.length_take, hHl]; omega
  have hst : S.take (k + 1) = S.take k ++ [o] := by
    rw [List.take_succ_eq_append_getElem hkS]
    rw [List.getElem?_eq_getElem hkS] at ho
    rw [Option.some.inj ho]
  have hca : carryAll (S.take (k + 1)) M = (carryF o (carryAll (S.take k) M)).2 := by rw [hst, carryAll_snoc]
  have hdr : Hv.ops.drop (n + k) = carryAll (S.take k) M := by rw [I.ops, List.drop_left' hA]
  obtain ⟨c1, c2, c3, c4, c5⟩ := cross_good I.vi.hv g0
  rw [hdr] at c5
  refine ⟨g0, g0.right.text, ?_, ?_, ?_⟩
  · exact I.vi.step g0 (by omega) (Int.le_refl _) hb.2.2.2
  · rw [I.vi.made.ops (by omega) g0, hdr, hca, I.ops, List.take_left' hA, hst]; simp
  · intro l hlm
    rw [hca] at hlm
    obtain ⟨j, hj, rfl⟩ := List.mem_iff_getElem.1 hlm
    have hj' : j < (carryAll (S.take k) M).length := by rw [← c5.length]; exact hj
    rw [(c5.get j hj' hj).c]
    exact I.c _ (List.getElem_mem hj')
/-- Cross makes of the pending ones what carrying one by one makes of them. -/
theorem meets_cross {H : Hist} {n m s : Nat} {S M : List GOp} {Hv Hu : Hist} {Xv Xu : List Ce} {nxv nxu : List Int} {Lv Lu : List MR} {tv tu : Tr} (I : MiI H n m 1 M Hv Xv nxv Lv tv) (J : MiI H n s 2 S Hu Xu nxu Lu tu) (hn : n ≤ 20) : ∃ S', crossF S M = (S', carryAll S M, 0) := by
  have h1 := I.vi.hv
  have h2 := J.vi.hv
  have t1 := I.vi.total
  have t2 := J.vi.total
  have c1 := h1.ctx
  have c2 := h2.ctx
  have e1 := h1.tot
  have e2 := h2.tot
  have l1 := I.le
  have l2 := J.le
  rw [I.ops] at c1 e1
  rw [J.ops] at c2 e2
  rw [CtxOk.append] at c1 c2
  rw [sumO_append] at e1 e2
  have h0 := sumO_nonneg c1.1
  have h3 := sumO_nonneg c1.2
  have h4 := sumO_nonneg c2.2
  exact cross_all_F c2.2 c1.2 (fun x hx l hl => by rw [J.c x hx, I.c l hl]; decide) (by omega)
/-- The carried ones come to the end of the other view. -/
structure EnI (Hv : Hist) (q k : Nat) (H1 : Hist) (X1 : List Ce) (nx1 : List Int) (L1 : List MR) (t1 : Tr) : Prop where
  le : q + k ≤ Hv.ents.length
  vi : VI 1024 (q + k) H1 X1 nx1
  ops : H1.ops = Hv.ops.take (q + k)
  hr : HR H1 L1
  wt : Wf t1
  hX : t1.row = X1
end Go.Proofs.YtggdddkbhigjoaaDoor
/- Walks: HistoryMeets. -/
namespace Go.Proofs.YtggdddkbhigjoaaDoor
open Go Go.GW
theorem carryF_length : ∀ (f : GOp) (ls : List GOp), (carryF f ls).2.length = ls.length
  | f, [] => rfl
  | f, l :: ls => by simp only [carryF, List.length_cons, carryF_length _ ls]
theorem carryAll_length : ∀ (S M : List GOp), (carryAll S M).length = M.length
  | [], M => rfl
  | s :: S, M => by simp only [carryAll, carryAll_length S, carryF_length]

set_option maxRecDepth 10000 in
theorem meets_s (Am : Option Addr) (cm : Nat) (ms : List Mv) (Ap : Option Addr) (cp : Nat) (pe : List Mv) (Aq : Option Addr) (cq : Nat) (cg : List Mv) : Sp Tryd.prog 8 [.slice Am ms.length cm, .slice Ap pe.length cp, .slice Aq cg.length cq] [] [barF, RdF mvD Am cm ms, RdF mvD Ap cp pe, RdF mvD Aq cq cg] (Is (.bool true)) := by
  refine Sp.of (n := 183) ⟨_, Tryd.func8, rfl, rfl, rfl, rfl⟩ (Nat.le_of_ble_eq_true rfl) fun Ps As => WC_seq (WC_region (Lq (q_assign rfl) (WL_nil (thenN (WC_seq (WC_region (Lq (q_move rfl) (WL_main rfl (OW_call0 (fed_d Am cm ms) (.cons rfl (.nil)) (by decide) (memc (.head _) (memc (.tail _ (.head _)) mem0)) fun u1_1 Lo fs hres => ?_)))))))))
  obtain ⟨v, h, m, b, n, H, X, nx, rfl, ⟨L, A, cap, B, t, A1, c1, A2, c2, A3, c3, rfl, rfl, hr, wt, hX⟩, hV, hn20, hnm, hF⟩ := hres
  have hnl := hV.len
  refine Lq (q_move rfl) (Lq (q_extract (vs := [_, _]) rfl rfl) (Lq (q_extract (vs := [_, _]) rfl rfl) (Lq (q_assign rfl) (Lq (q_assign rfl) (WL_nil (thenN (WC_seq (WC_seq (WC_region (Lq (q_move rfl) (Lq (q_not rfl) (WL_nil (thenN (WC_false rfl rfl (WC_skip (thenN (WC_seq (WC_region (Lq (q_move rfl) ?_)))))))))))))))))))
  refine WL_main rfl (OW_call0 (fed_d Am cm ms) (.cons rfl (.nil)) (by decide) (memc (.tail _ (.tail _ (.tail _ (.tail _ (.tail _ (.tail _ (.head _))))))) (memc (.tail _ (.tail _ (.tail _ (.tail _ (.tail _ (.tail _ (.tail _ (.head _)))))))) mem0)) fun u4_1 Lo fs hres => ?_)
  obtain ⟨vu, hu, mu, bu, nu, Hu, Xu, nxu, rfl, ⟨Lu, Au, capu, Bu, tu, A1u, c1u, A2u, c2u, A3u, c3u, rfl, rfl, hru, wtu, hXu⟩, hVu, hnu20, hnmu, hFu⟩ := hres
  obtain rfl : n = nu := hnm.trans hnmu.symm
  rw [hF] at hFu
  cases hFu
  refine Lq (q_move rfl) (Lq (q_extract (vs := [_, _]) rfl rfl) (Lq (q_extract (vs := [_, _]) rfl rfl) (Lq (q_assign rfl) (Lq (q_assign rfl) (WL_nil (thenN (WC_seq (WC_seq (WC_region (Lq (q_move rfl) (Lq (q_not rfl) (WL_nil (thenN (WC_false rfl rfl (WC_skip (thenN (WC_seq (WC_region (Lq (q_move rfl) ?_)))))))))))))))))))
  refine Lq (q_nil rfl) (Lq (q_field (o' := 2) Tryd.underlying61 rfl ti56 rfl rfl) (Lq (q_load1 Tryd.underlying56 rfl rfl (ownS (ownS (ownS (ownS (ownS (own0)))))) rfl) (Lq (q_len Tryd.underlying56 rfl) (Lq (q_assign rfl) (WL_nil (thenN (WC_seq (WC_region (Lq (q_assign rfl) (WL_nil (thenN ?_)))))))))))
  refine WC_meet (α := Nat × List GOp × Value × Part × List (List Value) × Hist × List Ce × List Int × List MR × Option Addr × Nat × Option Addr × Tr × Option Addr × Nat × Option Addr × Nat × Option Addr × Nat)
    (fun (kv, M, w, p, css, H1, X1, nx1, L1, A1, cap1, B1, t1, Ai1, ci1, Ak1, ck1, At1, ct1) => [(2, .slice Aq cg.length cq), (7, .pointer (some ⟨v, 0, none⟩)), (9, .pointer (some ⟨vu, 0, none⟩)), (10, .int .i64 H.ents.length), (11, w)])
    (fun (kv, M, w, p, css, H1, X1, nx1, L1, A1, cap1, B1, t1, Ai1, ci1, Ak1, ck1, At1, ct1) => (p :: vwP v h b Ai1 H1.ents.length ci1 Ak1 ck1 At1 ct1 nx1 :: hdP h A1 H1.ops.length cap1 m H1.total :: mpP m L1 :: mkP L1 :: rpP b B1 :: vwP vu hu bu A1u H.ents.length c1u A2u c2u A3u c3u nx :: hdP hu Au H.ops.length capu mu H.total :: mpP mu Lu :: mkP Lu :: rpP bu Bu :: Ps))
    (fun (kv, M, w, p, css, H1, X1, nx1, L1, A1, cap1, B1, t1, Ai1, ci1, Ak1, ck1, At1, ct1) => (RepsF opD M css :: RdF opD A1 cap1 H1.ops :: AllF L1 nowF :: TrF B1 t1 :: RdF idD Ai1 ci1 (idsOf H1.ents) :: RdF (De.int .i64) Ak1 ck1 (kindsOf H1.ents) :: RdF De.str At1 ct1 (textsOf H1.ents) :: RdF opD Au capu H.ops :: AllF Lu nowF :: TrF Bu tu :: RdF idD A1u c1u (idsOf H.ents) :: RdF (De.int .i64) A2u c2u (kindsOf H.ents) :: RdF De.str A3u c3u (textsOf H.ents) :: barF :: RdF mvD Am cm ms :: RdF mvD Ap cp pe :: RdF mvD Aq cq cg :: As))
    (fun (kv, M, w, p, css, H1, X1, nx1, L1, A1, cap1, B1, t1, Ai1, ci1, Ak1, ck1, At1, ct1) => MiI H n kv 1 M H1 X1 nx1 L1 t1 ∧ Row 31 9 w M.length css.flatten p) ?_ ?_
  · refine WC_seq (WC_region (Lq (q_assign rfl) (WL_nil (thenN (WC_block (WC_fact (A := RepsF opD [] []) (fun Z w hs => Reps.nil) (WC_nilPart (WC_pick (.s (.s (.s (.s (.s (.z)))))) (WC_pick (.s (.s (.s (.s (.s (.z)))))) (WC_pick (.s (.s (.s (.s (.s (.z)))))) (WC_pick (.s (.s (.s (.s (.s (.z)))))) (WC_pick (.s (.s (.s (.s (.s (.z)))))) ?_))))))))))))
    refine WC_pick (.s (.s (.s (.s (.s (.s (.s (.s (.s (.s (.z))))))))))) (WC_pick (.s (.s (.s (.s (.s (.s (.s (.s (.s (.s (.z))))))))))) (WC_pick (.s (.s (.s (.s (.s (.s (.s (.s (.s (.s (.z))))))))))) (WC_pick (.s (.s (.s (.s (.s (.s (.s (.s (.s (.s (.z))))))))))) (WC_pick (.s (.s (.s (.s (.s (.s (.s (.s (.s (.s (.z))))))))))) (WC_pick (.s (.s (.s (.s (.s (.s (.s (.s (.s (.s (.z))))))))))) ?_)))))
    refine WC_loopE (α := Nat × List GOp × Value × Part × List (List Value) × Hist × List Ce × List Int × List MR × Option Addr × Nat × Option Addr × Tr × Option Addr × Nat × Option Addr × Nat × Option Addr × Nat) (fun (kv, M, w, p, css, H1, X1, nx1, L1, A1, cap1, B1, t1, Ai1, ci1, Ak1, ck1, At1, ct1) => 6 - kv)
      (fun (kv, M, w, p, css, H1, X1, nx1, L1, A1, cap1, B1, t1, Ai1, ci1, Ak1, ck1, At1, ct1) => [(1, .slice Ap pe.length cp), (2, .slice Aq cg.length cq), (7, .pointer (some ⟨v, 0, none⟩)), (9, .pointer (some ⟨vu, 0, none⟩)), (10, .int .i64 H.ents.length), (11, w), (12, .int .i64 kv)])
      (fun (kv, M, w, p, css, H1, X1, nx1, L1, A1, cap1, B1, t1, Ai1, ci1, Ak1, ck1, At1, ct1) => (p :: vwP v h b Ai1 H1.ents.length ci1 Ak1 ck1 At1 ct1 nx1 :: hdP h A1 H1.ops.length cap1 m H1.total :: mpP m L1 :: mkP L1 :: rpP b B1 :: vwP vu hu bu A1u H.ents.length c1u A2u c2u A3u c3u nx :: hdP hu Au H.ops.length capu mu H.total :: mpP mu Lu :: mkP Lu :: rpP bu Bu :: Ps))
      (fun (kv, M, w, p, css, H1, X1, nx1, L1, A1, cap1, B1, t1, Ai1, ci1, Ak1, ck1, At1, ct1) => (RepsF opD M css :: RdF opD A1 cap1 H1.ops :: AllF L1 nowF :: TrF B1 t1 :: RdF idD Ai1 ci1 (idsOf H1.ents) :: RdF (De.int .i64) Ak1 ck1 (kindsOf H1.ents) :: RdF De.str At1 ct1 (textsOf H1.ents) :: RdF opD Au capu H.ops :: AllF Lu nowF :: TrF Bu tu :: RdF idD A1u c1u (idsOf H.ents) :: RdF (De.int .i64) A2u c2u (kindsOf H.ents) :: RdF De.str A3u c3u (textsOf H.ents) :: barF :: RdF mvD Am cm ms :: RdF mvD Ap cp pe :: RdF mvD Aq cq cg :: As))
      (fun (kv, M, w, p, css, H1, X1, nx1, L1, A1, cap1, B1, t1, Ai1, ci1, Ak1, ck1, At1, ct1) => MiI H n kv 1 M H1 X1 nx1 L1 t1 ∧ Row 31 9 w M.length css.flatten p)
      (0, [], .slice none 0 0, [], [], H, X, nx, L, A, cap, B, t, A1, c1, A2, c2, A3, c3) ?_ (.cons rfl (.cons rfl (.cons rfl (.cons rfl (.cons rfl (.cons rfl (.cons rfl (.nil _)))))))) (List.Sublist.cons_cons _ (List.Sublist.cons_cons _ (List.Sublist.cons_cons _ (List.Sublist.cons_cons _ (List.Sublist.cons_cons _ (List.Sublist.cons_cons _ (List.Sublist.cons_cons _ (List.Sublist.cons_cons _ (List.Sublist.cons_cons _ (List.Sublist.cons_cons _ (List.Sublist.cons_cons _ (List.Sublist.refl _)))))))))))) (memc (.head _) (memc (.tail _ (.tail _ (.tail _ (.tail _ (.tail _ (.tail _ (.tail _ (.head _)))))))) (memc (.tail _ (.tail _ (.tail _ (.tail _ (.tail _ (.tail _ (.tail _ (.tail _ (.head _))))))))) (memc (.tail _ (.tail _ (.tail _ (.tail _ (.tail _ (.tail _ (.tail _ (.tail _ (.tail _ (.head _)))))))))) (memc (.tail _ (.tail _ (.tail _ (.tail _ (.tail _ (.tail _ (.tail _ (.tail _ (.tail _ (.tail _ (.head _))))))))))) (memc (.tail _ (.tail _ (.tail _ (.tail _ (.tail _ (.tail _ (.tail _ (.tail _ (.tail _ (.tail _ (.tail _ (.head _)))))))))))) (memc (.tail _ (.tail _ (.tail _ (.tail _ (.tail _ (.tail _ (.tail _ (.tail _ (.tail _ (.tail _ (.tail _ (.tail _ (.head _))))))))))))) (memc (.tail _ (.head _)) (memc (.tail _ (.tail _ (.head _))) (memc (.tail _ (.tail _ (.tail _ (.head _)))) (memc (.tail _ (.tail _ (.tail _ (.tail _ (.head _))))) (memc (.tail _ (.tail _ (.tail _ (.tail _ (.tail _ (.head _)))))) (memc (.tail _ (.tail _ (.tail _ (.tail _ (.tail _ (.tail _ (.head _))))))) (fun _ h => .tail _ (.tail _ (.tail _ (.tail _ (.tail _ (.tail _ (.tail _ (.tail _ (.tail _ (.tail _ (.tail _ (.tail _ (.tail _ h)))))))))))))))))))))))))) ?_
    · exact ⟨MiI.zero hV hr wt hX, Row.nil _ _⟩
    · rintro ⟨kv, M, w, p, css, H1, X1, nx1, L1, A1, cap1, B1, t1, Ai1, ci1, Ak1, ck1, At1, ct1⟩ ⟨hI1, hrow1⟩
      have hle1 := hI1.le
      have hll1 := hI1.vi.len
      have hlm1 := hI1.len
      refine WC_seq (WC_seq (WC_region (Lq (q_move rfl) (Lq (q_move rfl) (Lq (q_len Tryd.underlying49 rfl) (Lq (q_lss rfl rfl) (Lq (q_move rfl) (WL_guard (t := 45) rfl (fun g45 => ?_) (fun g45 => ?_)))))))))
      · refine Lg rfl rfl rfl g45 (q_move rfl) (Lg rfl rfl rfl g45 (q_lss rfl rfl) (Lq (q_pickT rfl g45 rfl) (WL_nil (thenN (WC_cond rfl (fun h48 => ?_) (fun h48 => ?_))))))
        · refine WC_skip (thenN (WC_seq (WC_block (WC_seq ?_))))
          try simp only [Bp, Bq] at *
          have hkm : kv < pe.length := by omega
          have hk6 : kv < 6 := by omega
          refine WC_elem (k := kv) (.tail _ (.tail _ (.tail _ (.tail _ (.tail _ (.tail _ (.tail _ (.tail _ (.tail _ (.tail _ (.tail _ (.tail _ (.tail _ (.tail _ (.tail _ (.head _)))))))))))))))) (List.getElem?_eq_getElem hkm) (mv_open _) fun b7 q7 y7 e7 => ?_
          cases e7
          refine WC_pick (.s (.s (.s (.s (.s (.z)))))) (WC_pick (.s (.s (.s (.s (.s (.z)))))) (WC_pick (.s (.s (.s (.s (.s (.z)))))) (WC_pick (.s (.s (.s (.s (.s (.z)))))) (WC_pick (.s (.s (.s (.s (.s (.z)))))) (WC_region (Lq (q_move rfl) (Lq (q_move rfl) (Lq (q_move rfl) (Lq (q_idxRd Tryd.underlying49 ti51 rfl rfl (by omega) (by omega)) ?_)))))))))
          refine Lq (q_loadFN (k := 0) (vs := [_, _, _, _, _, _]) Tryd.underlying51 rfl ti51 rfl (.head _) rfl rfl rfl) (Lq (q_move rfl) (Lq (q_move rfl) (Lq (q_add rfl rfl (by rw [hnl]; exact wr64 (by omega)) (c := ((n + kv : Nat) : Int))) (WL_main rfl (OW_call1 (makes_s ((n + kv : Nat) : Int) (n + kv) X1 H1 v h b Ai1 ci1 Ak1 ck1 At1 ct1 nx1 pe[kv] (n + kv) hI1.vi (by omega) (Nat.le_refl _)) (.cons rfl (.cons rfl (.cons rfl (.nil)))) (by decide) (.z) (memc (.tail _ (.tail _ (.tail _ (.tail _ (.tail _ (.head _)))))) (memc (.tail _ (.tail _ (.tail _ (.tail _ (.tail _ (.tail _ (.head _))))))) (memc (.tail _ (.tail _ (.tail _ (.tail _ (.tail _ (.tail _ (.tail _ (.head _)))))))) mem0))) fun u12_8 Lo fs hres => ?_)))))
          obtain ⟨o, Ao, co, x0, rfl, rfl, rfl, hoc, hox, hon, hbo⟩ := hres
          obtain ⟨x, hx⟩ : ∃ x, nx1[(1 : Int).toNat]? = some x := ⟨_, List.getElem?_eq_getElem (by rw [hI1.vi.nxl]; decide)⟩
          have hx0 := hI1.vi.nx0 x (List.mem_of_getElem? hx)
          obtain ⟨hg, hV2, hop2⟩ := hI1.next hnl hn20 hk6 (c := 1) (by decide) hx hbo
          refine WL_main rfl (OW_alloc (cs := [_, _, _, _, _, _, _, _, _]) ti31 rfl (by decide) fun b13 => WL_main rfl (OW_storeN (cs' := [_, _, _, _, _, _, _, _, _]) (vs := [_, _, _, _, _, _, _, _, _]) ti31 rfl rfl rfl rfl rfl (Nat.le_of_ble_eq_true rfl) (.z) (WL_nil (thenN (WC_seq (WC_region (Lq (q_field (o' := 0) Tryd.underlying31 rfl ti28 rfl rfl) (Lq (q_field (o' := 0) Tryd.underlying28 rfl ti25 rfl rfl) (Lq (q_idxA (o' := 0) Tryd.underlying25 ti3 rfl rfl (by decide) (by decide) rfl) (WL_main rfl (OW_store1 ti3 rfl rfl rfl (.z) (.z) (WL_nil (thenN (WC_seq (WC_region (Lq (q_move rfl) (Lq (q_nil rfl) ?_)))))))))))))))))
          refine Lq (q_field (o' := 5) Tryd.underlying61 rfl ti59 rfl rfl) (Lq (q_idxA Tryd.underlying59 ti3 rfl rfl (by omega) (by omega) rfl) (Lq (q_load1 Tryd.underlying3 rfl rfl (ownS (own0)) (vw_next (k := 1) hx)) (Lq (q_add rfl rfl (wr64 (by omega))) (Lq (q_field (o' := 0) Tryd.underlying31 rfl ti28 rfl rfl) (Lq (q_field (o' := 0) Tryd.underlying28 rfl ti25 rfl rfl) (Lq (q_idxA (o' := 1) Tryd.underlying25 ti3 rfl rfl (by decide) (by decide) rfl) (WL_main rfl (OW_store1 ti3 rfl rfl rfl (.s (.z)) (.z) (WL_nil (thenN (WC_seq (WC_pick (.s (.s (.s (.s (.s (.z)))))) ?_))))))))))))
          refine WC_pick (.s (.s (.s (.s (.s (.z)))))) (WC_pick (.s (.s (.s (.s (.s (.z)))))) (WC_pick (.s (.s (.s (.s (.s (.z)))))) (WC_pick (.s (.s (.s (.s (.s (.z)))))) (WC_region (Lq (q_move rfl) (Lq (q_move rfl) (Lq (q_move rfl) (Lq (q_add rfl rfl (by rw [hnl]; exact wr64 (by omega)) (c := ((n + kv : Nat) : Int))) (Lq (q_loadN (vs := [_, _, _, _, _, _, _, _, _]) Tryd.underlying31 rfl ti31 rfl (ownS (ownS (ownS (ownS (ownS (own0)))))) rfl rfl) ?_)))))))))
          refine WL_main rfl (OW_callP (takes_1 ((n + kv : Nat) : Int) (n + kv) X1 v h m b H1 L1 A1 cap1 B1 t1 Ai1 ci1 Ak1 ck1 At1 ct1 nx1 (n + kv) { o with c := 1, n := x + 1 } Ao co hI1.vi hI1.hr hI1.wt hI1.hX hg (by have := hbo.text; show o.text.size ≤ _; omega)) (.cons rfl (.cons rfl (.cons rfl (.nil)))) (by decide) (List.Perm.refl _) (memc (.tail _ (.tail _ (.tail _ (.tail _ (.tail _ (.tail _ (.tail _ (.tail _ (.tail _ (.tail _ (.tail _ (.tail _ (.tail _ (.tail _ (.tail _ (.head _)))))))))))))))) (memc (.tail _ (.tail _ (.tail _ (.head _)))) (memc (.tail _ (.tail _ (.tail _ (.tail _ (.head _))))) (memc (.tail _ (.tail _ (.tail _ (.tail _ (.tail _ (.head _)))))) (memc (.tail _ (.tail _ (.tail _ (.tail _ (.tail _ (.tail _ (.head _))))))) (memc (.tail _ (.tail _ (.tail _ (.tail _ (.tail _ (.tail _ (.tail _ (.head _)))))))) (memc (.tail _ (.tail _ (.tail _ (.tail _ (.tail _ (.tail _ (.tail _ (.tail _ (.head _))))))))) (memc (.head _) mem0)))))))) fun u15_5 Lo fs hres => ?_)
          obtain ⟨rfl, L9, A9, cap9, B9, t9, A19, c19, A29, c29, A39, c39, rfl, rfl, hr9, wt9, hX9⟩ := hres
          obtain ⟨H9, hH9⟩ : ∃ z, z = (putF H1 ((n + kv : Nat) : Int) { o with c := 1, n := x + 1 }).1 := ⟨_, rfl⟩
          obtain ⟨X9, hX99⟩ : ∃ z, z = applyRow (putF H1 ((n + kv : Nat) : Int) { o with c := 1, n := x + 1 }).2.1 X1 := ⟨_, rfl⟩
          obtain ⟨nx9, hn9⟩ : ∃ z, z = nxF nx1 1 (x + 1) := ⟨_, rfl⟩
          rw [← hH9] at hr9 hV2 hop2 ⊢
          rw [← hX99] at hX9 hV2
          rw [← hn9] at hV2 ⊢
          refine Lq (q_assign rfl) (WL_nil (thenN (WC_seq (WC_seq (WC_region (Lq (q_move rfl) (Lq (q_not rfl) (WL_nil (thenN (WC_false rfl rfl (WC_skip (thenN (WC_region (Lq (q_move rfl) (Lq (q_loadN (vs := [_, _, _, _, _, _, _, _, _]) Tryd.underlying31 rfl ti31 rfl (ownS (ownS (ownS (ownS (ownS (own0)))))) rfl rfl) (WL_main rfl (OW_slice1 (cs := [_, _, _, _, _, _, _, _, _]) Tryd.underlying45 ti31 (by decide) (by decide) rfl rfl rfl rfl (by decide) fun b82 => WL_main rfl (OW_append1 (news := [_, _, _, _, _, _, _, _, _]) Tryd.underlying45 ti31 rfl (by decide) rfl rfl hrow1 own0 rfl rfl (by omega) (by unfold maxLen; omega) (by decide) (DelAt.perm (.s (.s (.s (.s (.s (.s (.s (.z))))))))) fun v83 p83 hr83 => Lq (q_assign rfl) ?_))))))))))))))))))
          refine WL_nil (blockN (thenN (WC_repsAdd (e := opD) (u := { o with c := 1, n := x + 1 }) (cs := opC { o with c := 1, n := x + 1 } Ao co) (.tail _ (.tail _ (.tail _ (.tail _ (.tail _ (.tail _ (.tail _ (.tail _ (.head _))))))))) (fun Z w hs => ⟨Ao, co, rfl, hs.facts _ (.tail _ (.tail _ (.tail _ (.tail _ (.tail _ (.tail _ (.head _)))))))⟩) (rfl : M ++ [{ o with c := 1, n := x + 1 }] = M ++ [{ o with c := 1, n := x + 1 }]) (WC_pick (.s (.s (.s (.s (.s (.s (.s (.s (.s (.s (.s (.s (.z))))))))))))) (WC_pick (.s (.s (.s (.s (.s (.s (.s (.s (.s (.s (.s (.s (.z))))))))))))) (WC_pick (.s (.s (.s (.s (.s (.s (.s (.s (.s (.s (.s (.s (.z))))))))))))) (WC_pick (.s (.s (.s (.s (.s (.s (.s (.s (.s (.s (.s (.s (.z))))))))))))) (WC_pick (.s (.s (.s (.s (.s (.s (.s (.s (.s (.s (.s (.s (.z))))))))))))) (WC_pick (.s (.s (.s (.s (.s (.s (.s (.s (.s (.s (.s (.z)))))))))))) ?_)))))))))
          refine WC_pick (.s (.s (.s (.s (.s (.s (.s (.s (.s (.s (.s (.z)))))))))))) (WC_pick (.s (.s (.s (.s (.s (.s (.s (.s (.s (.s (.s (.z)))))))))))) (WC_pick (.s (.s (.s (.s (.s (.s (.s (.s (.s (.s (.s (.z)))))))))))) (WC_pick (.s (.s (.s (.s (.s (.s (.s (.s (.s (.s (.s (.z)))))))))))) (WC_pick (.s (.s (.s (.s (.s (.s (.s (.s (.s (.s (.z))))))))))) (WC_region (Lq (q_move rfl) (Lq (q_add rfl rfl (wr64 (by omega)) (c := ((kv + 1 : Nat) : Int))) (Lq (q_assign rfl) (WL_nil (thenK ?_))))))))))
          refine ⟨(kv + 1, M ++ [{ o with c := 1, n := x + 1 }], v83, p83, css ++ [opC { o with c := 1, n := x + 1 } Ao co], H9, X9, nx9, L9, A9, cap9, B9, t9, A19, c19, A29, c29, A39, c39), ?_, (.cons rfl (.cons rfl (.cons rfl (.cons rfl (.cons rfl (.cons rfl (.cons rfl (.nil _)))))))), (List.Sublist.cons_cons _ (List.Sublist.cons_cons _ (List.Sublist.cons_cons _ (List.Sublist.cons_cons _ (List.Sublist.cons_cons _ (List.Sublist.cons_cons _ (List.Sublist.cons_cons _ (List.Sublist.cons_cons _ (List.Sublist.cons_cons _ (List.Sublist.cons_cons _ (List.Sublist.cons_cons _ (List.Sublist.cons _ (List.Sublist.cons _ (List.Sublist.refl _)))))))))))))), (memc (.head _) (memc (.tail _ (.head _)) (memc (.tail _ (.tail _ (.head _))) (memc (.tail _ (.tail _ (.tail _ (.head _)))) (memc (.tail _ (.tail _ (.tail _ (.tail _ (.head _))))) (memc (.tail _ (.tail _ (.tail _ (.tail _ (.tail _ (.head _)))))) (memc (.tail _ (.tail _ (.tail _ (.tail _ (.tail _ (.tail _ (.head _))))))) (fun _ h => .tail _ (.tail _ (.tail _ (.tail _ (.tail _ (.tail _ (.tail _ (.tail _ (.tail _ (.tail _ (.tail _ (.tail _ (.tail _ (.tail _ (.tail _ (.tail _ h)))))))))))))))))))))))⟩
          refine ⟨by show 6 - (kv + 1) < 6 - kv; omega, ⟨by omega, hV2, hop2, by rw [List.length_append, hlm1]; rfl, fun l hl => ?_, hr9, wt9, hX9⟩, ?_⟩
          · rcases List.mem_append.1 hl with hl | hl
            · exact hI1.c l hl
            · rw [List.mem_singleton] at hl; subst hl; rfl
          · rw [List.flatten_append, List.length_append, show [opC { o with c := 1, n := x + 1 } Ao co].flatten = opC { o with c := 1, n := x + 1 } Ao co from by simp]
            exact hr83
        · refine WC_exit (thenExit (thenExit (blockHit (thenK ?_))))
          refine ⟨(kv, M, w, p, css, H1, X1, nx1, L1, A1, cap1, B1, t1, Ai1, ci1, Ak1, ck1, At1, ct1), ?_, (.cons rfl (.cons rfl (.cons rfl (.cons rfl (.cons rfl (.nil _)))))), (List.Sublist.cons_cons _ (List.Sublist.cons_cons _ (List.Sublist.cons_cons _ (List.Sublist.cons_cons _ (List.Sublist.cons_cons _ (List.Sublist.cons_cons _ (List.Sublist.cons_cons _ (List.Sublist.cons_cons _ (List.Sublist.cons_cons _ (List.Sublist.cons_cons _ (List.Sublist.cons_cons _ (List.Sublist.refl _)))))))))))), (fun _ h => h)⟩
          exact ⟨hI1, hrow1⟩
      · refine Ln rfl rfl rfl g45 (Ln rfl rfl rfl g45 (Lq (q_pickF rfl g45 rfl) (WL_nil (thenN (WC_false rfl rfl (WC_exit (thenExit (thenExit (blockHit (thenK ?_))))))))))
        refine ⟨(kv, M, w, p, css, H1, X1, nx1, L1, A1, cap1, B1, t1, Ai1, ci1, Ak1, ck1, At1, ct1), ?_, (.cons rfl (.cons rfl (.cons rfl (.cons rfl (.cons rfl (.nil _)))))), (List.Sublist.cons_cons _ (List.Sublist.cons_cons _ (List.Sublist.cons_cons _ (List.Sublist.cons_cons _ (List.Sublist.cons_cons _ (List.Sublist.cons_cons _ (List.Sublist.cons_cons _ (List.Sublist.cons_cons _ (List.Sublist.cons_cons _ (List.Sublist.cons_cons _ (List.Sublist.cons_cons _ (List.Sublist.refl _)))))))))))), (fun _ h => h)⟩
        exact ⟨hI1, hrow1⟩
  · rintro ⟨kv, M, w, p, css, H1, X1, nx1, L1, A1, cap1, B1, t1, Ai1, ci1, Ak1, ck1, At1, ct1⟩ ⟨hI1, hrow1⟩
    have hle1 := hI1.le
    have hll1 := hI1.vi.len
    have hlm1 := hI1.len
    refine WC_seq (WC_freeze (e := opD) (xs := M) (css := css) hrow1 (.z) rfl (.head _) fun A8 c8 e8 => ?_)
    cases e8
    refine WC_region (Lq (q_assign rfl) (WL_nil (thenN ?_)))
    refine WC_meet (α := Nat × List GOp × Value × Part × List (List Value) × Hist × List Ce × List Int × List MR × Option Addr × Nat × Option Addr × Tr × Option Addr × Nat × Option Addr × Nat × Option Addr × Nat)
      (fun (ku, S, w, p, css, H2, X2, nx2, L2, A2, cap2, B2, t2, Ai2, ci2, Ak2, ck2, At2, ct2) => [(7, .pointer (some ⟨v, 0, none⟩)), (9, .pointer (some ⟨vu, 0, none⟩)), (10, .int .i64 H.ents.length), (11, .slice A8 M.length c8), (14, w)])
      (fun (ku, S, w, p, css, H2, X2, nx2, L2, A2, cap2, B2, t2, Ai2, ci2, Ak2, ck2, At2, ct2) => (p :: vwP vu hu bu Ai2 H2.ents.length ci2 Ak2 ck2 At2 ct2 nx2 :: hdP hu A2 H2.ops.length cap2 mu H2.total :: mpP mu L2 :: mkP L2 :: rpP bu B2 :: vwP v h b Ai1 H1.ents.length ci1 Ak1 ck1 At1 ct1 nx1 :: hdP h A1 H1.ops.length cap1 m H1.total :: mpP m L1 :: mkP L1 :: rpP b B1 :: Ps))
      (fun (ku, S, w, p, css, H2, X2, nx2, L2, A2, cap2, B2, t2, Ai2, ci2, Ak2, ck2, At2, ct2) => (RepsF opD S css :: RdF opD A2 cap2 H2.ops :: AllF L2 nowF :: TrF B2 t2 :: RdF idD Ai2 ci2 (idsOf H2.ents) :: RdF (De.int .i64) Ak2 ck2 (kindsOf H2.ents) :: RdF De.str At2 ct2 (textsOf H2.ents) :: RdF opD A1 cap1 H1.ops :: AllF L1 nowF :: TrF B1 t1 :: RdF idD Ai1 ci1 (idsOf H1.ents) :: RdF (De.int .i64) Ak1 ck1 (kindsOf H1.ents) :: RdF De.str At1 ct1 (textsOf H1.ents) :: RdF opD A8 c8 M :: barF :: RdF mvD Am cm ms :: RdF mvD Ap cp pe :: RdF mvD Aq cq cg :: As))
      (fun (ku, S, w, p, css, H2, X2, nx2, L2, A2, cap2, B2, t2, Ai2, ci2, Ak2, ck2, At2, ct2) => MiI H n ku 2 S H2 X2 nx2 L2 t2 ∧ Row 31 9 w S.length css.flatten p) ?_ ?_
    · refine WC_seq (WC_region (Lq (q_assign rfl) (WL_nil (thenN (WC_block (WC_fact (A := RepsF opD [] []) (fun Z w hs => Reps.nil) (WC_nilPart (WC_pick (.s (.s (.s (.s (.s (.z)))))) (WC_pick (.s (.s (.s (.s (.s (.z)))))) (WC_pick (.s (.s (.s (.s (.s (.z)))))) (WC_pick (.s (.s (.s (.s (.s (.z)))))) (WC_pick (.s (.s (.s (.s (.s (.z)))))) ?_))))))))))))
      refine WC_pick (.s (.s (.s (.s (.s (.s (.s (.s (.s (.s (.z))))))))))) (WC_pick (.s (.s (.s (.s (.s (.s (.s (.s (.s (.s (.z))))))))))) (WC_pick (.s (.s (.s (.s (.s (.s (.s (.s (.s (.s (.z))))))))))) (WC_pick (.s (.s (.s (.s (.s (.s (.s (.s (.s (.s (.z))))))))))) (WC_pick (.s (.s (.s (.s (.s (.s (.s (.s (.s (.s (.z))))))))))) (WC_pick (.s (.s (.s (.s (.s (.s (.s (.s (.s (.s (.z))))))))))) ?_)))))
      refine WC_loopE (α := Nat × List GOp × Value × Part × List (List Value) × Hist × List Ce × List Int × List MR × Option Addr × Nat × Option Addr × Tr × Option Addr × Nat × Option Addr × Nat × Option Addr × Nat) (fun (ku, S, w, p, css, H2, X2, nx2, L2, A2, cap2, B2, t2, Ai2, ci2, Ak2, ck2, At2, ct2) => 6 - ku)
        (fun (ku, S, w, p, css, H2, X2, nx2, L2, A2, cap2, B2, t2, Ai2, ci2, Ak2, ck2, At2, ct2) => [(2, .slice Aq cg.length cq), (7, .pointer (some ⟨v, 0, none⟩)), (9, .pointer (some ⟨vu, 0, none⟩)), (10, .int .i64 H.ents.length), (11, .slice A8 M.length c8), (14, w), (15, .int .i64 ku)])
        (fun (ku, S, w, p, css, H2, X2, nx2, L2, A2, cap2, B2, t2, Ai2, ci2, Ak2, ck2, At2, ct2) => (p :: vwP vu hu bu Ai2 H2.ents.length ci2 Ak2 ck2 At2 ct2 nx2 :: hdP hu A2 H2.ops.length cap2 mu H2.total :: mpP mu L2 :: mkP L2 :: rpP bu B2 :: vwP v h b Ai1 H1.ents.length ci1 Ak1 ck1 At1 ct1 nx1 :: hdP h A1 H1.ops.length cap1 m H1.total :: mpP m L1 :: mkP L1 :: rpP b B1 :: Ps))
        (fun (ku, S, w, p, css, H2, X2, nx2, L2, A2, cap2, B2, t2, Ai2, ci2, Ak2, ck2, At2, ct2) => (RepsF opD S css :: RdF opD A2 cap2 H2.ops :: AllF L2 nowF :: TrF B2 t2 :: RdF idD Ai2 ci2 (idsOf H2.ents) :: RdF (De.int .i64) Ak2 ck2 (kindsOf H2.ents) :: RdF De.str At2 ct2 (textsOf H2.ents) :: RdF opD A1 cap1 H1.ops :: AllF L1 nowF :: TrF B1 t1 :: RdF idD Ai1 ci1 (idsOf H1.ents) :: RdF (De.int .i64) Ak1 ck1 (kindsOf H1.ents) :: RdF De.str At1 ct1 (textsOf H1.ents) :: RdF opD A8 c8 M :: barF :: RdF mvD Am cm ms :: RdF mvD Ap cp pe :: RdF mvD Aq cq cg :: As))
        (fun (ku, S, w, p, css, H2, X2, nx2, L2, A2, cap2, B2, t2, Ai2, ci2, Ak2, ck2, At2, ct2) => MiI H n ku 2 S H2 X2 nx2 L2 t2 ∧ Row 31 9 w S.length css.flatten p)
        (0, [], .slice none 0 0, [], [], H, X, nx, Lu, Au, capu, Bu, tu, A1u, c1u, A2u, c2u, A3u, c3u) ?_ (.cons rfl (.cons rfl (.cons rfl (.cons rfl (.cons rfl (.cons rfl (.cons rfl (.nil _)))))))) (List.Sublist.cons_cons _ (List.Sublist.cons_cons _ (List.Sublist.cons_cons _ (List.Sublist.cons_cons _ (List.Sublist.cons_cons _ (List.Sublist.cons_cons _ (List.Sublist.cons_cons _ (List.Sublist.cons_cons _ (List.Sublist.cons_cons _ (List.Sublist.cons_cons _ (List.Sublist.cons_cons _ (List.Sublist.refl _)))))))))))) (memc (.head _) (memc (.tail _ (.tail _ (.tail _ (.tail _ (.tail _ (.tail _ (.tail _ (.tail _ (.tail _ (.head _)))))))))) (memc (.tail _ (.tail _ (.tail _ (.tail _ (.tail _ (.tail _ (.tail _ (.tail _ (.tail _ (.tail _ (.head _))))))))))) (memc (.tail _ (.tail _ (.tail _ (.tail _ (.tail _ (.tail _ (.tail _ (.tail _ (.tail _ (.tail _ (.tail _ (.head _)))))))))))) (memc (.tail _ (.tail _ (.tail _ (.tail _ (.tail _ (.tail _ (.tail _ (.tail _ (.tail _ (.tail _ (.tail _ (.tail _ (.head _))))))))))))) (memc (.tail _ (.tail _ (.tail _ (.tail _ (.tail _ (.tail _ (.tail _ (.tail _ (.tail _ (.tail _ (.tail _ (.tail _ (.tail _ (.head _)))))))))))))) (memc (.tail _ (.tail _ (.tail _ (.tail _ (.tail _ (.tail _ (.tail _ (.tail _ (.tail _ (.tail _ (.tail _ (.tail _ (.tail _ (.tail _ (.head _))))))))))))))) (memc (.tail _ (.tail _ (.tail _ (.head _)))) (memc (.tail _ (.tail _ (.tail _ (.tail _ (.head _))))) (memc (.tail _ (.tail _ (.tail _ (.tail _ (.tail _ (.head _)))))) (memc (.tail _ (.tail _ (.tail _ (.tail _ (.tail _ (.tail _ (.head _))))))) (memc (.tail _ (.tail _ (.tail _ (.tail _ (.tail _ (.tail _ (.tail _ (.head _)))))))) (memc (.tail _ (.tail _ (.tail _ (.tail _ (.tail _ (.tail _ (.tail _ (.tail _ (.head _))))))))) (memc (.tail _ (.head _)) (fun _ h => .tail _ (.tail _ (.tail _ (.tail _ (.tail _ (.tail _ (.tail _ (.tail _ (.tail _ (.tail _ (.tail _ (.tail _ (.tail _ (.tail _ (.tail _ h))))))))))))))))))))))))))))) ?_
      · exact ⟨MiI.zero hVu hru wtu hXu, Row.nil _ _⟩
      · rintro ⟨ku, S, w, p, css, H2, X2, nx2, L2, A2, cap2, B2, t2, Ai2, ci2, Ak2, ck2, At2, ct2⟩ ⟨hI2, hrow2⟩
        have hle2 := hI2.le
        have hll2 := hI2.vi.len
        have hlm2 := hI2.len
        refine WC_seq (WC_seq (WC_region (Lq (q_move rfl) (Lq (q_move rfl) (Lq (q_len Tryd.underlying49 rfl) (Lq (q_lss rfl rfl) (Lq (q_move rfl) (WL_guard (t := 88) rfl (fun g88 => ?_) (fun g88 => ?_)))))))))
        · refine Lg rfl rfl rfl g88 (q_move rfl) (Lg rfl rfl rfl g88 (q_lss rfl rfl) (Lq (q_pickT rfl g88 rfl) (WL_nil (thenN (WC_cond rfl (fun h91 => ?_) (fun h91 => ?_))))))
          · refine WC_skip (thenN (WC_seq (WC_block (WC_seq ?_))))
            try simp only [Bp, Bq] at *
            have hkm : ku < cg.length := by omega
            have hk6 : ku < 6 := by omega
            refine WC_elem (k := ku) (.tail _ (.tail _ (.tail _ (.tail _ (.tail _ (.tail _ (.tail _ (.tail _ (.tail _ (.tail _ (.tail _ (.tail _ (.tail _ (.tail _ (.tail _ (.tail _ (.tail _ (.head _)))))))))))))))))) (List.getElem?_eq_getElem hkm) (mv_open _) fun b7 q7 y7 e7 => ?_
            cases e7
            refine WC_pick (.s (.s (.s (.s (.s (.z)))))) (WC_pick (.s (.s (.s (.s (.s (.z)))))) (WC_pick (.s (.s (.s (.s (.s (.z)))))) (WC_pick (.s (.s (.s (.s (.s (.z)))))) (WC_pick (.s (.s (.s (.s (.s (.z)))))) (WC_region (Lq (q_move rfl) (Lq (q_move rfl) (Lq (q_move rfl) (Lq (q_idxRd Tryd.underlying49 ti51 rfl rfl (by omega) (by omega)) ?_)))))))))
            refine Lq (q_loadFN (k := 0) (vs := [_, _, _, _, _, _]) Tryd.underlying51 rfl ti51 rfl (.head _) rfl rfl rfl) (Lq (q_move rfl) (Lq (q_move rfl) (Lq (q_add rfl rfl (by rw [hnl]; exact wr64 (by omega)) (c := ((n + ku : Nat) : Int))) (WL_main rfl (OW_call1 (makes_s ((n + ku : Nat) : Int) (n + ku) X2 H2 vu hu bu Ai2 ci2 Ak2 ck2 At2 ct2 nx2 cg[ku] (n + ku) hI2.vi (by omega) (Nat.le_refl _)) (.cons rfl (.cons rfl (.cons rfl (.nil)))) (by decide) (.z) (memc (.tail _ (.tail _ (.tail _ (.tail _ (.tail _ (.head _)))))) (memc (.tail _ (.tail _ (.tail _ (.tail _ (.tail _ (.tail _ (.head _))))))) (memc (.tail _ (.tail _ (.tail _ (.tail _ (.tail _ (.tail _ (.tail _ (.head _)))))))) mem0))) fun u23_8 Lo fs hres => ?_)))))
            obtain ⟨o, Ao, co, x0, rfl, rfl, rfl, hoc, hox, hon, hbo⟩ := hres
            obtain ⟨x, hx⟩ : ∃ x, nx2[(2 : Int).toNat]? = some x := ⟨_, List.getElem?_eq_getElem (by rw [hI2.vi.nxl]; decide)⟩
            have hx0 := hI2.vi.nx0 x (List.mem_of_getElem? hx)
            obtain ⟨hg, hV2, hop2⟩ := hI2.next hnl hn20 hk6 (c := 2) (by decide) hx hbo
            refine WL_main rfl (OW_alloc (cs := [_, _, _, _, _, _, _, _, _]) ti31 rfl (by decide) fun b16 => WL_main rfl (OW_storeN (cs' := [_, _, _, _, _, _, _, _, _]) (vs := [_, _, _, _, _, _, _, _, _]) ti31 rfl rfl rfl rfl rfl (Nat.le_of_ble_eq_true rfl) (.z) (WL_nil (thenN (WC_seq (WC_region (Lq (q_field (o' := 0) Tryd.underlying31 rfl ti28 rfl rfl) (Lq (q_field (o' := 0) Tryd.underlying28 rfl ti25 rfl rfl) (Lq (q_idxA (o' := 0) Tryd.underlying25 ti3 rfl rfl (by decide) (by decide) rfl) (WL_main rfl (OW_store1 ti3 rfl rfl rfl (.z) (.z) (WL_nil (thenN (WC_seq (WC_region (Lq (q_move rfl) (Lq (q_nil rfl) ?_)))))))))))))))))
            refine Lq (q_field (o' := 5) Tryd.underlying61 rfl ti59 rfl rfl) (Lq (q_idxA Tryd.underlying59 ti3 rfl rfl (by omega) (by omega) rfl) (Lq (q_load1 Tryd.underlying3 rfl rfl (ownS (own0)) (vw_next (k := 2) hx)) (Lq (q_add rfl rfl (wr64 (by omega))) (Lq (q_field (o' := 0) Tryd.underlying31 rfl ti28 rfl rfl) (Lq (q_field (o' := 0) Tryd.underlying28 rfl ti25 rfl rfl) (Lq (q_idxA (o' := 1) Tryd.underlying25 ti3 rfl rfl (by decide) (by decide) rfl) (WL_main rfl (OW_store1 ti3 rfl rfl rfl (.s (.z)) (.z) (WL_nil (thenN (WC_seq (WC_pick (.s (.s (.s (.s (.s (.z)))))) ?_))))))))))))
            refine WC_pick (.s (.s (.s (.s (.s (.z)))))) (WC_pick (.s (.s (.s (.s (.s (.z)))))) (WC_pick (.s (.s (.s (.s (.s (.z)))))) (WC_pick (.s (.s (.s (.s (.s (.z)))))) (WC_region (Lq (q_move rfl) (Lq (q_move rfl) (Lq (q_move rfl) (Lq (q_add rfl rfl (by rw [hnl]; exact wr64 (by omega)) (c := ((n + ku : Nat) : Int))) (Lq (q_loadN (vs := [_, _, _, _, _, _, _, _, _]) Tryd.underlying31 rfl ti31 rfl (ownS (ownS (ownS (ownS (ownS (own0)))))) rfl rfl) ?_)))))))))
            refine WL_main rfl (OW_callP (takes_1 ((n + ku : Nat) : Int) (n + ku) X2 vu hu mu bu H2 L2 A2 cap2 B2 t2 Ai2 ci2 Ak2 ck2 At2 ct2 nx2 (n + ku) { o with c := 2, n := x + 1 } Ao co hI2.vi hI2.hr hI2.wt hI2.hX hg (by have := hbo.text; show o.text.size ≤ _; omega)) (.cons rfl (.cons rfl (.cons rfl (.nil)))) (by decide) (List.Perm.refl _) (memc (.tail _ (.tail _ (.tail _ (.tail _ (.tail _ (.tail _ (.tail _ (.tail _ (.tail _ (.tail _ (.tail _ (.tail _ (.tail _ (.tail _ (.tail _ (.tail _ (.head _))))))))))))))))) (memc (.tail _ (.tail _ (.tail _ (.head _)))) (memc (.tail _ (.tail _ (.tail _ (.tail _ (.head _))))) (memc (.tail _ (.tail _ (.tail _ (.tail _ (.tail _ (.head _)))))) (memc (.tail _ (.tail _ (.tail _ (.tail _ (.tail _ (.tail _ (.head _))))))) (memc (.tail _ (.tail _ (.tail _ (.tail _ (.tail _ (.tail _ (.tail _ (.head _)))))))) (memc (.tail _ (.tail _ (.tail _ (.tail _ (.tail _ (.tail _ (.tail _ (.tail _ (.head _))))))))) (memc (.head _) mem0)))))))) fun u26_5 Lo fs hres => ?_)
            obtain ⟨rfl, L9, A9, cap9, B9, t9, A19, c19, A29, c29, A39, c39, rfl, rfl, hr9, wt9, hX9⟩ := hres
            obtain ⟨H9, hH9⟩ : ∃ z, z = (putF H2 ((n + ku : Nat) : Int) { o with c := 2, n := x + 1 }).1 := ⟨_, rfl⟩
            obtain ⟨X9, hX99⟩ : ∃ z, z = applyRow (putF H2 ((n + ku : Nat) : Int) { o with c := 2, n := x + 1 }).2.1 X2 := ⟨_, rfl⟩
            obtain ⟨nx9, hn9⟩ : ∃ z, z = nxF nx2 2 (x + 1) := ⟨_, rfl⟩
            rw [← hH9] at hr9 hV2 hop2 ⊢
            rw [← hX99] at hX9 hV2
            rw [← hn9] at hV2 ⊢
            refine Lq (q_assign rfl) (WL_nil (thenN (WC_seq (WC_seq (WC_region (Lq (q_move rfl) (Lq (q_not rfl) (WL_nil (thenN (WC_false rfl rfl (WC_skip (thenN (WC_region (Lq (q_move rfl) (Lq (q_loadN (vs := [_, _, _, _, _, _, _, _, _]) Tryd.underlying31 rfl ti31 rfl (ownS (ownS (ownS (ownS (ownS (own0)))))) rfl rfl) (WL_main rfl (OW_slice1 (cs := [_, _, _, _, _, _, _, _, _]) Tryd.underlying45 ti31 (by decide) (by decide) rfl rfl rfl rfl (by decide) fun b125 => WL_main rfl (OW_append1 (news := [_, _, _, _, _, _, _, _, _]) Tryd.underlying45 ti31 rfl (by decide) rfl rfl hrow2 own0 rfl rfl (by omega) (by unfold maxLen; omega) (by decide) (DelAt.perm (.s (.s (.s (.s (.s (.s (.s (.z))))))))) fun v126 p126 hr126 => Lq (q_assign rfl) ?_))))))))))))))))))
            refine WL_nil (blockN (thenN (WC_repsAdd (e := opD) (u := { o with c := 2, n := x + 1 }) (cs := opC { o with c := 2, n := x + 1 } Ao co) (.tail _ (.tail _ (.tail _ (.tail _ (.tail _ (.tail _ (.tail _ (.tail _ (.head _))))))))) (fun Z w hs => ⟨Ao, co, rfl, hs.facts _ (.tail _ (.tail _ (.tail _ (.tail _ (.tail _ (.tail _ (.head _)))))))⟩) (rfl : S ++ [{ o with c := 2, n := x + 1 }] = S ++ [{ o with c := 2, n := x + 1 }]) (WC_pick (.s (.s (.s (.s (.s (.s (.s (.s (.s (.s (.s (.s (.z))))))))))))) (WC_pick (.s (.s (.s (.s (.s (.s (.s (.s (.s (.s (.s (.s (.z))))))))))))) (WC_pick (.s (.s (.s (.s (.s (.s (.s (.s (.s (.s (.s (.s (.z))))))))))))) (WC_pick (.s (.s (.s (.s (.s (.s (.s (.s (.s (.s (.s (.s (.z))))))))))))) (WC_pick (.s (.s (.s (.s (.s (.s (.s (.s (.s (.s (.s (.s (.z))))))))))))) (WC_pick (.s (.s (.s (.s (.s (.s (.s (.s (.s (.s (.s (.z)))))))))))) ?_)))))))))
            refine WC_pick (.s (.s (.s (.s (.s (.s (.s (.s (.s (.s (.s (.z)))))))))))) (WC_pick (.s (.s (.s (.s (.s (.s (.s (.s (.s (.s (.s (.z)))))))))))) (WC_pick (.s (.s (.s (.s (.s (.s (.s (.s (.s (.s (.s (.z)))))))))))) (WC_pick (.s (.s (.s (.s (.s (.s (.s (.s (.s (.s (.s (.z)))))))))))) (WC_pick (.s (.s (.s (.s (.s (.s (.s (.s (.s (.s (.z))))))))))) (WC_region (Lq (q_move rfl) (Lq (q_add rfl rfl (wr64 (by omega)) (c := ((ku + 1 : Nat) : Int))) (Lq (q_assign rfl) (WL_nil (thenK ?_))))))))))
            refine ⟨(ku + 1, S ++ [{ o with c := 2, n := x + 1 }], v126, p126, css ++ [opC { o with c := 2, n := x + 1 } Ao co], H9, X9, nx9, L9, A9, cap9, B9, t9, A19, c19, A29, c29, A39, c39), ?_, (.cons rfl (.cons rfl (.cons rfl (.cons rfl (.cons rfl (.cons rfl (.cons rfl (.nil _)))))))), (List.Sublist.cons_cons _ (List.Sublist.cons_cons _ (List.Sublist.cons_cons _ (List.Sublist.cons_cons _ (List.Sublist.cons_cons _ (List.Sublist.cons_cons _ (List.Sublist.cons_cons _ (List.Sublist.cons_cons _ (List.Sublist.cons_cons _ (List.Sublist.cons_cons _ (List.Sublist.cons_cons _ (List.Sublist.cons _ (List.Sublist.cons _ (List.Sublist.refl _)))))))))))))), (memc (.head _) (memc (.tail _ (.head _)) (memc (.tail _ (.tail _ (.head _))) (memc (.tail _ (.tail _ (.tail _ (.head _)))) (memc (.tail _ (.tail _ (.tail _ (.tail _ (.head _))))) (memc (.tail _ (.tail _ (.tail _ (.tail _ (.tail _ (.head _)))))) (memc (.tail _ (.tail _ (.tail _ (.tail _ (.tail _ (.tail _ (.head _))))))) (fun _ h => .tail _ (.tail _ (.tail _ (.tail _ (.tail _ (.tail _ (.tail _ (.tail _ (.tail _ (.tail _ (.tail _ (.tail _ (.tail _ (.tail _ (.tail _ (.tail _ h)))))))))))))))))))))))⟩
            refine ⟨by show 6 - (ku + 1) < 6 - ku; omega, ⟨by omega, hV2, hop2, by rw [List.length_append, hlm2]; rfl, fun l hl => ?_, hr9, wt9, hX9⟩, ?_⟩
            · rcases List.mem_append.1 hl with hl | hl
              · exact hI2.c l hl
              · rw [List.mem_singleton] at hl; subst hl; rfl
            · rw [List.flatten_append, List.length_append, show [opC { o with c := 2, n := x + 1 } Ao co].flatten = opC { o with c := 2, n := x + 1 } Ao co from by simp]
              exact hr126
          · refine WC_exit (thenExit (thenExit (blockHit (thenK ?_))))
            refine ⟨(ku, S, w, p, css, H2, X2, nx2, L2, A2, cap2, B2, t2, Ai2, ci2, Ak2, ck2, At2, ct2), ?_, (.cons rfl (.cons rfl (.cons rfl (.cons rfl (.cons rfl (.nil _)))))), (List.Sublist.cons_cons _ (List.Sublist.cons_cons _ (List.Sublist.cons_cons _ (List.Sublist.cons_cons _ (List.Sublist.cons_cons _ (List.Sublist.cons_cons _ (List.Sublist.cons_cons _ (List.Sublist.cons_cons _ (List.Sublist.cons_cons _ (List.Sublist.cons_cons _ (List.Sublist.cons_cons _ (List.Sublist.refl _)))))))))))), (fun _ h => h)⟩
            exact ⟨hI2, hrow2⟩
        · refine Ln rfl rfl rfl g88 (Ln rfl rfl rfl g88 (Lq (q_pickF rfl g88 rfl) (WL_nil (thenN (WC_false rfl rfl (WC_exit (thenExit (thenExit (blockHit (thenK ?_))))))))))
          refine ⟨(ku, S, w, p, css, H2, X2, nx2, L2, A2, cap2, B2, t2, Ai2, ci2, Ak2, ck2, At2, ct2), ?_, (.cons rfl (.cons rfl (.cons rfl (.cons rfl (.cons rfl (.nil _)))))), (List.Sublist.cons_cons _ (List.Sublist.cons_cons _ (List.Sublist.cons_cons _ (List.Sublist.cons_cons _ (List.Sublist.cons_cons _ (List.Sublist.cons_cons _ (List.Sublist.cons_cons _ (List.Sublist.cons_cons _ (List.Sublist.cons_cons _ (List.Sublist.cons_cons _ (List.Sublist.cons_cons _ (List.Sublist.refl _)))))))))))), (fun _ h => h)⟩
          exact ⟨hI2, hrow2⟩
    · rintro ⟨ku, S, w, p, css, H2, X2, nx2, L2, A2, cap2, B2, t2, Ai2, ci2, Ak2, ck2, At2, ct2⟩ ⟨hI2, hrow2⟩
      have hle2 := hI2.le
      have hll2 := hI2.vi.len
      have hlm2 := hI2.len
      refine WC_seq (WC_seq (WC_freeze (e := opD) (xs := S) (css := css) hrow2 (.z) rfl (.head _) fun A6 c6 e6 => ?_))
      cases e6
      refine WC_region (Lq (q_assign rfl) (WL_nil (thenN (WC_block (WC_pick (.s (.s (.s (.s (.z))))) (WC_pick (.s (.s (.s (.s (.z))))) (WC_pick (.s (.s (.s (.s (.z))))) (WC_pick (.s (.s (.s (.s (.z))))) (WC_pick (.s (.s (.s (.s (.z))))) (WC_pick (.s (.s (.s (.s (.s (.s (.s (.s (.s (.z)))))))))) (WC_pick (.s (.s (.s (.s (.s (.s (.s (.s (.s (.z)))))))))) ?_)))))))))))
      refine WC_pick (.s (.s (.s (.s (.s (.s (.s (.s (.s (.z)))))))))) (WC_pick (.s (.s (.s (.s (.s (.s (.s (.s (.s (.z)))))))))) (WC_pick (.s (.s (.s (.s (.s (.s (.s (.s (.s (.z)))))))))) ?_))
      refine WC_loopE (α := Nat × Hist × List Ce × List Int × List MR × Option Addr × Nat × Option Addr × Tr × Option Addr × Nat × Option Addr × Nat × Option Addr × Nat) (fun (j, H3, X3, nx3, L3, A3, cap3, B3, t3, Ai3, ci3, Ak3, ck3, At3, ct3) => S.length - j)
        (fun (j, H3, X3, nx3, L3, A3, cap3, B3, t3, Ai3, ci3, Ak3, ck3, At3, ct3) => [(7, .pointer (some ⟨v, 0, none⟩)), (9, .pointer (some ⟨vu, 0, none⟩)), (10, .int .i64 H.ents.length), (11, .slice A8 M.length c8), (14, .slice A6 S.length c6), (17, .int .i64 j)])
        (fun (j, H3, X3, nx3, L3, A3, cap3, B3, t3, Ai3, ci3, Ak3, ck3, At3, ct3) => (vwP v h b Ai3 H3.ents.length ci3 Ak3 ck3 At3 ct3 nx3 :: hdP h A3 H3.ops.length cap3 m H3.total :: mpP m L3 :: mkP L3 :: rpP b B3 :: vwP vu hu bu Ai2 H2.ents.length ci2 Ak2 ck2 At2 ct2 nx2 :: hdP hu A2 H2.ops.length cap2 mu H2.total :: mpP mu L2 :: mkP L2 :: rpP bu B2 :: Ps))
        (fun (j, H3, X3, nx3, L3, A3, cap3, B3, t3, Ai3, ci3, Ak3, ck3, At3, ct3) => (RdF opD A3 cap3 H3.ops :: AllF L3 nowF :: TrF B3 t3 :: RdF idD Ai3 ci3 (idsOf H3.ents) :: RdF (De.int .i64) Ak3 ck3 (kindsOf H3.ents) :: RdF De.str At3 ct3 (textsOf H3.ents) :: RdF opD A2 cap2 H2.ops :: AllF L2 nowF :: TrF B2 t2 :: RdF idD Ai2 ci2 (idsOf H2.ents) :: RdF (De.int .i64) Ak2 ck2 (kindsOf H2.ents) :: RdF De.str At2 ct2 (textsOf H2.ents) :: RdF opD A6 c6 S :: RdF opD A8 c8 M :: barF :: RdF mvD Am cm ms :: RdF mvD Ap cp pe :: RdF mvD Aq cq cg :: As))
        (fun (j, H3, X3, nx3, L3, A3, cap3, B3, t3, Ai3, ci3, Ak3, ck3, At3, ct3) => PuI H n kv S M j H3 X3 nx3 L3 t3)
        (0, H1, X1, nx1, L1, A1, cap1, B1, t1, Ai1, ci1, Ak1, ck1, At1, ct1) ?_ (.cons rfl (.cons rfl (.cons rfl (.cons rfl (.cons rfl (.cons rfl (.nil _))))))) (List.Sublist.cons_cons _ (List.Sublist.cons_cons _ (List.Sublist.cons_cons _ (List.Sublist.cons_cons _ (List.Sublist.cons_cons _ (List.Sublist.cons_cons _ (List.Sublist.cons_cons _ (List.Sublist.cons_cons _ (List.Sublist.cons_cons _ (List.Sublist.cons_cons _ (List.Sublist.refl _))))))))))) (memc (.tail _ (.tail _ (.tail _ (.tail _ (.tail _ (.tail _ (.tail _ (.tail _ (.head _))))))))) (memc (.tail _ (.tail _ (.tail _ (.tail _ (.tail _ (.tail _ (.tail _ (.tail _ (.tail _ (.head _)))))))))) (memc (.tail _ (.tail _ (.tail _ (.tail _ (.tail _ (.tail _ (.tail _ (.tail _ (.tail _ (.tail _ (.head _))))))))))) (memc (.tail _ (.tail _ (.tail _ (.tail _ (.tail _ (.tail _ (.tail _ (.tail _ (.tail _ (.tail _ (.tail _ (.head _)))))))))))) (memc (.tail _ (.tail _ (.tail _ (.tail _ (.tail _ (.tail _ (.tail _ (.tail _ (.tail _ (.tail _ (.tail _ (.tail _ (.head _))))))))))))) (memc (.tail _ (.tail _ (.tail _ (.tail _ (.tail _ (.tail _ (.tail _ (.tail _ (.tail _ (.tail _ (.tail _ (.tail _ (.tail _ (.head _)))))))))))))) (memc (.tail _ (.tail _ (.head _))) (memc (.tail _ (.tail _ (.tail _ (.head _)))) (memc (.tail _ (.tail _ (.tail _ (.tail _ (.head _))))) (memc (.tail _ (.tail _ (.tail _ (.tail _ (.tail _ (.head _)))))) (memc (.tail _ (.tail _ (.tail _ (.tail _ (.tail _ (.tail _ (.head _))))))) (memc (.tail _ (.tail _ (.tail _ (.tail _ (.tail _ (.tail _ (.tail _ (.head _)))))))) (memc (.head _) (fun _ h => .tail _ (.tail _ (.tail _ (.tail _ (.tail _ (.tail _ (.tail _ (.tail _ (.tail _ (.tail _ (.tail _ (.tail _ (.tail _ (.tail _ h))))))))))))))))))))))))))) ?_
      · exact PuI.zero hI1 hn20
      · rintro ⟨j, H3, X3, nx3, L3, A3, cap3, B3, t3, Ai3, ci3, Ak3, ck3, At3, ct3⟩ hI3
        have hle3 := hI3.le
        refine WC_seq (WC_seq (WC_region (Lq (q_move rfl) (Lq (q_move rfl) (Lq (q_len Tryd.underlying45 rfl) (Lq (q_lss rfl rfl) (WL_nil (thenN (WC_cond rfl (fun h130 => ?_) (fun h130 => ?_))))))))))
        · refine WC_skip (thenN (WC_seq (WC_block (WC_seq ?_))))
          try simp only [Bp, Bq] at *
          have hjS : j < S.length := by omega
          obtain ⟨o, ho⟩ : ∃ o, S[j]? = some o := ⟨_, List.getElem?_eq_getElem hjS⟩
          obtain ⟨hg, hte, hV2, hop2, hc2⟩ := hI3.next hnl hn20 hle1 hI2 (by omega) ho
          refine WC_elem (k := j) (.tail _ (.tail _ (.tail _ (.tail _ (.tail _ (.tail _ (.tail _ (.tail _ (.tail _ (.tail _ (.tail _ (.tail _ (.head _))))))))))))) ho (op_open _) fun bo qo yo eo => ?_
          cases eo
          refine WC_pick (.s (.s (.s (.s (.z))))) (WC_pick (.s (.s (.s (.s (.z))))) (WC_pick (.s (.s (.s (.s (.z))))) (WC_pick (.s (.s (.s (.s (.z))))) (WC_pick (.s (.s (.s (.s (.z))))) (WC_region (Lq (q_move rfl) (Lq (q_move rfl) (Lq (q_move rfl) (Lq (q_add rfl rfl (by rw [hnl]; exact wr64 (by omega)) (c := ((n + j : Nat) : Int))) ?_)))))))))
          refine Lq (q_move rfl) (Lq (q_move rfl) (Lq (q_idxRd Tryd.underlying45 ti31 rfl rfl (by first | omega | simp) (by first | omega | simp)) (Lq (q_loadFN (k := 0) (vs := [_, _, _, _, _, _, _, _, _]) Tryd.underlying31 rfl ti31 rfl (.head _) rfl rfl rfl) ?_)))
          refine WL_main rfl (OW_callP (takes_1 1024 (n + kv + j) X3 v h m b H3 L3 A3 cap3 B3 t3 Ai3 ci3 Ak3 ck3 At3 ct3 nx3 (n + j) o yo.1 yo.2 hI3.vi hI3.hr hI3.wt hI3.hX hg (by omega)) (.cons rfl (.cons rfl (.cons rfl (.nil)))) (by decide) (List.Perm.refl _) (memc (.tail _ (.tail _ (.tail _ (.tail _ (.tail _ (.tail _ (.tail _ (.tail _ (.tail _ (.tail _ (.tail _ (.tail _ (.tail _ (.tail _ (.tail _ (.tail _ (.head _))))))))))))))))) (memc (.tail _ (.tail _ (.head _))) (memc (.tail _ (.tail _ (.tail _ (.head _)))) (memc (.tail _ (.tail _ (.tail _ (.tail _ (.head _))))) (memc (.tail _ (.tail _ (.tail _ (.tail _ (.tail _ (.head _)))))) (memc (.tail _ (.tail _ (.tail _ (.tail _ (.tail _ (.tail _ (.head _))))))) (memc (.tail _ (.tail _ (.tail _ (.tail _ (.tail _ (.tail _ (.tail _ (.head _)))))))) (memc (.tail _ (.head _)) mem0)))))))) fun u33_8 Lo fs hres => ?_)
          obtain ⟨rfl, L9, A9, cap9, B9, t9, A19, c19, A29, c29, A39, c39, rfl, rfl, hr9, wt9, hX9⟩ := hres
          obtain ⟨H9, hH9⟩ : ∃ z, z = (putF H3 ((n + j : Nat) : Int) o).1 := ⟨_, rfl⟩
          obtain ⟨X9, hX99⟩ : ∃ z, z = applyRow (putF H3 ((n + j : Nat) : Int) o).2.1 X3 := ⟨_, rfl⟩
          obtain ⟨nx9, hn9⟩ : ∃ z, z = nxF nx3 o.c o.n := ⟨_, rfl⟩
          rw [← hH9] at hr9 hV2 hop2 ⊢
          rw [← hX99] at hX9 hV2
          rw [← hn9] at hV2 ⊢
          refine Lq (q_assign rfl) (WL_nil (thenN (WC_seq (WC_region (Lq (q_move rfl) (Lq (q_not rfl) (WL_nil (thenN (WC_false rfl rfl (WC_skip (blockN (thenN (WC_pick (.s (.s (.s (.s (.s (.s (.s (.s (.s (.z)))))))))) (WC_pick (.s (.s (.s (.s (.s (.s (.s (.s (.s (.z)))))))))) (WC_pick (.s (.s (.s (.s (.s (.s (.s (.s (.s (.z)))))))))) (WC_pick (.s (.s (.s (.s (.s (.s (.s (.s (.s (.z)))))))))) (WC_pick (.s (.s (.s (.s (.s (.s (.s (.s (.s (.z)))))))))) ?_)))))))))))))))))
          refine WC_pick (.s (.s (.s (.s (.s (.s (.s (.s (.s (.z)))))))))) (WC_pick (.s (.s (.s (.s (.s (.s (.s (.s (.s (.z)))))))))) (WC_pick (.s (.s (.s (.s (.s (.s (.s (.s (.s (.z)))))))))) (WC_pick (.s (.s (.s (.s (.s (.s (.s (.s (.s (.z)))))))))) (WC_pick (.s (.s (.s (.s (.s (.s (.s (.s (.s (.z)))))))))) (WC_region (Lq (q_move rfl) (Lq (q_add rfl rfl (wr64 (by omega)) (c := ((j + 1 : Nat) : Int))) (Lq (q_assign rfl) (WL_nil (thenK ?_))))))))))
          refine ⟨(j + 1, H9, X9, nx9, L9, A9, cap9, B9, t9, A19, c19, A29, c29, A39, c39), ?_, (.cons rfl (.cons rfl (.cons rfl (.cons rfl (.cons rfl (.cons rfl (.nil _))))))), (List.Sublist.cons_cons _ (List.Sublist.cons_cons _ (List.Sublist.cons_cons _ (List.Sublist.cons_cons _ (List.Sublist.cons_cons _ (List.Sublist.cons_cons _ (List.Sublist.cons_cons _ (List.Sublist.cons_cons _ (List.Sublist.cons_cons _ (List.Sublist.cons_cons _ (List.Sublist.refl _))))))))))), (memc (.head _) (memc (.tail _ (.head _)) (memc (.tail _ (.tail _ (.head _))) (memc (.tail _ (.tail _ (.tail _ (.head _)))) (memc (.tail _ (.tail _ (.tail _ (.tail _ (.head _))))) (memc (.tail _ (.tail _ (.tail _ (.tail _ (.tail _ (.head _)))))) (fun _ h => .tail _ (.tail _ (.tail _ (.tail _ (.tail _ (.tail _ (.tail _ (.tail _ (.tail _ (.tail _ (.tail _ (.tail _ (.tail _ (.tail _ h))))))))))))))))))))⟩
          exact ⟨by show S.length - (j + 1) < S.length - j; omega, by omega, hV2, hop2, hc2, hr9, wt9, hX9⟩
        · refine WC_exit (thenExit (thenExit (blockHit (thenN (WC_seq ?_)))))
          try simp only [Bp, Bq] at *
          obtain rfl : j = S.length := by omega
          have hop3 := hI3.ops
          rw [List.take_length] at hop3
          obtain ⟨S', hcr⟩ := meets_cross hI1 hI2 hn20
          obtain ⟨LT, hLT⟩ : ∃ z, z = carryAll S M := ⟨_, rfl⟩
          have hLl : LT.length = M.length := by rw [hLT]; exact carryAll_length S M
          rw [← hLT] at hcr hop3
          have hfS : ∀ y ∈ S, Fit y := fun y hy => by
            have h1 : y ∈ H2.ops := by rw [hI2.ops]; exact List.mem_append_right _ hy
            obtain ⟨e, he, rfl⟩ := List.mem_map.1 h1
            exact hI2.hr.fit e he
          have hfM : ∀ y ∈ M, Fit y := fun y hy => by
            have h1 : y ∈ H1.ops := by rw [hI1.ops]; exact List.mem_append_right _ hy
            obtain ⟨e, he, rfl⟩ := List.mem_map.1 h1
            exact hI1.hr.fit e he
          refine WC_region (Lq (q_move rfl) (Lq (q_move rfl) (WL_main rfl (OW_call0 (cross_s A6 A8 c6 c8 S M hfS hfM (by omega) (by omega)) (.cons rfl (.cons rfl (.nil))) (by decide) (memc (.tail _ (.tail _ (.tail _ (.tail _ (.tail _ (.tail _ (.tail _ (.tail _ (.tail _ (.tail _ (.tail _ (.tail _ (.tail _ (.tail _ (.head _))))))))))))))) (memc (.tail _ (.tail _ (.tail _ (.tail _ (.tail _ (.tail _ (.tail _ (.tail _ (.tail _ (.tail _ (.tail _ (.tail _ (.head _))))))))))))) (memc (.tail _ (.tail _ (.tail _ (.tail _ (.tail _ (.tail _ (.tail _ (.tail _ (.tail _ (.tail _ (.tail _ (.tail _ (.tail _ (.head _)))))))))))))) mem0))) fun u36_2 Lo fs hres => ?_))))
          obtain ⟨Ax1, cx1, Ax2, cx2, rfl, rfl, rfl⟩ := hres
          rw [hcr]
          dsimp only
          refine Lq (q_move rfl) (Lq (q_extract (vs := [_, _, _]) rfl rfl) (Lq (q_extract (vs := [_, _, _]) rfl rfl) (Lq (q_extract (vs := [_, _, _]) rfl rfl) (Lq (q_assign rfl) (Lq (q_assign rfl) (Lq (q_assign rfl) (WL_nil (thenN (WC_seq (WC_seq (WC_region (Lq (q_move rfl) (Lq (q_neq rfl rfl) ?_)))))))))))))
          refine Lq (q_move rfl) (Lg rfl rfl rfl rfl (q_move rfl) (Lg rfl rfl rfl rfl (q_len Tryd.underlying45 rfl) (Lg rfl rfl rfl rfl (q_move rfl) (Lg rfl rfl rfl rfl (q_len Tryd.underlying45 rfl) (Lg rfl rfl rfl rfl (q_neq rfl rfl) (Lq (q_pickF rfl rfl rfl) (WL_nil (thenN (WC_false rfl (by rw [hLl]; simp) (WC_skip (thenN (WC_seq (WC_seq (WC_region ?_))))))))))))))
          refine Lq (q_assign rfl) (WL_nil (thenN (WC_block (WC_pick (.s (.s (.s (.s (.z))))) (WC_pick (.s (.s (.s (.s (.z))))) (WC_pick (.s (.s (.s (.s (.z))))) (WC_pick (.s (.s (.s (.s (.z))))) (WC_pick (.s (.s (.s (.s (.z))))) (WC_pick (.s (.s (.s (.s (.s (.s (.s (.s (.s (.z)))))))))) (WC_pick (.s (.s (.s (.s (.s (.s (.s (.s (.s (.z)))))))))) (WC_pick (.s (.s (.s (.s (.s (.s (.s (.s (.s (.z)))))))))) ?_)))))))))))
          refine WC_pick (.s (.s (.s (.s (.s (.s (.s (.s (.s (.z)))))))))) (WC_pick (.s (.s (.s (.s (.s (.s (.s (.s (.s (.z)))))))))) ?_)
          refine WC_loopE (α := Nat × Hist × List Ce × List Int × List MR × Option Addr × Nat × Option Addr × Tr × Option Addr × Nat × Option Addr × Nat × Option Addr × Nat) (fun (q, H4, X4, nx4, L4, A4, cap4, B4, t4, Ai4, ci4, Ak4, ck4, At4, ct4) => LT.length - q)
            (fun (q, H4, X4, nx4, L4, A4, cap4, B4, t4, Ai4, ci4, Ak4, ck4, At4, ct4) => [(7, .pointer (some ⟨v, 0, none⟩)), (9, .pointer (some ⟨vu, 0, none⟩)), (10, .int .i64 H.ents.length), (14, .slice A6 S.length c6), (19, .slice Ax2 LT.length cx2), (21, .int .i64 q)])
            (fun (q, H4, X4, nx4, L4, A4, cap4, B4, t4, Ai4, ci4, Ak4, ck4, At4, ct4) => (vwP vu hu bu Ai4 H4.ents.length ci4 Ak4 ck4 At4 ct4 nx4 :: hdP hu A4 H4.ops.length cap4 mu H4.total :: mpP mu L4 :: mkP L4 :: rpP bu B4 :: vwP v h b Ai3 H3.ents.length ci3 Ak3 ck3 At3 ct3 nx3 :: hdP h A3 H3.ops.length cap3 m H3.total :: mpP m L3 :: mkP L3 :: rpP b B3 :: Ps))
            (fun (q, H4, X4, nx4, L4, A4, cap4, B4, t4, Ai4, ci4, Ak4, ck4, At4, ct4) => (RdF opD A4 cap4 H4.ops :: AllF L4 nowF :: TrF B4 t4 :: RdF idD Ai4 ci4 (idsOf H4.ents) :: RdF (De.int .i64) Ak4 ck4 (kindsOf H4.ents) :: RdF De.str At4 ct4 (textsOf H4.ents) :: RdF opD A3 cap3 H3.ops :: AllF L3 nowF :: TrF B3 t3 :: RdF idD Ai3 ci3 (idsOf H3.ents) :: RdF (De.int .i64) Ak3 ck3 (kindsOf H3.ents) :: RdF De.str At3 ct3 (textsOf H3.ents) :: RdF opD Ax2 cx2 LT :: barF :: RdF mvD Am cm ms :: RdF mvD Ap cp pe :: RdF mvD Aq cq cg :: As))
            (fun (q, H4, X4, nx4, L4, A4, cap4, B4, t4, Ai4, ci4, Ak4, ck4, At4, ct4) => EnI H3 (n + S.length) q H4 X4 nx4 L4 t4)
            (0, H2, X2, nx2, L2, A2, cap2, B2, t2, Ai2, ci2, Ak2, ck2, At2, ct2) ?_ (.cons rfl (.cons rfl (.cons rfl (.cons rfl (.cons rfl (.cons rfl (.nil _))))))) (List.Sublist.cons_cons _ (List.Sublist.cons_cons _ (List.Sublist.cons_cons _ (List.Sublist.cons_cons _ (List.Sublist.cons_cons _ (List.Sublist.cons_cons _ (List.Sublist.cons_cons _ (List.Sublist.cons_cons _ (List.Sublist.cons_cons _ (List.Sublist.cons_cons _ (List.Sublist.refl _))))))))))) (memc (.tail _ (.tail _ (.tail _ (.tail _ (.tail _ (.tail _ (.tail _ (.tail _ (.head _))))))))) (memc (.tail _ (.tail _ (.tail _ (.tail _ (.tail _ (.tail _ (.tail _ (.tail _ (.tail _ (.head _)))))))))) (memc (.tail _ (.tail _ (.tail _ (.tail _ (.tail _ (.tail _ (.tail _ (.tail _ (.tail _ (.tail _ (.head _))))))))))) (memc (.tail _ (.tail _ (.tail _ (.tail _ (.tail _ (.tail _ (.tail _ (.tail _ (.tail _ (.tail _ (.tail _ (.head _)))))))))))) (memc (.tail _ (.tail _ (.tail _ (.tail _ (.tail _ (.tail _ (.tail _ (.tail _ (.tail _ (.tail _ (.tail _ (.tail _ (.head _))))))))))))) (memc (.tail _ (.tail _ (.tail _ (.tail _ (.tail _ (.tail _ (.tail _ (.tail _ (.tail _ (.tail _ (.tail _ (.tail _ (.tail _ (.head _)))))))))))))) (memc (.tail _ (.tail _ (.head _))) (memc (.tail _ (.tail _ (.tail _ (.head _)))) (memc (.tail _ (.tail _ (.tail _ (.tail _ (.head _))))) (memc (.tail _ (.tail _ (.tail _ (.tail _ (.tail _ (.head _)))))) (memc (.tail _ (.tail _ (.tail _ (.tail _ (.tail _ (.tail _ (.head _))))))) (memc (.tail _ (.tail _ (.tail _ (.tail _ (.tail _ (.tail _ (.tail _ (.head _)))))))) (memc (.tail _ (.head _)) (fun _ h => .tail _ (.tail _ (.tail _ (.tail _ (.tail _ (.tail _ (.tail _ (.tail _ (.tail _ (.tail _ (.tail _ (.tail _ (.tail _ (.tail _ (.tail _ (.tail _ h))))))))))))))))))))))))))))) ?_
          · have hl3 := hI3.vi.len
            refine ⟨by omega, ?_, ?_, hI2.hr, hI2.wt, hI2.hX⟩
            · have := hI2.vi.weak (N' := 1024) (by omega)
              rw [hlm2]; exact this
            · rw [hop3, hI2.ops, Nat.add_zero, List.take_left']
              rw [List.length_append, Hist.ops_length, hnl]
          · rintro ⟨q, H4, X4, nx4, L4, A4, cap4, B4, t4, Ai4, ci4, Ak4, ck4, At4, ct4⟩ hI4
            have hle4 := hI4.le
            refine WC_seq (WC_seq (WC_region (Lq (q_move rfl) (Lq (q_move rfl) (Lq (q_len Tryd.underlying45 rfl) (Lq (q_lss rfl rfl) (WL_nil (thenN (WC_cond rfl (fun h163 => ?_) (fun h163 => ?_))))))))))
            · refine WC_skip (thenN (WC_seq (WC_block (WC_seq ?_))))
              try simp only [Bp, Bq] at *
              have hqL : q < LT.length := by omega
              obtain ⟨o, hoL⟩ : ∃ o, LT[q]? = some o := ⟨_, List.getElem?_eq_getElem hqL⟩
              have ho : H3.ops[n + S.length + q]? = some o := by
                rw [hop3, List.getElem?_append_right (by rw [List.length_append, Hist.ops_length]; omega), List.length_append, Hist.ops_length, hnl, Nat.add_sub_cancel_left]; exact hoL
              have hl3 := hI3.vi.len
              obtain ⟨hg, hte, hV2, hop2⟩ := hI3.vi.next hI4.vi hI4.ops (by omega) ho
              refine WC_elem (k := q) (.tail _ (.tail _ (.tail _ (.tail _ (.tail _ (.tail _ (.tail _ (.tail _ (.tail _ (.tail _ (.tail _ (.tail _ (.head _))))))))))))) hoL (op_open _) fun bo qo yo eo => ?_
              cases eo
              refine WC_pick (.s (.s (.s (.s (.z))))) (WC_pick (.s (.s (.s (.s (.z))))) (WC_pick (.s (.s (.s (.s (.z))))) (WC_pick (.s (.s (.s (.s (.z))))) (WC_pick (.s (.s (.s (.s (.z))))) (WC_region (Lq (q_move rfl) (Lq (q_move rfl) (Lq (q_move rfl) (Lq (q_len Tryd.underlying45 rfl) ?_)))))))))
              refine Lq (q_add rfl rfl (by rw [hnl]; exact wr64 (by omega)) (c := ((n + S.length : Nat) : Int))) (Lq (q_move rfl) (Lq (q_add rfl rfl (wr64 (by omega)) (c := ((n + S.length + q : Nat) : Int))) (Lq (q_move rfl) (Lq (q_move rfl) (Lq (q_idxRd Tryd.underlying45 ti31 rfl rfl (by first | omega | simp) (by first | omega | simp)) (Lq (q_loadFN (k := 0) (vs := [_, _, _, _, _, _, _, _, _]) Tryd.underlying31 rfl ti31 rfl (.head _) rfl rfl rfl) ?_))))))
              refine WL_main rfl (OW_callP (takes_1 1024 (n + S.length + q) X4 vu hu mu bu H4 L4 A4 cap4 B4 t4 Ai4 ci4 Ak4 ck4 At4 ct4 nx4 (n + S.length + q) o yo.1 yo.2 hI4.vi hI4.hr hI4.wt hI4.hX hg (by omega)) (.cons rfl (.cons rfl (.cons rfl (.nil)))) (by decide) (List.Perm.refl _) (memc (.tail _ (.tail _ (.tail _ (.tail _ (.tail _ (.tail _ (.tail _ (.tail _ (.tail _ (.tail _ (.tail _ (.tail _ (.tail _ (.tail _ (.tail _ (.head _)))))))))))))))) (memc (.tail _ (.tail _ (.head _))) (memc (.tail _ (.tail _ (.tail _ (.head _)))) (memc (.tail _ (.tail _ (.tail _ (.tail _ (.head _))))) (memc (.tail _ (.tail _ (.tail _ (.tail _ (.tail _ (.head _)))))) (memc (.tail _ (.tail _ (.tail _ (.tail _ (.tail _ (.tail _ (.head _))))))) (memc (.tail _ (.tail _ (.tail _ (.tail _ (.tail _ (.tail _ (.tail _ (.head _)))))))) (memc (.tail _ (.head _)) mem0)))))))) fun u42_11 Lo fs hres => ?_)
              obtain ⟨rfl, L9, A9, cap9, B9, t9, A19, c19, A29, c29, A39, c39, rfl, rfl, hr9, wt9, hX9⟩ := hres
              obtain ⟨H9, hH9⟩ : ∃ z, z = (putF H4 ((n + S.length + q : Nat) : Int) o).1 := ⟨_, rfl⟩
              obtain ⟨X9, hX99⟩ : ∃ z, z = applyRow (putF H4 ((n + S.length + q : Nat) : Int) o).2.1 X4 := ⟨_, rfl⟩
              obtain ⟨nx9, hn9⟩ : ∃ z, z = nxF nx4 o.c o.n := ⟨_, rfl⟩
              rw [← hH9] at hr9 hV2 hop2 ⊢
              rw [← hX99] at hX9 hV2
              rw [← hn9] at hV2 ⊢
              refine Lq (q_assign rfl) (WL_nil (thenN (WC_seq (WC_region (Lq (q_move rfl) (Lq (q_not rfl) (WL_nil (thenN (WC_false rfl rfl (WC_skip (blockN (thenN (WC_pick (.s (.s (.s (.s (.s (.s (.s (.s (.s (.z)))))))))) (WC_pick (.s (.s (.s (.s (.s (.s (.s (.s (.s (.z)))))))))) (WC_pick (.s (.s (.s (.s (.s (.s (.s (.s (.s (.z)))))))))) (WC_pick (.s (.s (.s (.s (.s (.s (.s (.s (.s (.z)))))))))) (WC_pick (.s (.s (.s (.s (.s (.s (.s (.s (.s (.z)))))))))) ?_)))))))))))))))))
              refine WC_pick (.s (.s (.s (.s (.s (.s (.s (.s (.s (.z)))))))))) (WC_pick (.s (.s (.s (.s (.s (.s (.s (.s (.s (.z)))))))))) (WC_pick (.s (.s (.s (.s (.s (.s (.s (.s (.s (.z)))))))))) (WC_pick (.s (.s (.s (.s (.s (.s (.s (.s (.s (.z)))))))))) (WC_pick (.s (.s (.s (.s (.s (.s (.s (.s (.s (.z)))))))))) (WC_region (Lq (q_move rfl) (Lq (q_add rfl rfl (wr64 (by omega)) (c := ((q + 1 : Nat) : Int))) (Lq (q_assign rfl) (WL_nil (thenK ?_))))))))))
              refine ⟨(q + 1, H9, X9, nx9, L9, A9, cap9, B9, t9, A19, c19, A29, c29, A39, c39), ?_, (.cons rfl (.cons rfl (.cons rfl (.cons rfl (.cons rfl (.cons rfl (.nil _))))))), (List.Sublist.cons_cons _ (List.Sublist.cons_cons _ (List.Sublist.cons_cons _ (List.Sublist.cons_cons _ (List.Sublist.cons_cons _ (List.Sublist.cons_cons _ (List.Sublist.cons_cons _ (List.Sublist.cons_cons _ (List.Sublist.cons_cons _ (List.Sublist.cons_cons _ (List.Sublist.refl _))))))))))), (memc (.head _) (memc (.tail _ (.head _)) (memc (.tail _ (.tail _ (.head _))) (memc (.tail _ (.tail _ (.tail _ (.head _)))) (memc (.tail _ (.tail _ (.tail _ (.tail _ (.head _))))) (memc (.tail _ (.tail _ (.tail _ (.tail _ (.tail _ (.head _)))))) (fun _ h => .tail _ (.tail _ (.tail _ (.tail _ (.tail _ (.tail _ (.tail _ (.tail _ (.tail _ (.tail _ (.tail _ (.tail _ (.tail _ (.tail _ h))))))))))))))))))))⟩
              exact ⟨by show LT.length - (q + 1) < LT.length - q; omega, by omega, hV2, hop2, hr9, wt9, hX9⟩
            · refine WC_exit (thenExit (thenExit (blockHit (thenN (WC_seq ?_)))))
              try simp only [Bp, Bq] at *
              have hl3 := hI3.vi.len
              obtain rfl : q = LT.length := by omega
              have hop4 := hI4.ops
              rw [List.take_of_length_le (by rw [Hist.ops_length]; omega)] at hop4
              obtain ⟨eH, eX⟩ := hI3.vi.one hI4.vi hop4.symm
              subst eH
              have hXX : t4.row = t3.row := by rw [hI4.hX, ← eX, hI3.hX]
              have hrl := hI3.vi.rule.len
              have htt := hI3.vi.total
              rw [← hI3.hX] at hrl
              refine WC_pick (.s (.s (.s (.s (.z))))) (WC_pick (.s (.s (.s (.s (.z))))) (WC_pick (.s (.s (.s (.s (.z))))) (WC_pick (.s (.s (.s (.s (.z))))) (WC_pick (.s (.s (.s (.s (.z))))) (WC_pick (.s (.s (.s (.s (.s (.s (.s (.s (.s (.z)))))))))) (WC_pick (.s (.s (.s (.s (.s (.s (.s (.s (.s (.z)))))))))) (WC_pick (.s (.s (.s (.s (.s (.s (.s (.s (.s (.z)))))))))) (WC_pick (.s (.s (.s (.s (.s (.s (.s (.s (.s (.z)))))))))) (WC_pick (.s (.s (.s (.s (.s (.s (.s (.s (.s (.z)))))))))) ?_)))))))))
              refine WC_region (Lq (q_move rfl) (Lq (q_move rfl) (WL_main rfl (OW_callP (alike_s H3 v h m b L3 A3 cap3 B3 t3 Ai3 ci3 Ak3 ck3 At3 ct3 nx3 vu hu mu bu L4 A4 cap4 B4 t4 Ai4 ci4 Ak4 ck4 At4 ct4 nx4 hI3.hr hI4.hr hI3.wt hI4.wt hXX (by omega) (by omega)) (.cons rfl (.cons rfl (.nil))) (by decide) (List.Perm.refl _) (memc (.tail _ (.tail _ (.tail _ (.tail _ (.tail _ (.tail _ (.head _))))))) (memc (.tail _ (.tail _ (.tail _ (.tail _ (.tail _ (.tail _ (.tail _ (.head _)))))))) (memc (.tail _ (.tail _ (.tail _ (.tail _ (.tail _ (.tail _ (.tail _ (.tail _ (.head _))))))))) (memc (.head _) (memc (.tail _ (.head _)) (memc (.tail _ (.tail _ (.head _))) mem0)))))) fun u45_2 Lo fs hres => ?_))))
              obtain ⟨rfl, rfl, rfl⟩ := hres
              refine Lq (q_assign rfl) (WL_nil (thenN (WC_ret ?_)))
              refine ⟨_, [], [], fun Z w hs => .tmp rfl (.nil), ?_, fun Z w hs => hs.out (List.Sublist.cons _ (List.Sublist.cons _ (List.Sublist.cons _ (List.Sublist.cons _ (List.Sublist.cons _ (List.Sublist.cons _ (List.Sublist.cons _ (List.Sublist.cons _ (List.Sublist.cons _ (List.Sublist.cons _ (List.Sublist.refl _))))))))))) (fun _ h => .tail _ (.tail _ (.tail _ (.tail _ (.tail _ (.tail _ (.tail _ (.tail _ (.tail _ (.tail _ (.tail _ (.tail _ (.tail _ h)))))))))))))⟩
              exact ⟨rfl, rfl, rfl⟩

end Go.Proofs.YtggdddkbhigjoaaDoor
set_option maxRecDepth 100000
namespace Go.Proofs.YtggdddkbhigjoaaDoor.historyMeets
open Go Go.GW Go.ChangeShapes Go.WideShapes Go.ChangeAt Go.RowKit
theorem own : ownKnob Tryd.prog.godebug = none := by kernel_rfl
/-- The walk, in the row's words. -/
theorem contract (H : Type) (enc : TypeId × Value → H) (W : World) (base : Nat) (args : Array Value) (ds gs : List (DataW H)) (before : List MemPlace)
    (hval : ∀ (j : Nat) t v, Tryd.f8.params[j]? = some t → args[j]? = some v → Value.okWide Tryd.prog W .any base t v)
    (hW : DataW.Whole enc Tryd.prog Tryd.f8.params.toList Rows.historyMeetsSpec.vars false W args.toList ds gs before) (hL : laidMetH Tryd.prog Rows.historyMeetsRow.laid W) :
    Calls Tryd.prog 8 args W fun e W' => ∃ v, e = .returned v ∧ Rows.historyMeetsSpec.post enc Tryd.prog Tryd.f8 false true false false W args v W' := by
  have hW' := hW
  have hlt := hW.lt
  obtain ⟨p, q, hA0, hV, rfl, hfz, hnd⟩ := hW
  have hA : DataW.TrodAll enc Tryd.prog W 0 (fun _ => true) true Tryd.f8.params.toList args.toList ds p := hA0
  rw [Tryd.params8] at hA hval
  obtain ⟨v0, v1, v2, d0, d1, d2, p0, p1, p2, rfl, rfl, rfl, t0, t1, t2⟩ := trodAll_three hA
  obtain ⟨rfl, rfl⟩ := trodVars_none hV
  clear hA0
  obtain ⟨A0, ms0, c0, rfl, hR0⟩ := mvs_arg (hval 0 49 v0 rfl rfl) t0
  obtain ⟨A1, ms1, c1, rfl, hR1⟩ := mvs_arg (hval 1 49 v1 rfl rfl) t1
  obtain ⟨A2, ms2, c2, rfl, hR2⟩ := mvs_arg (hval 2 49 v2 rfl rfl) t2
  have hb := bars_of hL
  have hs := st_of (W := W) (As := [barF, RdF mvD A0 c0 ms0, RdF mvD A1 c1 ms1, RdF mvD A2 c2 ms2]) (fun A hA => by
    simp only [List.mem_cons, List.not_mem_nil, or_false] at hA
    rcases hA with rfl | rfl | rfl | rfl
    · exact ⟨hb.2, hb.1⟩
    · exact hR0
    · exact hR1
    · exact hR2)
  refine ((meets_s A0 c0 ms0 A1 c1 ms1 A2 c2 ms2).calls _ W [] [NearF W (fun b => b < W.heap.size)] hs).mono ?_
  rintro e W' ⟨v, rfl, Z', Lo, fs, ⟨rfl, rfl, rfl⟩, h2⟩
  have hk := h2.facts (NearF W (fun b => b < W.heap.size)) (by simp)
  have hsame : ∀ x ∈ p0 ++ p1 ++ p2 ++ [], W.sameAt W' x := fun x hx => same_of hk (hlt x hx)
  exact ⟨_, rfl, post_plain (pa := p0 ++ p1 ++ p2) (pv := []) hW' (fun _ _ _ => trodAll_cons_mk (shut_bool Tryd.underlying4 _) trodAll_mk0) (fun sp hsp => by rw [List.append_assoc p0 p1 p2]; exact trodAll_mk3 (WideElems.Trod_stays laidOk (by kernel_rfl) (of_decide_eq_true (by kernel_rfl)) t0 (fun x hx => hsame x (List.mem_append_left _ (List.mem_append_left _ (List.mem_append_left _ hx)))) (fun x hx => hsp x (List.mem_append_left _ (List.mem_append_left _ (List.mem_append_left _ hx))))) (WideElems.Trod_stays laidOk (by kernel_rfl) (of_decide_eq_true (by kernel_rfl)) t1 (fun x hx => hsame x (List.mem_append_left _ (List.mem_append_left _ (List.mem_append_right _ hx)))) (fun x hx => hsp x (List.mem_append_left _ (List.mem_append_left _ (List.mem_append_right _ hx))))) (WideElems.Trod_stays laidOk (by kernel_rfl) (of_decide_eq_true (by kernel_rfl)) t2 (fun x hx => hsame x (List.mem_append_left _ (List.mem_append_right _ hx))) (fun x hx => hsp x (List.mem_append_left _ (List.mem_append_right _ hx))))) (fun _ _ => rfl) rfl (kept_of hk _)⟩
/-- A world for the witness. -/
noncomputable def laidWorld (os : Os) : World :=
  { World.holding Tryd.prog os ⟨#[], #[.slice none 0 0, .slice none 0 0, .slice none 0 0], []⟩ with heap := (World.holding Tryd.prog os ⟨#[], #[.slice none 0 0, .slice none 0 0, .slice none 0 0], []⟩).heap.modify 0 fun
      | .cells _ t frozen => .cells barC.toArray t frozen
      | o => o }
theorem laid_met (os : Os) : laidMet Tryd.prog Rows.historyMeetsRow.laid ((laidWorld os).forCall (fun _ _ => 0) ⟨#[], #[.slice none 0 0, .slice none 0 0, .slice none 0 0], []⟩).memory :=
  laidMet_of_run' 8 (by kernel_rfl) (by kernel_rfl)
theorem reads (os : Os) {H : Type} (enc : TypeId × Value → H) : ∃ places, DataW.whole enc Tryd.prog ((laidWorld os).forCall (fun _ _ => 0) ⟨#[], #[.slice none 0 0, .slice none 0 0, .slice none 0 0], []⟩).memory Tryd.f8.params.toList Rows.historyMeetsSpec.vars false (#[.slice none 0 0, .slice none 0 0, .slice none 0 0] : Array Value).toList 8 = some ([.nil, .nil, .nil], [], places) :=
  ⟨[], by kernel_rfl⟩
theorem lifted (os : Os) (started : os.Started) (H : Type) (enc : TypeId × Value → H) (F : Stop.Interp) :
    ReturnsInHanded {} Tryd.checked os 8 .any ((OpenSpec.ofChange Rows.historyMeetsSpec).preRow enc Tryd.prog Tryd.f8 Rows.historyMeetsRow.domain false Rows.historyMeetsRow.laid) (((OpenSpec.ofChange Rows.historyMeetsSpec).at F).post enc Tryd.prog Tryd.f8 false true false false) := by
  obtain ⟨places, hx⟩ := reads os enc
  refine returnsInHanded_of_row (C := Tryd.checked) (s := OpenSpec.ofChange Rows.historyMeetsSpec) own started (by kernel_rfl) Tryd.func8
    (witness_row_at (enc := enc) (C := Tryd.checked) false (laidWorld os) #[.slice none 0 0, .slice none 0 0, .slice none 0 0] rfl (by kernel_rfl) (by kernel_rfl) (by kernel_rfl)
      (OpenSpec.preRow_of_cond 8 hx (by kernel_rfl) (fun k hk => by cases hk) (by kernel_rfl) (laid_met os))) ?_
  intro W base args ds gs before hval hW _ _ _ hL _ _
  exact contract H enc W base args ds gs before hval hW hL
theorem said : Rows.HistoryMeetsSaid :=
  OpenClaim.holds_of_cond 8 Tryd.f8 rfl rfl rfl rfl rfl rfl rfl ⟨rfl, rfl, rfl, rfl, rfl⟩ rfl rfl rfl rfl rfl (by kernel_rfl) Tryd.func8 (by kernel_rfl)
    (of_decide_eq_true (by kernel_rfl)) (by unfold Func.isWrapper; first | (rw [if_pos (by decide +kernel)]; kernel_rfl) | (rw [if_neg (by decide +kernel)]; exact ⟨rfl, rfl⟩))
    (fun os started H enc _ F => by rw [OpenClaim.pre_eq_preRow]; exact lifted os started H enc F)
theorem plain (f : FuncId) (fn : Func) (hf : Tryd.pinned.checked.prog.funcNamed "redraft/redraftlaw06.HistoryMeets" = some f) (hfn : Tryd.pinned.checked.prog.funcs[f]? = some fn) :
    false = Tryd.pinned.checked.prog.looks [] ∧ ∀ (j : Nat) t, fn.params[j]? = some t → Tryd.pinned.checked.prog.wantsStandIn t = false := by
  obtain rfl : f = 8 := Option.some.inj ((show Tryd.prog.funcNamed "redraft/redraftlaw06.HistoryMeets" = some 8 by kernel_rfl).symm.trans hf) |>.symm
  obtain rfl : fn = Tryd.f8 := (Option.some.inj (Tryd.func8.symm.trans hfn)).symm
  refine ⟨by kernel_rfl, fun j t ht => ?_⟩
  rw [Tryd.params8] at ht
  rcases j with _ | _ | _ | j
  · simp at ht; subst ht; kernel_rfl
  · simp at ht; subst ht; kernel_rfl
  · simp at ht; subst ht; kernel_rfl
  · simp at ht
theorem card : Rows.HistoryMeetsCardSaid :=
  Claim7.holds_tied_plain_at .later [] _ _ _ _ said (fun _ h => by cases h) (by kernel_rfl) (fun _ h => by cases h) historyMeets_row_tie rfl ⟨rfl, rfl⟩ (by kernel_rfl) rfl plain (by kernel_rfl)
#print axioms card
end Go.Proofs.YtggdddkbhigjoaaDoor.historyMeets
