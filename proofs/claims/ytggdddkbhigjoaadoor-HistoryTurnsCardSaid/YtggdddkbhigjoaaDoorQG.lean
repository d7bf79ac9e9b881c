/- 'redraft/redraftlaw06.HistoryTurns' answers true, whatever its arguments and the world in which it is called: on every schedule and every choice; what is handed in reads as_ it did. Its condition: the table of package utext holds what its initialiser lays (the card ties that to the program's text). -/
import Derived.Test.YtggdddkbhigjoaaDoorTie
import Derived.Test.YtggdddkbhigjoaaDoorQF
set_option linter.unusedVariables false
set_option linter.unusedSimpArgs false
/- Walks: builders. -/
namespace Go.Proofs.YtggdddkbhigjoaaDoor
open Go Go.GW
def u8w (x : Int) : Int := IntKind.u8.wrap x
def encI (r : Int) : List Int :=
  if IntKind.u32.wrap r ≤ 127 then [u8w r]
  else if IntKind.u32.wrap r ≤ 2047 then [bits .or .u8 192 (u8w (r.fdiv (2 ^ 6))), bits .or .u8 128 (bits .and .u8 (u8w r) 63)]
  else if IntKind.u32.wrap r < 55296 ∨ (57343 < IntKind.u32.wrap r ∧ IntKind.u32.wrap r ≤ 65535) then [bits .or .u8 224 (u8w (r.fdiv (2 ^ 12))), bits .or .u8 128 (bits .and .u8 (u8w (r.fdiv (2 ^ 6))) 63), bits .or .u8 128 (bits .and .u8 (u8w r) 63)]
  else if IntKind.u32.wrap r > 65535 ∧ IntKind.u32.wrap r ≤ 1114111 then [bits .or .u8 240 (u8w (r.fdiv (2 ^ 18))), bits .or .u8 128 (bits .and .u8 (u8w (r.fdiv (2 ^ 12))) 63), bits .or .u8 128 (bits .and .u8 (u8w (r.fdiv (2 ^ 6))) 63), bits .or .u8 128 (bits .and .u8 (u8w r) 63)]
  else [239, 191, 189]
theorem u8_range (x : Int) : 0 ≤ IntKind.u8.wrap x ∧ IntKind.u8.wrap x < 256 := by
  have h : IntKind.u8.wrap x = x % 256 := rfl
  rw [h]; omega
theorem or_range (a b : Int) : 0 ≤ bits .or .u8 a b ∧ bits .or .u8 a b < 256 := u8_range _
theorem encI_by (r : Int) : By (encI r) := by
  have h1 := u8_range r
  intro x hx
  unfold encI at hx
  split at hx
  · simp only [List.mem_singleton] at hx; subst hx; exact h1
  · split at hx
    · simp only [List.mem_cons, List.not_mem_nil, or_false] at hx; rcases hx with rfl | rfl <;> exact or_range _ _
    · split at hx
      · simp only [List.mem_cons, List.not_mem_nil, or_false] at hx; rcases hx with rfl | rfl | rfl <;> exact or_range _ _
      · split at hx
        · simp only [List.mem_cons, List.not_mem_nil, or_false] at hx; rcases hx with rfl | rfl | rfl | rfl <;> exact or_range _ _
        · simp only [List.mem_cons, List.not_mem_nil, or_false] at hx; omega
theorem encI_len (r : Int) : 1 ≤ (encI r).length ∧ (encI r).length ≤ 4 := by
  unfold encI
  split
  · simp
  · split
    · simp
    · split
      · simp
      · split <;> simp
theorem by_append {a b : List Int} (ha : By a) (hb : By b) : By (a ++ b) := fun x hx => (List.mem_append.1 hx).elim (ha x) (hb x)
abbrev blP (b : Nat) (ad : Option Addr) (v : Value) : Part := [(b, cellsO [.pointer ad, v] 124)]
theorem cv32 (x : Int) (w : World) : (convert 21 175 (.int .i32 x)).run Tryd.prog w = .ok (.int .u32 (IntKind.u32.wrap x)) w := by kernel_rfl
theorem cv8 (x : Int) (w : World) : (convert 21 5 (.int .i32 x)).run Tryd.prog w = .ok (.int .u8 (u8w x)) w := by kernel_rfl
theorem bs122_2 (a b : Int) (w : World) : (Instr.buildSlice 122 2 #[(0, .int .u8 a), (1, .int .u8 b)]).run Tryd.prog w = .ok (.slice (some ⟨w.heap.size, 0, none⟩) 2 2) (w.alloc (cellsO [.int .u8 a, .int .u8 b] 5)) := by kernel_rfl
theorem bs122_3 (a b c : Int) (w : World) : (Instr.buildSlice 122 3 #[(0, .int .u8 a), (1, .int .u8 b), (2, .int .u8 c)]).run Tryd.prog w = .ok (.slice (some ⟨w.heap.size, 0, none⟩) 3 3) (w.alloc (cellsO [.int .u8 a, .int .u8 b, .int .u8 c] 5)) := by kernel_rfl
theorem bs122_4 (a b c d : Int) (w : World) : (Instr.buildSlice 122 4 #[(0, .int .u8 a), (1, .int .u8 b), (2, .int .u8 c), (3, .int .u8 d)]).run Tryd.prog w = .ok (.slice (some ⟨w.heap.size, 0, none⟩) 4 4) (w.alloc (cellsO [.int .u8 a, .int .u8 b, .int .u8 c, .int .u8 d] 5)) := by kernel_rfl
theorem noEsc (v : Value) (w : World) : (callFunc 95 #[v]).run Tryd.prog w = .ok (.value v) w := by kernel_rfl
/-- What a function answers that writes behind a row of bytes. -/
def BwP (us : List Int) : Value → List Part → List Fact → Prop := fun v Lo fs => ∃ p, Row 5 1 v us.length (ints .u8 us) p ∧ Lo = [p] ∧ fs = []

set_option maxRecDepth 10000 in
theorem appNon_s (v : Value) (us : List Int) (p : Part) (r : Int) (hr : Row 5 1 v us.length (ints .u8 us) p) (hb : us.length ≤ 1073741824) (hn : ¬ IntKind.u32.wrap r ≤ 127) : Sp Tryd.prog 96 [v, .int .i32 r] [p] [] (BwP (us ++ encI r)) := by
  refine Sp.of (n := 78) ⟨_, Tryd.func96, rfl, rfl, rfl, rfl⟩ (Nat.le_of_ble_eq_true rfl) fun Ps As => ?_
  refine WC_seq (WC_region ?_)
  refine Lq (q_assign rfl) ?_
  refine WL_nil (thenN (WC_seq (WC_region ?_)))
  refine Lq (q_move rfl) ?_
  refine Lq (q_conv rfl (cv32 _)) ?_
  refine Lq (q_assign rfl) ?_
  refine WL_nil (thenN (WC_block (WC_seq (WC_region ?_))))
  refine Lq (q_move rfl) ?_
  refine Lq (q_leq rfl rfl) ?_
  refine Lq (q_assign rfl) ?_
  refine WL_nil (thenN ?_)
  refine WC_cond rfl (fun h11 => ?_) (fun h11 => ?_)
  · refine WC_seq (WC_region ?_)
    refine Lq (q_move rfl) ?_
    refine Lq (q_move rfl) ?_
    refine Lq (q_shr rfl rfl (by decide) rfl) ?_
    refine Lq (q_conv rfl (cv8 _)) ?_
    refine Lq (q_or rfl rfl rfl) ?_
    refine Lq (q_move rfl) ?_
    refine Lq (q_conv rfl (cv8 _)) ?_
    refine Lq (q_and rfl rfl rfl) ?_
    refine Lq (q_or rfl rfl rfl) ?_
    refine WL_main rfl (OW_sliceM (cs := [_, _]) (.cons rfl (.cons rfl (.nil))) (fun w => bs122_2 _ _  w) (by decide) fun b23 => ?_)
    refine WL_main rfl (OW_appendM (m := 2) (news := [_, _]) Tryd.underlying122 ti5 rfl (by decide) rfl rfl hr own0 rfl rfl (by omega) (by unfold maxLen; omega) (by decide) (DelAt.perm (.s (.z))) fun v24 p24 hr24 => ?_)
    refine Lq (q_assign rfl) ?_
    refine WL_nil (thenN (WC_ret (blockRet ?_)))
    refine ⟨_, [_], [], fun Z w hs => .tmp rfl (.nil), ?_, fun Z w hs => hs.out (List.Sublist.cons_cons _ (List.Sublist.cons _ (List.Sublist.refl _))) (fun _ h => h)⟩
    try simp only [Bq0, Bq1, Bq2, Bq3, Bq4, Bq5, Bq6, Bq7, Bq8, Bq9, Bq10, Bq11, Bq12] at *
    refine ⟨_, ?_, rfl, rfl⟩
    unfold encI
    rw [if_neg (by omega), if_pos (by omega)]
    rw [List.length_append, ints_append]
    exact hr24
  · refine WC_seq (WC_seq (WC_region ?_))
    refine Lq (q_move rfl) ?_
    refine Lq (q_lss rfl rfl) ?_
    refine Lq (q_assign rfl) ?_
    refine WL_nil (thenN ?_)
    refine WC_cond rfl (fun h25 => ?_) (fun h25 => ?_)
    · refine WC_skip (thenN ?_)
      refine WC_true rfl h25 ?_
      refine WC_seq (WC_region ?_)
      refine Lq (q_move rfl) ?_
      refine Lq (q_move rfl) ?_
      refine Lq (q_shr rfl rfl (by decide) rfl) ?_
      refine Lq (q_conv rfl (cv8 _)) ?_
      refine Lq (q_or rfl rfl rfl) ?_
      refine Lq (q_move rfl) ?_
      refine Lq (q_shr rfl rfl (by decide) rfl) ?_
      refine Lq (q_conv rfl (cv8 _)) ?_
      refine Lq (q_and rfl rfl rfl) ?_
      refine Lq (q_or rfl rfl rfl) ?_
      refine Lq (q_move rfl) ?_
      refine Lq (q_conv rfl (cv8 _)) ?_
      refine Lq (q_and rfl rfl rfl) ?_
      refine Lq (q_or rfl rfl rfl) ?_
      refine WL_main rfl (OW_sliceM (cs := [_, _, _]) (.cons rfl (.cons rfl (.cons rfl (.nil)))) (fun w => bs122_3 _ _ _  w) (by decide) fun b48 => ?_)
      refine WL_main rfl (OW_appendM (m := 3) (news := [_, _, _]) Tryd.underlying122 ti5 rfl (by decide) rfl rfl hr own0 rfl rfl (by omega) (by unfold maxLen; omega) (by decide) (DelAt.perm (.s (.z))) fun v49 p49 hr49 => ?_)
      refine Lq (q_assign rfl) ?_
      refine WL_nil (thenN (WC_ret (blockRet ?_)))
      refine ⟨_, [_], [], fun Z w hs => .tmp rfl (.nil), ?_, fun Z w hs => hs.out (List.Sublist.cons_cons _ (List.Sublist.cons _ (List.Sublist.refl _))) (fun _ h => h)⟩
      try simp only [Bq0, Bq1, Bq2, Bq3, Bq4, Bq5, Bq6, Bq7, Bq8, Bq9, Bq10, Bq11, Bq12] at *
      refine ⟨_, ?_, rfl, rfl⟩
      unfold encI
      rw [if_neg (by omega), if_neg (by omega), if_pos (by omega)]
      rw [List.length_append, ints_append]
      exact hr49
    · refine WC_region ?_
      refine Lq (q_move rfl) ?_
      refine Lq (q_lss rfl rfl) ?_
      refine Lq (q_move rfl) ?_
      refine WL_guard (t := 30) rfl (fun g30 => ?_) (fun g30 => ?_)
      · refine Lg rfl rfl rfl g30 (q_move rfl) ?_
        refine Lg rfl rfl rfl g30 (q_leq rfl rfl) ?_
        refine Lq (q_pickT rfl g30 rfl) ?_
        refine Lq (q_assign rfl) ?_
        refine WL_nil (thenN ?_)
        refine WC_cond rfl (fun h25 => ?_) (fun h25 => ?_)
        · refine WC_seq (WC_region ?_)
          refine Lq (q_move rfl) ?_
          refine Lq (q_move rfl) ?_
          refine Lq (q_shr rfl rfl (by decide) rfl) ?_
          refine Lq (q_conv rfl (cv8 _)) ?_
          refine Lq (q_or rfl rfl rfl) ?_
          refine Lq (q_move rfl) ?_
          refine Lq (q_shr rfl rfl (by decide) rfl) ?_
          refine Lq (q_conv rfl (cv8 _)) ?_
          refine Lq (q_and rfl rfl rfl) ?_
          refine Lq (q_or rfl rfl rfl) ?_
          refine Lq (q_move rfl) ?_
          refine Lq (q_conv rfl (cv8 _)) ?_
          refine Lq (q_and rfl rfl rfl) ?_
          refine Lq (q_or rfl rfl rfl) ?_
          refine WL_main rfl (OW_sliceM (cs := [_, _, _]) (.cons rfl (.cons rfl (.cons rfl (.nil)))) (fun w => bs122_3 _ _ _  w) (by decide) fun b48 => ?_)
          refine WL_main rfl (OW_appendM (m := 3) (news := [_, _, _]) Tryd.underlying122 ti5 rfl (by decide) rfl rfl hr own0 rfl rfl (by omega) (by unfold maxLen; omega) (by decide) (DelAt.perm (.s (.z))) fun v49 p49 hr49 => ?_)
          refine Lq (q_assign rfl) ?_
          refine WL_nil (thenN (WC_ret (blockRet ?_)))
          refine ⟨_, [_], [], fun Z w hs => .tmp rfl (.nil), ?_, fun Z w hs => hs.out (List.Sublist.cons_cons _ (List.Sublist.cons _ (List.Sublist.refl _))) (fun _ h => h)⟩
          try simp only [Bq0, Bq1, Bq2, Bq3, Bq4, Bq5, Bq6, Bq7, Bq8, Bq9, Bq10, Bq11, Bq12] at *
          refine ⟨_, ?_, rfl, rfl⟩
          unfold encI
          rw [if_neg (by omega), if_neg (by omega), if_pos (by omega)]
          rw [List.length_append, ints_append]
          exact hr49
        · refine WC_seq (WC_region ?_)
          refine Lq (q_move rfl) ?_
          refine Lq (q_gtr rfl rfl) ?_
          refine Lq (q_move rfl) ?_
          refine WL_guard (t := 53) rfl (fun g53 => ?_) (fun g53 => ?_)
          · refine Lg rfl rfl rfl g53 (q_move rfl) ?_
            refine Lg rfl rfl rfl g53 (q_leq rfl rfl) ?_
            refine Lq (q_pickT rfl g53 rfl) ?_
            refine Lq (q_assign rfl) ?_
            refine WL_nil (thenN ?_)
            refine WC_cond rfl (fun h50 => ?_) (fun h50 => ?_)
            · refine WC_seq (WC_region ?_)
              refine Lq (q_move rfl) ?_
              refine Lq (q_move rfl) ?_
              refine Lq (q_shr rfl rfl (by decide) rfl) ?_
              refine Lq (q_conv rfl (cv8 _)) ?_
              refine Lq (q_or rfl rfl rfl) ?_
              refine Lq (q_move rfl) ?_
              refine Lq (q_shr rfl rfl (by decide) rfl) ?_
              refine Lq (q_conv rfl (cv8 _)) ?_
              refine Lq (q_and rfl rfl rfl) ?_
              refine Lq (q_or rfl rfl rfl) ?_
              refine Lq (q_move rfl) ?_
              refine Lq (q_shr rfl rfl (by decide) rfl) ?_
              refine Lq (q_conv rfl (cv8 _)) ?_
              refine Lq (q_and rfl rfl rfl) ?_
              refine Lq (q_or rfl rfl rfl) ?_
              refine Lq (q_move rfl) ?_
              refine Lq (q_conv rfl (cv8 _)) ?_
              refine Lq (q_and rfl rfl rfl) ?_
              refine Lq (q_or rfl rfl rfl) ?_
              refine WL_main rfl (OW_sliceM (cs := [_, _, _, _]) (.cons rfl (.cons rfl (.cons rfl (.cons rfl (.nil))))) (fun w => bs122_4 _ _ _ _  w) (by decide) fun b76 => ?_)
              refine WL_main rfl (OW_appendM (m := 4) (news := [_, _, _, _]) Tryd.underlying122 ti5 rfl (by decide) rfl rfl hr own0 rfl rfl (by omega) (by unfold maxLen; omega) (by decide) (DelAt.perm (.s (.z))) fun v77 p77 hr77 => ?_)
              refine Lq (q_assign rfl) ?_
              refine WL_nil (thenN (WC_ret (blockRet ?_)))
              refine ⟨_, [_], [], fun Z w hs => .tmp rfl (.nil), ?_, fun Z w hs => hs.out (List.Sublist.cons_cons _ (List.Sublist.cons _ (List.Sublist.refl _))) (fun _ h => h)⟩
              try simp only [Bq0, Bq1, Bq2, Bq3, Bq4, Bq5, Bq6, Bq7, Bq8, Bq9, Bq10, Bq11, Bq12] at *
              refine ⟨_, ?_, rfl, rfl⟩
              unfold encI
              rw [if_neg (by omega), if_neg (by omega), if_neg (by omega), if_pos (by omega)]
              rw [List.length_append, ints_append]
              exact hr77
            · refine WC_seq (WC_region ?_)
              refine Lq (q_move rfl) ?_
              refine WL_main rfl (OW_sliceM (cs := [_, _, _]) (.cons rfl (.cons rfl (.cons rfl (.nil)))) (fun w => bs122_3 _ _ _  w) (by decide) fun b9 => ?_)
              refine WL_main rfl (OW_appendM (m := 3) (news := [_, _, _]) Tryd.underlying122 ti5 rfl (by decide) rfl rfl hr own0 rfl rfl (by omega) (by unfold maxLen; omega) (by decide) (DelAt.perm (.s (.z))) fun v10 p10 hr10 => ?_)
              refine Lq (q_assign rfl) ?_
              refine WL_nil (thenN (WC_ret (blockRet ?_)))
              refine ⟨_, [_], [], fun Z w hs => .tmp rfl (.nil), ?_, fun Z w hs => hs.out (List.Sublist.cons_cons _ (List.Sublist.cons _ (List.Sublist.refl _))) (fun _ h => h)⟩
              try simp only [Bq0, Bq1, Bq2, Bq3, Bq4, Bq5, Bq6, Bq7, Bq8, Bq9, Bq10, Bq11, Bq12] at *
              refine ⟨_, ?_, rfl, rfl⟩
              unfold encI
              rw [if_neg (by omega), if_neg (by omega), if_neg (by omega), if_neg (by omega)]
              rw [List.length_append, ints_append]
              exact hr10
          · refine Ln rfl rfl rfl g53 ?_
            refine Ln rfl rfl rfl g53 ?_
            refine Lq (q_pickF rfl g53 rfl) ?_
            refine Lq (q_assign rfl) ?_
            refine WL_nil (thenN (WC_false rfl rfl (WC_seq (WC_region ?_))))
            refine Lq (q_move rfl) ?_
            refine WL_main rfl (OW_sliceM (cs := [_, _, _]) (.cons rfl (.cons rfl (.cons rfl (.nil)))) (fun w => bs122_3 _ _ _  w) (by decide) fun b9 => ?_)
            refine WL_main rfl (OW_appendM (m := 3) (news := [_, _, _]) Tryd.underlying122 ti5 rfl (by decide) rfl rfl hr own0 rfl rfl (by omega) (by unfold maxLen; omega) (by decide) (DelAt.perm (.s (.z))) fun v10 p10 hr10 => ?_)
            refine Lq (q_assign rfl) ?_
            refine WL_nil (thenN (WC_ret (blockRet ?_)))
            refine ⟨_, [_], [], fun Z w hs => .tmp rfl (.nil), ?_, fun Z w hs => hs.out (List.Sublist.cons_cons _ (List.Sublist.cons _ (List.Sublist.refl _))) (fun _ h => h)⟩
            try simp only [Bq0, Bq1, Bq2, Bq3, Bq4, Bq5, Bq6, Bq7, Bq8, Bq9, Bq10, Bq11, Bq12] at *
            refine ⟨_, ?_, rfl, rfl⟩
            unfold encI
            rw [if_neg (by omega), if_neg (by omega), if_neg (by omega), if_neg (by omega)]
            rw [List.length_append, ints_append]
            exact hr10
      · refine Ln rfl rfl rfl g30 ?_
        refine Ln rfl rfl rfl g30 ?_
        refine Lq (q_pickF rfl g30 rfl) ?_
        refine Lq (q_assign rfl) ?_
        refine WL_nil (thenN (WC_false rfl rfl (WC_seq (WC_region ?_))))
        refine Lq (q_move rfl) ?_
        refine Lq (q_gtr rfl rfl) ?_
        refine Lq (q_move rfl) ?_
        refine WL_guard (t := 53) rfl (fun g53 => ?_) (fun g53 => ?_)
        · refine Lg rfl rfl rfl g53 (q_move rfl) ?_
          refine Lg rfl rfl rfl g53 (q_leq rfl rfl) ?_
          refine Lq (q_pickT rfl g53 rfl) ?_
          refine Lq (q_assign rfl) ?_
          refine WL_nil (thenN ?_)
          refine WC_cond rfl (fun h50 => ?_) (fun h50 => ?_)
          · refine WC_seq (WC_region ?_)
            refine Lq (q_move rfl) ?_
            refine Lq (q_move rfl) ?_
            refine Lq (q_shr rfl rfl (by decide) rfl) ?_
            refine Lq (q_conv rfl (cv8 _)) ?_
            refine Lq (q_or rfl rfl rfl) ?_
            refine Lq (q_move rfl) ?_
            refine Lq (q_shr rfl rfl (by decide) rfl) ?_
            refine Lq (q_conv rfl (cv8 _)) ?_
            refine Lq (q_and rfl rfl rfl) ?_
            refine Lq (q_or rfl rfl rfl) ?_
            refine Lq (q_move rfl) ?_
            refine Lq (q_shr rfl rfl (by decide) rfl) ?_
            refine Lq (q_conv rfl (cv8 _)) ?_
            refine Lq (q_and rfl rfl rfl) ?_
            refine Lq (q_or rfl rfl rfl) ?_
            refine Lq (q_move rfl) ?_
            refine Lq (q_conv rfl (cv8 _)) ?_
            refine Lq (q_and rfl rfl rfl) ?_
            refine Lq (q_or rfl rfl rfl) ?_
            refine WL_main rfl (OW_sliceM (cs := [_, _, _, _]) (.cons rfl (.cons rfl (.cons rfl (.cons rfl (.nil))))) (fun w => bs122_4 _ _ _ _  w) (by decide) fun b76 => ?_)
            refine WL_main rfl (OW_appendM (m := 4) (news := [_, _, _, _]) Tryd.underlying122 ti5 rfl (by decide) rfl rfl hr own0 rfl rfl (by omega) (by unfold maxLen; omega) (by decide) (DelAt.perm (.s (.z))) fun v77 p77 hr77 => ?_)
            refine Lq (q_assign rfl) ?_
            refine WL_nil (thenN (WC_ret (blockRet ?_)))
            refine ⟨_, [_], [], fun Z w hs => .tmp rfl (.nil), ?_, fun Z w hs => hs.out (List.Sublist.cons_cons _ (List.Sublist.cons _ (List.Sublist.refl _))) (fun _ h => h)⟩
            try simp only [Bq0, Bq1, Bq2, Bq3, Bq4, Bq5, Bq6, Bq7, Bq8, Bq9, Bq10, Bq11, Bq12] at *
            refine ⟨_, ?_, rfl, rfl⟩
            unfold encI
            rw [if_neg (by omega), if_neg (by omega), if_neg (by omega), if_pos (by omega)]
            rw [List.length_append, ints_append]
            exact hr77
          · refine WC_seq (WC_region ?_)
            refine Lq (q_move rfl) ?_
            refine WL_main rfl (OW_sliceM (cs := [_, _, _]) (.cons rfl (.cons rfl (.cons rfl (.nil)))) (fun w => bs122_3 _ _ _  w) (by decide) fun b9 => ?_)
            refine WL_main rfl (OW_appendM (m := 3) (news := [_, _, _]) Tryd.underlying122 ti5 rfl (by decide) rfl rfl hr own0 rfl rfl (by omega) (by unfold maxLen; omega) (by decide) (DelAt.perm (.s (.z))) fun v10 p10 hr10 => ?_)
            refine Lq (q_assign rfl) ?_
            refine WL_nil (thenN (WC_ret (blockRet ?_)))
            refine ⟨_, [_], [], fun Z w hs => .tmp rfl (.nil), ?_, fun Z w hs => hs.out (List.Sublist.cons_cons _ (List.Sublist.cons _ (List.Sublist.refl _))) (fun _ h => h)⟩
            try simp only [Bq0, Bq1, Bq2, Bq3, Bq4, Bq5, Bq6, Bq7, Bq8, Bq9, Bq10, Bq11, Bq12] at *
            refine ⟨_, ?_, rfl, rfl⟩
            unfold encI
            rw [if_neg (by omega), if_neg (by omega), if_neg (by omega), if_neg (by omega)]
            rw [List.length_append, ints_append]
            exact hr10
        · refine Ln rfl rfl rfl g53 ?_
          refine Ln rfl rfl rfl g53 ?_
          refine Lq (q_pickF rfl g53 rfl) ?_
          refine Lq (q_assign rfl) ?_
          refine WL_nil (thenN (WC_false rfl rfl (WC_seq (WC_region ?_))))
          refine Lq (q_move rfl) ?_
          refine WL_main rfl (OW_sliceM (cs := [_, _, _]) (.cons rfl (.cons rfl (.cons rfl (.nil)))) (fun w => bs122_3 _ _ _  w) (by decide) fun b9 => ?_)
          refine WL_main rfl (OW_appendM (m := 3) (news := [_, _, _]) Tryd.underlying122 ti5 rfl (by decide) rfl rfl hr own0 rfl rfl (by omega) (by unfold maxLen; omega) (by decide) (DelAt.perm (.s (.z))) fun v10 p10 hr10 => ?_)
          refine Lq (q_assign rfl) ?_
          refine WL_nil (thenN (WC_ret (blockRet ?_)))
          refine ⟨_, [_], [], fun Z w hs => .tmp rfl (.nil), ?_, fun Z w hs => hs.out (List.Sublist.cons_cons _ (List.Sublist.cons _ (List.Sublist.refl _))) (fun _ h => h)⟩
          try simp only [Bq0, Bq1, Bq2, Bq3, Bq4, Bq5, Bq6, Bq7, Bq8, Bq9, Bq10, Bq11, Bq12] at *
          refine ⟨_, ?_, rfl, rfl⟩
          unfold encI
          rw [if_neg (by omega), if_neg (by omega), if_neg (by omega), if_neg (by omega)]
          rw [List.length_append, ints_append]
          exact hr10


set_option maxRecDepth 10000 in
theorem appRune_s (v : Value) (us : List Int) (p : Part) (r : Int) (hr : Row 5 1 v us.length (ints .u8 us) p) (hb : us.length ≤ 1073741824) : Sp Tryd.prog 75 [v, .int .i32 r] [p] [] (BwP (us ++ encI r)) := by
  refine Sp.of (n := 16) ⟨_, Tryd.func75, rfl, rfl, rfl, rfl⟩ (Nat.le_of_ble_eq_true rfl) fun Ps As => ?_
  refine WC_seq (WC_region ?_)
  refine Lq (q_assign rfl) ?_
  refine WL_nil (thenN (WC_seq (WC_seq (WC_region ?_))))
  refine Lq (q_move rfl) ?_
  refine Lq (q_conv rfl (cv32 _)) ?_
  refine Lq (q_leq rfl rfl) ?_
  refine WL_nil (thenN ?_)
  refine WC_cond rfl (fun h7 => ?_) (fun h7 => ?_)
  · refine WC_seq (WC_region ?_)
    refine Lq (q_move rfl) ?_
    refine Lq (q_move rfl) ?_
    refine Lq (q_conv rfl (cv8 _)) ?_
    refine WL_main rfl (OW_slice1 (cs := [_]) Tryd.underlying122 ti5 (by decide) (by decide) rfl rfl rfl rfl (by decide) fun b11 => ?_)
    refine WL_main rfl (OW_append1 (news := [_]) Tryd.underlying122 ti5 rfl (by decide) rfl rfl hr own0 rfl rfl (by omega) (by unfold maxLen; omega) (by decide) (DelAt.perm (.s (.z))) fun v12 p12 hr12 => ?_)
    refine Lq (q_assign rfl) ?_
    refine WL_nil (thenN (WC_ret (thenRet ?_)))
    refine ⟨_, [_], [], fun Z w hs => .tmp rfl (.nil), ?_, fun Z w hs => hs.out (List.Sublist.cons_cons _ (List.Sublist.cons _ (List.Sublist.refl _))) (fun _ h => h)⟩
    try simp only [Bq0, Bq1, Bq2, Bq3, Bq4, Bq5, Bq6, Bq7, Bq8, Bq9, Bq10, Bq11, Bq12] at *
    refine ⟨_, ?_, rfl, rfl⟩
    unfold encI
    rw [if_pos (by omega)]
    rw [List.length_append, ints_append]
    exact hr12
  · refine WC_skip (thenN (WC_seq (WC_region ?_)))
    refine Lq (q_move rfl) ?_
    refine Lq (q_move rfl) ?_
    refine WL_main rfl (OW_call1 (appNon_s v us p r hr hb (by simpa using h7)) (.cons rfl (.cons rfl (.nil))) (by decide) (.z) mem0 fun u3_2 Lo fs hres => ?_)
    obtain ⟨p15, hr15, rfl, rfl⟩ := hres
    refine Lq (q_assign rfl) ?_
    refine WL_nil (thenN (WC_ret ?_))
    refine ⟨_, [_], [], fun Z w hs => .tmp rfl (.nil), ?_, fun Z w hs => hs.out (List.Sublist.cons_cons _ (List.Sublist.refl _)) (fun _ h => h)⟩
    exact ⟨_, hr15, rfl, rfl⟩


set_option maxRecDepth 10000 in
theorem blen_s (b : Nat) (ad A : Option Addr) (n c : Nat) : Sp Tryd.prog 52 [.pointer (some ⟨b, 0, none⟩)] [blP b ad (.slice A n c)] [] (fun v Lo fs => v = .int .i64 n ∧ Lo = [blP b ad (.slice A n c)] ∧ fs = []) := by
  refine Sp.of (n := 8) ⟨_, Tryd.func52, rfl, rfl, rfl, rfl⟩ (Nat.le_of_ble_eq_true rfl) fun Ps As => ?_
  refine WC_seq (WC_region ?_)
  refine Lq (q_assign rfl) ?_
  refine WL_nil (thenN (WC_seq (WC_region ?_)))
  refine Lq (q_move rfl) ?_
  refine Lq (q_nil rfl) ?_
  refine Lq (q_field (o' := 1) Tryd.underlying124 rfl ti122 rfl rfl) ?_
  refine Lq (q_load1 Tryd.underlying122 rfl rfl own0 rfl) ?_
  refine Lq (q_len Tryd.underlying122 rfl) ?_
  refine Lq (q_assign rfl) ?_
  refine WL_nil (thenN (WC_ret ?_))
  refine ⟨_, [_], [], fun Z w hs => .tmp rfl (.nil), ?_, fun Z w hs => hs.out (List.Sublist.cons_cons _ (List.Sublist.refl _)) (fun _ h => h)⟩
  exact ⟨rfl, rfl, rfl⟩


set_option maxRecDepth 10000 in
theorem breset_s (b : Nat) (ad : Option Addr) (v : Value) : Sp Tryd.prog 54 [.pointer (some ⟨b, 0, none⟩)] [blP b ad v] [] (fun u Lo fs => u = .tuple #[] ∧ Lo = [blP b none (.slice none 0 0)] ∧ fs = []) := by
  refine Sp.of (n := 8) ⟨_, Tryd.func54, rfl, rfl, rfl, rfl⟩ (Nat.le_of_ble_eq_true rfl) fun Ps As => ?_
  refine WC_seq (WC_region ?_)
  refine Lq (q_move rfl) ?_
  refine Lq (q_nil rfl) ?_
  refine Lq (q_field (o' := 0) Tryd.underlying124 rfl ti121 rfl rfl) ?_
  refine WL_main rfl (OW_store1 ti121 rfl rfl rfl (.z) (.z) ?_)
  refine WL_nil (thenN (WC_region ?_))
  refine Lq (q_move rfl) ?_
  refine Lq (q_nil rfl) ?_
  refine Lq (q_field (o' := 1) Tryd.underlying124 rfl ti122 rfl rfl) ?_
  refine WL_main rfl (OW_store1 ti122 rfl rfl rfl (.s (.z)) (.z) ?_)
  refine WL_nil ?_
  refine ⟨_, [_], [], fun Z w hs => .nil, ?_, fun Z w hs => hs.out (List.Sublist.cons_cons _ (List.Sublist.refl _)) (fun _ h => h)⟩
  exact ⟨rfl, rfl, rfl⟩


set_option maxRecDepth 10000 in
theorem bcopy_0 (b : Nat) (v : Value) : Sp Tryd.prog 74 [.pointer (some ⟨b, 0, none⟩)] [blP b none v] [] (fun u Lo fs => u = .tuple #[] ∧ Lo = [blP b (some ⟨b, 0, none⟩) v] ∧ fs = []) := by
  refine Sp.of (n := 20) ⟨_, Tryd.func74, rfl, rfl, rfl, rfl⟩ (Nat.le_of_ble_eq_true rfl) fun Ps As => ?_
  refine WC_seq (WC_region ?_)
  refine Lq (q_move rfl) ?_
  refine Lq (q_nil rfl) ?_
  refine Lq (q_field (o' := 0) Tryd.underlying124 rfl ti121 rfl rfl) ?_
  refine Lq (q_load1 Tryd.underlying121 rfl rfl own0 rfl) ?_
  refine Lq (q_peql Tryd.underlying121 rfl rfl (by simp)) ?_
  refine WL_nil (thenN (WC_true rfl rfl (WC_region ?_)))
  refine Lq (q_move rfl) ?_
  refine Lq (q_move rfl) ?_
  refine Lq (q_toUnsafe (j := _) Tryd.underlying121 Tryd.underlying173 rfl (by decide) rfl own0 (Nat.succ_pos _)) ?_
  refine Lq (q_extern (noEsc _) rfl) ?_
  refine Lq (q_fromUnsafe (j := _) Tryd.underlying173 Tryd.underlying121 rfl rfl own0 (by kernel_rfl)) ?_
  refine Lq (q_nil rfl) ?_
  refine Lq (q_field (o' := 0) Tryd.underlying124 rfl ti121 rfl rfl) ?_
  refine WL_main rfl (OW_store1 ti121 rfl rfl rfl (.z) (.z) ?_)
  refine WL_nil ?_
  refine ⟨_, [_], [], fun Z w hs => .nil, ?_, fun Z w hs => hs.out (List.Sublist.cons_cons _ (List.Sublist.refl _)) (fun _ h => h)⟩
  exact ⟨rfl, rfl, rfl⟩


set_option maxRecDepth 10000 in
theorem bcopy_1 (b : Nat) (v : Value) : Sp Tryd.prog 74 [.pointer (some ⟨b, 0, none⟩)] [blP b (some ⟨b, 0, none⟩) v] [] (fun u Lo fs => u = .tuple #[] ∧ Lo = [blP b (some ⟨b, 0, none⟩) v] ∧ fs = []) := by
  refine Sp.of (n := 20) ⟨_, Tryd.func74, rfl, rfl, rfl, rfl⟩ (Nat.le_of_ble_eq_true rfl) fun Ps As => ?_
  refine WC_seq (WC_region ?_)
  refine Lq (q_move rfl) ?_
  refine Lq (q_nil rfl) ?_
  refine Lq (q_field (o' := 0) Tryd.underlying124 rfl ti121 rfl rfl) ?_
  refine Lq (q_load1 Tryd.underlying121 rfl rfl own0 rfl) ?_
  refine Lq (q_peql Tryd.underlying121 rfl rfl (by simp)) ?_
  refine WL_nil (thenN (WC_false rfl rfl (WC_seq (WC_region ?_))))
  refine Lq (q_move rfl) ?_
  refine Lq (q_nil rfl) ?_
  refine Lq (q_field (o' := 0) Tryd.underlying124 rfl ti121 rfl rfl) ?_
  refine Lq (q_load1 Tryd.underlying121 rfl rfl own0 rfl) ?_
  refine Lq (q_move rfl) ?_
  refine Lq (q_pneqSame (j := _) Tryd.underlying121 rfl rfl rfl) ?_
  refine WL_nil (thenN (WC_false rfl rfl (WC_skip ?_)))
  refine ⟨_, [_], [], fun Z w hs => .nil, ?_, fun Z w hs => hs.out (List.Sublist.cons_cons _ (List.Sublist.refl _)) (fun _ h => h)⟩
  exact ⟨rfl, rfl, rfl⟩

theorem bcopy_s (b : Nat) (ad : Option Addr) (v : Value) (h : ad = none ∨ ad = some ⟨b, 0, none⟩) : Sp Tryd.prog 74 [.pointer (some ⟨b, 0, none⟩)] [blP b ad v] [] (fun u Lo fs => u = .tuple #[] ∧ Lo = [blP b (some ⟨b, 0, none⟩) v] ∧ fs = []) := by
  rcases h with rfl | rfl
  · exact bcopy_0 b v
  · exact bcopy_1 b v

set_option maxRecDepth 10000 in
theorem bwrite_s (b : Nat) (ad : Option Addr) (v : Value) (us : List Int) (p : Part) (r : Int) (had : ad = none ∨ ad = some ⟨b, 0, none⟩) (hr : Row 5 1 v us.length (ints .u8 us) p) (hb : us.length ≤ 1073741824) : Sp Tryd.prog 57 [.pointer (some ⟨b, 0, none⟩), .int .i32 r] [blP b ad v, p] [] (fun u Lo fs => ∃ v' p', Row 5 1 v' (us ++ encI r).length (ints .u8 (us ++ encI r)) p' ∧ Lo = [blP b (some ⟨b, 0, none⟩) v', p'] ∧ fs = []) := by
  have hel := encI_len r
  obtain ⟨Av, cv, rfl⟩ := hr.slice
  refine Sp.of (n := 30) ⟨_, Tryd.func57, rfl, rfl, rfl, rfl⟩ (Nat.le_of_ble_eq_true rfl) fun Ps As => ?_
  refine WC_seq (WC_region ?_)
  refine Lq (q_assign rfl) ?_
  refine Lq (q_assign rfl) ?_
  refine WL_nil (thenN (WC_seq (WC_region ?_)))
  refine Lq (q_move rfl) ?_
  refine WL_main rfl (OW_call1 (bcopy_s b ad _ had) (.cons rfl (.nil)) (by decide) (.z) mem0 fun u1_1 Lo fs hres => ?_)
  obtain ⟨rfl, rfl, rfl⟩ := hres
  refine WL_nil (thenN (WC_seq (WC_region ?_)))
  refine Lq (q_move rfl) ?_
  refine Lq (q_nil rfl) ?_
  refine Lq (q_field (o' := 1) Tryd.underlying124 rfl ti122 rfl rfl) ?_
  refine Lq (q_load1 Tryd.underlying122 rfl rfl own0 rfl) ?_
  refine Lq (q_len Tryd.underlying122 rfl) ?_
  refine Lq (q_assign rfl) ?_
  refine WL_nil (thenN (WC_seq (WC_region ?_)))
  refine Lq (q_move rfl) ?_
  refine Lq (q_move rfl) ?_
  refine Lq (q_nil rfl) ?_
  refine Lq (q_field (o' := 1) Tryd.underlying124 rfl ti122 rfl rfl) ?_
  refine Lq (q_load1 Tryd.underlying122 rfl rfl own0 rfl) ?_
  refine Lq (q_move rfl) ?_
  refine WL_main rfl (OW_call1 (appRune_s _ us p r hr hb) (.cons rfl (.cons rfl (.nil))) (by decide) (.s (.z)) mem0 fun u3_6 Lo fs hres => ?_)
  obtain ⟨p2, hr2, rfl, rfl⟩ := hres
  obtain ⟨A2, c2, rfl⟩ := hr2.slice
  refine Lq (q_nil rfl) ?_
  refine Lq (q_field (o' := 1) Tryd.underlying124 rfl ti122 rfl rfl) ?_
  refine WL_main rfl (OW_store1 ti122 rfl rfl rfl (.s (.z)) (.s (.z)) ?_)
  refine WL_nil (thenN ?_)
  refine WC_fr [(6, _), (5, _), (4, _), (0, _)] (.cons rfl (.cons rfl (.cons rfl (.cons rfl (.nil _))))) ?_
  refine WC_seq ?_
  refine WC_pick (.z) ?_
  refine WC_pick (.s (.z)) ?_
  refine WC_region ?_
  refine Lq (q_move rfl) ?_
  refine Lq (q_nil rfl) ?_
  refine Lq (q_field (o' := 1) Tryd.underlying124 rfl ti122 rfl rfl) ?_
  refine Lq (q_load1 Tryd.underlying122 rfl rfl own0 rfl) ?_
  refine Lq (q_len Tryd.underlying122 rfl) ?_
  refine Lq (q_move rfl) ?_
  refine Lq (q_sub rfl rfl rfl) ?_
  refine Lq (q_assign rfl) ?_
  refine Lq (q_assign rfl) ?_
  refine WL_nil (thenN (WC_ret ?_))
  refine ⟨_, [_, _], [], fun Z w hs => .tmp rfl (.tmp rfl (.nil)), ?_, fun Z w hs => hs.out (List.Sublist.cons_cons _ (List.Sublist.cons_cons _ (List.Sublist.refl _))) (fun _ h => h)⟩
  exact ⟨_, _, hr2, rfl, rfl⟩


set_option maxRecDepth 10000 in
theorem bstr_s (b : Nat) (ad : Option Addr) (v : Value) (us : List Int) (p : Part) (hr : Row 5 1 v us.length (ints .u8 us) p) (hb : us.length ≤ 1073741824) (hby : By us) (hne : us ≠ []) : Sp Tryd.prog 53 [.pointer (some ⟨b, 0, none⟩)] [blP b ad v, p] [] (fun u Lo fs => u = .string (strOf us) ∧ Lo = [blP b ad v] ∧ fs = []) := by
  have hl0 := List.length_pos_iff.2 hne
  obtain ⟨hl, ⟨_, h0, _⟩ | ⟨bb, cap, jk, rfl, rfl, h1, h2, h3⟩⟩ := hr
  · omega
  refine Sp.of (n := 14) ⟨_, Tryd.func53, rfl, rfl, rfl, rfl⟩ (Nat.le_of_ble_eq_true rfl) fun Ps As => ?_
  refine WC_seq (WC_region ?_)
  refine Lq (q_assign rfl) ?_
  refine WL_nil (thenN (WC_seq ?_))
  refine WC_draw _ _ [] (.c 0 0 (.c 1 0 (.c 2 0 (.c 3 0 (.c 4 0 (.c 5 0 (.c 6 0 (.c 7 0 (.c 8 0 (.c 9 0 (.c 10 2 (.c 11 0 .nil)))))))))))) mixed (fun _ _ _ _ h => h) (List.Sublist.cons_cons _ (List.Sublist.cons _ (List.Sublist.refl _))) (fun _ h => h) (by kernel_rfl) (by decide) fun ws Z0 => ?_
  refine Qe rfl (q_move rfl) ?_
  refine Qe rfl (q_nil rfl) ?_
  refine Qe rfl (q_field (o' := 1) Tryd.underlying124 rfl ti122 rfl rfl) ?_
  refine Qe rfl (q_load1 Tryd.underlying122 rfl rfl own0 rfl) ?_
  refine Qe rfl (q_sliceData (by omega) rfl) ?_
  refine Qe rfl (q_move rfl) ?_
  refine Qe rfl (q_nil rfl) ?_
  refine Qe rfl (q_field (o' := 1) Tryd.underlying124 rfl ti122 rfl rfl) ?_
  refine Qe rfl (q_load1 Tryd.underlying122 rfl rfl own0 rfl) ?_
  refine Qe rfl (q_len Tryd.underlying122 rfl) ?_
  refine WE_main rfl rfl (OW_unsafeString (e := 5) (T := 5) Tryd.underlying152 rfl hby hne (by omega) rfl rfl (by decide) (.s (.z)) ?_)
  refine ⟨⟨(List.Sublist.cons_cons _ (List.Sublist.refl _)), (.head _)⟩, ?_⟩
  refine Qe rfl (q_assign rfl) ?_
  refine WE_end (WF_nil ?_)
  refine thenN (WC_ret ?_)
  refine ⟨_, [_], [], fun Z w hs => .tmp rfl (.nil), ?_, fun Z w hs => hs.out (List.Sublist.cons_cons _ (List.Sublist.refl _)) (fun _ h => .tail _ h)⟩
  exact ⟨rfl, rfl, rfl⟩

end Go.Proofs.YtggdddkbhigjoaaDoor
/- Runs of a row of cells, plain. -/
namespace Go.Proofs.YtggdddkbhigjoaaDoor
open Go Go.GW
abbrev Rn := ByteArray × Int
def runC (x : Rn) : List Value := [.string x.1, .int .i64 x.2]
def runD : De Rn where
  sz := 2
  rep _ _ x cs := cs = runC x
  len h := by subst h; rfl
  one h := by subst h; rfl
  stable _ _ _ _ _ h := h
theorem run_open (u : Rn) : ∀ Z w cs, runD.rep Z w u cs → ∃ y : Unit, cs = runC u ∧ ∀ B ∈ ([] : List Fact), B.holds Z w := fun _ _ _ h => ⟨(), h, fun _ h => by cases h⟩
structure RS where
  rs : List Rn
  hid : Int
  bs : List Int
def flushF (s : RS) : RS := if s.bs = [] then s else ⟨s.rs ++ [(strOf s.bs, s.hid)], s.hid, []⟩
def turnR (s : RS) (hid : Int) : RS := if hid = s.hid then s else { flushF s with hid := hid }
def pieceF (s : RS) (rs : List Int) (hid : Int) : RS := { turnR s hid with bs := (turnR s hid).bs ++ rs.flatMap encI }
def cellF (s : RS) (c : Ce) : RS := pieceF s [c.1] c.2
theorem flush_bs (s : RS) : (flushF s).bs = [] := by
  unfold flushF; split
  · assumption
  · rfl
theorem turnR_hid (s : RS) (hid : Int) : (turnR s hid).hid = hid := by
  unfold turnR; split
  · rename_i h; exact h.symm
  · rfl
theorem turnR_same {s : RS} {hid : Int} (h : s.hid = hid) : turnR s hid = s := by unfold turnR; rw [if_pos h.symm]
theorem pieceF_hid (s : RS) (rs : List Int) (hid : Int) : (pieceF s rs hid).hid = hid := turnR_hid s hid
theorem pieceF_append (s : RS) (a b : List Int) (hid : Int) : pieceF (pieceF s a hid) b hid = pieceF s (a ++ b) hid := by
  have h := pieceF_hid s a hid
  unfold pieceF at h ⊢
  rw [turnR_same h]
  simp [List.flatMap_append]
theorem piece_cells (hid : Int) : ∀ (rs : List Int) (s : RS), rs ≠ [] → pieceF s rs hid = (cellsOf rs hid).foldl cellF s
  | [], s, h => absurd rfl h
  | [r], s, _ => rfl
  | r :: r2 :: rs, s, _ => by
    have ih := piece_cells hid (r2 :: rs) (cellF s (r, hid)) (by simp)
    show _ = (cellsOf (r2 :: rs) hid).foldl cellF (cellF s (r, hid))
    rw [← ih]
    show _ = pieceF (pieceF s [r] hid) (r2 :: rs) hid
    rw [pieceF_append]; rfl
def rowF (X : List Ce) : RS := X.foldl cellF ⟨[], 0, []⟩
theorem rowF_piece (X : List Ce) {rs : List Int} (hid : Int) (h : rs ≠ []) : rowF (X ++ cellsOf rs hid) = pieceF (rowF X) rs hid := by
  unfold rowF; rw [List.foldl_append, piece_cells hid rs _ h]
def runsF (X : List Ce) : List Rn := (flushF (rowF X)).rs
theorem by_nil : By [] := fun x hx => by cases hx
/-- How much a row's runs hold. -/
structure RsB (s : RS) (n : Nat) : Prop where
  by_ : By s.bs
  bl : s.bs.length ≤ 4 * n
  rl : s.rs.length + (if s.bs = [] then 0 else 1) ≤ n
theorem RsB.flush {s : RS} {n : Nat} (h : RsB s n) : RsB (flushF s) n ∧ (flushF s).rs.length ≤ n := by
  have hr := h.rl
  unfold flushF
  split
  · rename_i hb
    exact ⟨h, by rw [if_pos hb] at hr; omega⟩
  · rename_i hb
    rw [if_neg hb] at hr
    exact ⟨⟨by_nil, by simp, by simpa using hr⟩, by simpa using hr⟩
theorem RsB.turn {s : RS} {n : Nat} (h : RsB s n) (hid : Int) : RsB (turnR s hid) n := by
  unfold turnR
  split
  · exact h
  · exact ⟨h.flush.1.by_, h.flush.1.bl, h.flush.1.rl⟩
theorem flat_by : ∀ rs : List Int, By (rs.flatMap encI)
  | [] => by_nil
  | r :: rs => by rw [List.flatMap_cons]; exact by_append (encI_by r) (flat_by rs)
theorem flat_len4 : ∀ rs : List Int, (rs.flatMap encI).length ≤ 4 * rs.length
  | [] => by simp
  | r :: rs => by
    have := flat_len4 rs; have := encI_len r
    rw [List.flatMap_cons, List.length_append, List.length_cons]; omega
theorem RsB.piece {s : RS} {n : Nat} (h : RsB s n) {rs : List Int} (hid : Int) (hne : rs ≠ []) : RsB (pieceF s rs hid) (n + rs.length) := by
  have ht := h.turn hid
  have h4 := flat_len4 rs
  have hl := List.length_pos_iff.2 hne
  have hb := ht.bl
  have hr := ht.rl
  refine ⟨by_append ht.by_ (flat_by rs), ?_, ?_⟩
  · show ((turnR s hid).bs ++ rs.flatMap encI).length ≤ _
    rw [List.length_append]; omega
  · show (turnR s hid).rs.length + _ ≤ _
    split at hr <;> split <;> omega
theorem rowF_ok (X : List Ce) : RsB (rowF X) X.length := by
  have key : ∀ (X : List Ce) (s : RS) (n : Nat), RsB s n → RsB (X.foldl cellF s) (n + X.length) := by
    intro X
    induction X with
    | nil => intro s n h; exact h
    | cons c X ih =>
      intro s n h
      have := ih (cellF s c) (n + 1) (h.piece c.2 (by simp))
      rw [List.foldl_cons, List.length_cons, show n + (X.length + 1) = n + 1 + X.length from by omega]
      exact this
  have := key X ⟨[], 0, []⟩ 0 ⟨by_nil, by simp, by simp⟩
  rw [Nat.zero_add] at this
  exact this
/-! ### In memory -/
abbrev rcP (b : Nat) (v : Value) : Part := [(b, cellsO [v] 84)]
abbrev hcP (b : Nat) (x : Int) : Part := [(b, cellsO [.int .i64 x] 3)]
def clR (bB bR bH : Nat) : Value := .func (.func 51) #[] #[.pointer (some ⟨bB, 0, none⟩), .pointer (some ⟨bR, 0, none⟩), .pointer (some ⟨bH, 0, none⟩)]
abbrev fcP (bF bB bR bH : Nat) : Part := [(bF, cellsO [clR bB bR bH] 1)]
def rnL (bB bR bH bF : Nat) (ad : Option Addr) (v : Value) (p : Part) (rv : Value) (rp : Part) (x : Int) : List Part := [blP bB ad v, p, rcP bR rv, rp, hcP bH x, fcP bF bB bR bH]
structure RunS (bB : Nat) (s : RS) (ad : Option Addr) (v : Value) (p : Part) (rv : Value) (rp : Part) : Prop where
  ad : ad = none ∨ ad = some ⟨bB, 0, none⟩
  row : Row 5 1 v s.bs.length (ints .u8 s.bs) p
  rr : Row 127 2 rv s.rs.length (flatC runC s.rs) rp
def RunI (bB bR bH bF : Nat) (X : List Ce) (q : Part) : Prop := ∃ ad v p rv rp, RunS bB (rowF X) ad v p rv rp ∧ q = (rnL bB bR bH bF ad v p rv rp (rowF X).hid).flatten
end Go.Proofs.YtggdddkbhigjoaaDoor
/- Turning an edit and back: the plain law behind HistoryTurns. -/
namespace Go.Proofs.YtggdddkbhigjoaaDoor
open Go Go.GW
/-! ### Runs tell the counters -/
def byC (c : Ce) : List (UInt8 × Int) := (bytesU (encI c.1)).map fun b => (b, c.2)
def byR (X : List Ce) : List (UInt8 × Int) := X.flatMap byC
def ofRun (r : Rn) : List (UInt8 × Int) := r.1.data.toList.map fun b => (b, r.2)
def spread (s : RS) : List (UInt8 × Int) := s.rs.flatMap ofRun ++ (bytesU s.bs).map fun b => (b, s.hid)
theorem spread_flush (s : RS) : spread (flushF s) = spread s := by
  unfold flushF
  split
  · rfl
  · unfold spread
    simp [List.flatMap_append, ofRun, strOf, bytesU]
theorem spread_turn (s : RS) (hid : Int) : spread (turnR s hid) = spread s := by
  unfold turnR
  split
  · rfl
  · rw [← spread_flush s]
    unfold spread
    simp only [flush_bs]; simp [bytesU]
theorem spread_cell (s : RS) (c : Ce) : spread (cellF s c) = spread s ++ byC c := by
  show spread { turnR s c.2 with bs := (turnR s c.2).bs ++ [c.1].flatMap encI } = _
  rw [← spread_turn s c.2]
  unfold spread
  have h := turnR_hid s c.2
  simp [bytesU, byC, h]
theorem spread_row (X : List Ce) : ∀ s : RS, spread (X.foldl cellF s) = spread s ++ byR X := by
  induction X with
  | nil => intro s; simp [byR]
  | cons c X ih => intro s; rw [List.foldl_cons, ih, spread_cell]; simp [byR]
theorem runs_by (X : List Ce) : (runsF X).flatMap ofRun = byR X := by
  have h1 := spread_flush (rowF X)
  have h2 := spread_row X ⟨[], 0, []⟩
  have h3 : spread (flushF (rowF X)) = (runsF X).flatMap ofRun := by
    unfold spread runsF; rw [flush_bs]; simp [bytesU]
  rw [← h3, h1]
  unfold rowF
  rw [h2]; simp [spread, bytesU]
theorem by_inj : ∀ {X Y : List Ce}, X.map (·.1) = Y.map (·.1) → byR X = byR Y → X = Y
  | [], [], _, _ => rfl
  | [], y :: Y, h, _ => by simp at h
  | x :: X, [], h, _ => by simp at h
  | x :: X, y :: Y, h, e => by
    simp only [List.map_cons, List.cons.injEq] at h
    have hl := (encI_len x.1).1
    unfold byR at e
    rw [List.flatMap_cons, List.flatMap_cons] at e
    have h1 : (byC x).length = (byC y).length := by unfold byC bytesU; simp [h.1]
    obtain ⟨e1, e2⟩ := List.append_inj e h1
    have h2 : x.2 = y.2 := by
      unfold byC bytesU at e1
      rw [h.1] at e1 hl
      cases hq : encI y.1 with
      | nil => rw [hq] at hl; simp at hl
      | cons a r => rw [hq] at e1; simp at e1; exact e1.1
    rw [by_inj h.2 e2, Prod.ext h.1 h2]
theorem runs_inj {X Y : List Ce} (h : X.map (·.1) = Y.map (·.1)) (e : runsF X = runsF Y) : X = Y := by
  refine by_inj h ?_
  rw [← runs_by, ← runs_by, e]
/-! ### Rows that are turned -/
theorem turn_apply (e : Ent) (on : Bool) (X : List Ce) : applyRow (turnF e on) X = bumpL e.now (if (decide (e.op.kind = 2) == on) = true then 1 else -1) X := by
  unfold applyRow turnF
  dsimp only
  by_cases h : (decide (e.op.kind = 2) == on) = true
  · simp only [h, if_true]; rfl
  · simp only [h]; rfl
theorem bump_len {k : Int} {rs : List Rg} {X : List Ce} (h : Pls X.length rs) : (bumpL rs k X).length = X.length := (bumpL_get (k := k) rs 0 X (Int.le_refl _) h.norm h.below).1
theorem bump_runes {k : Int} {rs : List Rg} {X : List Ce} (h : Pls X.length rs) : (bumpL rs k X).map (·.1) = X.map (·.1) := by
  apply List.ext_getElem?
  intro q
  rw [List.getElem?_map, List.getElem?_map, (bumpL_get (k := k) rs 0 X (Int.le_refl _) h.norm h.below).2 q, Option.map_map]
  congr 1; funext c; simp only [Function.comp]; split <;> rfl
theorem bump_back {k : Int} {rs : List Rg} {X : List Ce} (h : Pls X.length rs) : bumpL rs (-k) (bumpL rs k X) = X := by
  have h2 : Pls (bumpL rs k X).length rs := by rw [bump_len h]; exact h
  apply List.ext_getElem?
  intro q
  rw [(bumpL_get (k := -k) rs 0 _ (Int.le_refl _) h2.norm h2.below).2 q, (bumpL_get (k := k) rs 0 X (Int.le_refl _) h.norm h.below).2 q, Option.map_map]
  cases X[q]? with
  | none => rfl
  | some c =>
    simp only [Option.map_some, Function.comp]
    by_cases hb : inRb q rs = true
    · simp only [hb, if_true]; rw [Int.add_neg_cancel_right]
    · simp only [hb]; rfl
theorem bump_ne {k : Int} {rs : List Rg} {X : List Ce} (h : Pls X.length rs) (hk : k ≠ 0) (hne : rs ≠ []) : bumpL rs k X ≠ X := by
  intro e
  cases rs with
  | nil => exact hne rfl
  | cons g rs =>
    have h1 := h.norm.1
    have h2 := h.norm.2.1
    have h3 := h.below g List.mem_cons_self
    have hq : g.lo.toNat < X.length := by omega
    have h4 := (bumpL_get (k := k) (g :: rs) 0 X (Int.le_refl _) h.norm h.below).2 g.lo.toNat
    rw [e, List.getElem?_eq_getElem hq] at h4
    have h5 : inRb (g.lo.toNat : Nat) (g :: rs) = true := inRb_iff.2 (memR_cons.2 (.inl ⟨by omega, by omega⟩))
    rw [h5] at h4
    simp only [Option.map_some, if_true] at h4
    have := congrArg (·.2) (Option.some.inj h4)
    simp only at this
    omega
/-! ### A history that has no edit is empty -/
theorem Made.edit {n : Nat} {H : Hist} {X : List Ce} (h : Made n H X) : n ≤ 1000 → n = 0 ∨ ∃ x ∈ kindsOf H.ents, x ≠ 2 := by
  induction h with
  | zero => exact fun _ => .inl rfl
  | @step n H X i o h g ih =>
    intro hn
    obtain ⟨h1, h2, h3⟩ := h.inv (by omega)
    obtain ⟨es, nw, eff, p⟩ := put_good h1 g
    have hks : kindsOf (putF H i o).1.ents = insAt (kindsOf H.ents) i (kindN o) := p.noted kindN (fun a b hs => by unfold kindN; rw [hs.kind]) h1 g
    refine .inr ?_
    have hm : ∀ x, x = kindN o ∨ x ∈ kindsOf H.ents → x ∈ kindsOf (putF H i o).1.ents := fun x hx => by
      rw [hks]; unfold insAt
      rw [List.mem_append, List.mem_cons]
      rcases hx with hx | hx
      · exact .inr (.inl hx)
      · rw [← List.take_append_drop i (kindsOf H.ents), List.mem_append] at hx
        exact hx.imp id .inr
    by_cases hk : o.kind = 4
    · obtain ⟨k, hk1, hk2, e, he, hek⟩ := g.target hk
      refine ⟨kindN e.op, hm _ (.inr (List.mem_map.2 ⟨e, List.mem_of_getElem? he, rfl⟩)), ?_⟩
      unfold kindN; rw [if_neg hek]; split <;> decide
    · refine ⟨kindN o, hm _ (.inl rfl), ?_⟩
      unfold kindN; rw [if_neg hk]; split <;> decide
theorem no_edits {N : Int} {n : Nat} {H : Hist} {X : List Ce} {nx : List Int} (hV : VI N n H X nx) (h : editsL ((idsOf H.ents).take H.ents.length) ((kindsOf H.ents).take H.ents.length) = []) : n = 0 ∧ H.ents.length = 0 ∧ X.length = 0 := by
  have hn : n = 0 := by
    rcases hV.made.edit (by have := hV.le; omega) with h0 | ⟨x, hx, hx2⟩
    · exact h0
    · exfalso
      obtain ⟨j, hj⟩ := List.mem_iff_getElem?.1 hx
      have hjl : j < H.ents.length := by
        rcases Nat.lt_or_ge j H.ents.length with h | h
        · exact h
        · rw [List.getElem?_eq_none (by unfold kindsOf; rw [List.length_map]; exact h)] at hj; cases hj
      have hi : (idsOf H.ents)[j]? = some (H.ents[j].op.c, H.ents[j].op.n) := by unfold idsOf; rw [List.getElem?_map, List.getElem?_eq_getElem hjl]; rfl
      have hz : (((idsOf H.ents).zip (kindsOf H.ents)))[j]? = some ((H.ents[j].op.c, H.ents[j].op.n), x) := List.getElem?_zip_eq_some.2 ⟨hi, hj⟩
      rw [List.take_of_length_le (by simp [idsOf]), List.take_of_length_le (by simp [kindsOf])] at h
      unfold editsL at h
      have hm := List.mem_filter (p := fun z : (Int × Int) × Int => !(z.2 == 2)) |>.2 ⟨List.mem_of_getElem? hz, (by simpa using hx2 : (!(x == 2)) = true)⟩
      have := List.mem_map_of_mem (f := (·.1)) hm
      rw [h] at this; cases this
  have hl := hV.len
  have ht := hV.total
  have hr := hV.rule.len
  exact ⟨hn, by omega, by omega⟩
/-! ### One turn at the end -/
def turnO (x tc tn : Int) (on : Bool) : GOp := { zeroOp with c := 8, n := x + 1, kind := 4, tc := tc, tn := tn, on := on }
theorem turn_step {N : Int} {n : Nat} {H : Hist} {X : List Ce} {nx : List Int} (hV : VI N n H X nx) (hN : N ≤ 1000) {j : Nat} {e1 : Ent} (hj : H.ents[j]? = some e1) (hk : e1.op.kind ≠ 4) {x : Int} (hx : nx[8]? = some x) :
    Good H n (turnO x e1.op.c e1.op.n e1.off) ∧ ∃ H2, Tk H X n n (turnO x e1.op.c e1.op.n e1.off) H2 (turnF e1 e1.off) ∧ H2.ents[j]? = some (offE e1 (!e1.off)) := by
  have hjl : j < H.ents.length := by
    rcases Nat.lt_or_ge j H.ents.length with h | h
    · exact h
    · rw [List.getElem?_eq_none h] at hj; cases hj
  have hje : H.ents[j] = e1 := by rw [List.getElem?_eq_getElem hjl] at hj; exact Option.some.inj hj
  have hx0 := hV.nx0 x (List.mem_of_getElem? hx)
  have hlen := hV.len
  have hfr : whereId H.ents 8 (x + 1) = none := hV.fresh (c := 8) hx (by omega) (by omega)
  have hg : Good H n (turnO x e1.op.c e1.op.n e1.off) := by
    have := good_status hV (Nat.le_refl n) hfr (by unfold rightF; simp; omega) hjl (by omega) (by rw [hje]; exact hk) e1.off
    rw [hje] at this; exact this
  obtain ⟨H2, eff, T⟩ := take_facts hV hg
  obtain ⟨es, nw, eff', p⟩ := put_good hV.hv hg
  have hst := p.status rfl
  have hwh : whereId H.ents e1.op.c e1.op.n = some j := by
    have := whereId_of hV.hv.ids hjl
    rwa [hje] at this
  have htd : turnedF H n (turnO x e1.op.c e1.op.n e1.off) = (H.ents.set j (offE e1 (!e1.off)), turnF e1 e1.off) := by
    unfold turnedF
    rw [List.drop_of_length_le (by omega)]
    show (if laterT [] e1.op.c e1.op.n = true then _ else match whereId H.ents e1.op.c e1.op.n with | none => _ | some k => _) = _
    rw [hwh]
    simp [laterT, hj, turnO]
  have hput := p.put
  rw [T.put] at hput
  have e1' : H2 = _ := congrArg (·.1) hput
  have e2' : eff = eff' := congrArg (·.2.1) hput
  have e3 : eff = turnF e1 e1.off := by rw [e2', hst.2.2, htd]
  subst e3
  refine ⟨hg, H2, T, ?_⟩
  rw [e1']
  show (newEnts n _ nw es _)[j]? = _
  unfold newEnts
  have hes : es = H.ents.set j (offE e1 (!e1.off)) := by rw [hst.1, htd]
  rw [hes, List.getElem?_append_left (by rw [List.length_take, List.length_set]; omega), List.getElem?_take, if_pos (by omega), List.getElem?_set_self hjl]
structure TuI (n j : Nat) (e : Ent) (X : List Ce) (kk : Nat) (H1 : Hist) (X1 : List Ce) (nx1 : List Int) : Prop where
  le : kk ≤ 2
  vi : VI ((n + kk : Nat) : Int) (n + kk) H1 X1 nx1
  ent : ∃ e1, H1.ents[j]? = some e1 ∧ e1.op.c = e.op.c ∧ e1.op.n = e.op.n ∧ e1.op.kind = e.op.kind ∧ e1.now = e.now ∧ e1.off = (if kk = 1 then !e.off else e.off)
  row : X1 = if kk = 1 then applyRow (turnF e e.off) X else X
structure TuS (n j : Nat) (e : Ent) (en : GEn) (X : List Ce) (kk : Nat) (H1 : Hist) (X1 : List Ce) (nx1 : List Int) (x : Int) (H2 : Hist) (eff : GOp) : Prop where
  hx : nx1[8]? = some x
  xb : 0 ≤ x ∧ x ≤ 100
  good : Good H1 H1.ents.length (turnO x e.op.c e.op.n (en.on == ((kk : Int) == 1)))
  tk : Tk H1 X1 (n + kk) H1.ents.length (turnO x e.op.c e.op.n (en.on == ((kk : Int) == 1))) H2 eff
  rs : eff.rs = e.now
  k0 : eff.kind ≠ 0
  kd : (eff.kind == (turnF e e.off).kind) = ((kk : Int) == 0)
  en2 : ∃ e2, H2.ents[j]? = some e2 ∧ (entE e2).on = (en.on == ((kk : Int) == 1))
  runs : decide (runsF (applyRow eff X1) = runsF X) = ((kk : Int) == 1)
  next : TuI n j e X (kk + 1) H2 (applyRow eff X1) (nxF nx1 8 (x + 1))
theorem turnF_same {e e1 : Ent} (hk : e1.op.kind = e.op.kind) (hn : e1.now = e.now) (on : Bool) : turnF e1 on = turnF e on := by unfold turnF; rw [hk, hn]
theorem turnF_k (e : Ent) (on : Bool) : (turnF e on).kind = 2 ∨ (turnF e on).kind = 3 := by unfold turnF; dsimp only; split <;> simp
theorem turnF_not (e : Ent) (on : Bool) : ((turnF e (!on)).kind == (turnF e on).kind) = false := by
  unfold turnF; dsimp only
  cases decide (e.op.kind = 2) <;> cases on <;> decide
theorem TuI.step {n j : Nat} {e : Ent} {en : GEn} {X : List Ce} {kk : Nat} {H1 : Hist} {X1 : List Ce} {nx1 : List Int} (h : TuI n j e X kk H1 X1 nx1) (hkk : kk < 2) (hn : n ≤ 20) (hk : e.op.kind ≠ 4) (hp : Pls X.length e.now) (hne : e.now ≠ []) (hon : en.on = !e.off) : ∃ x H2 eff, TuS n j e en X kk H1 X1 nx1 x H2 eff := by
  obtain ⟨e1, g1, g2, g3, g4, g5, g6⟩ := h.ent
  have hnl := h.vi.nxl
  obtain ⟨x, hx⟩ : ∃ x, nx1[8]? = some x := ⟨_, List.getElem?_eq_getElem (by omega)⟩
  have hx0 := h.vi.nx0 x (List.mem_of_getElem? hx)
  obtain ⟨t1, H2, t2, t3⟩ := turn_step h.vi (by omega) g1 (by rw [g4]; exact hk) hx
  have hne1 : offE e1 (!e1.off) = ⟨e1.op, e1.now, !e1.off⟩ := rfl
  have e2on : (entE (offE e1 (!e1.off))).on = e1.off := by
    unfold entE
    rw [if_neg (show (offE e1 (!e1.off)).op.kind ≠ 4 by show e1.op.kind ≠ 4; rw [g4]; exact hk)]
    show (!(!e1.off)) = _
    simp
  have hoff : e1.off = (en.on == ((kk : Int) == 1)) := by
    rw [g6, hon]
    have : kk = 0 ∨ kk = 1 := by omega
    rcases this with rfl | rfl <;> cases e.off <;> rfl
  have hvi := h.vi.step t1 (by omega) (N' := ((n + (kk + 1) : Nat) : Int)) (by omega) (by show x + 1 ≤ _; omega)
  rw [t2.put] at hvi
  have hT := turnF_same g4 g5 e1.off
  have hrw : ∀ (k : Int) (Y : List Ce), Pls Y.length e.now → (bumpL e.now k Y).map (·.1) = Y.map (·.1) := fun k Y hY => bump_runes hY
  have hkd := turnF_k e e1.off
  refine ⟨x, H2, turnF e1 e1.off, hx, by omega, by rw [h.vi.len, ← g2, ← g3, ← hoff]; exact t1, by rw [h.vi.len, ← g2, ← g3, ← hoff]; exact t2, g5, by rw [hT]; omega, ?_, ⟨_, t3, by rw [e2on]; exact hoff⟩, ?_, ?_⟩
  · rw [hT, g6]
    have : kk = 0 ∨ kk = 1 := by omega
    rcases this with rfl | rfl
    · simp
    · simp only [if_pos]; rw [turnF_not]; rfl
  · rw [hT, h.row, g6]
    have : kk = 0 ∨ kk = 1 := by omega
    rcases this with rfl | rfl
    · simp only [show ¬ ((0 : Nat) = 1) by decide, if_false]
      rw [turn_apply]
      refine (decide_eq_false fun hh => ?_).trans rfl
      refine bump_ne hp ?_ hne (runs_inj (hrw _ _ hp) hh)
      split <;> decide
    · simp only [if_pos]
      rw [turn_apply, turn_apply]
      refine (decide_eq_true ?_).trans rfl
      have : (if (decide (e.op.kind = 2) == !e.off) = true then (1 : Int) else -1) = -(if (decide (e.op.kind = 2) == e.off) = true then (1 : Int) else -1) := by
        cases decide (e.op.kind = 2) <;> cases e.off <;> decide
      rw [this, bump_back hp]
  · refine ⟨by omega, hvi, ⟨_, t3, g2, g3, g4, g5, ?_⟩, ?_⟩
    · show (!e1.off) = _
      rw [g6]
      have : kk = 0 ∨ kk = 1 := by omega
      rcases this with rfl | rfl
      · rfl
      · cases e.off <;> rfl
    · rw [hT, h.row, g6]
      have : kk = 0 ∨ kk = 1 := by omega
      rcases this with rfl | rfl
      · rfl
      · simp only [if_pos, show ¬ ((1 : Nat) + 1 = 1) by decide, if_false]
        rw [turn_apply, turn_apply]
        have : (if (decide (e.op.kind = 2) == !e.off) = true then (1 : Int) else -1) = -(if (decide (e.op.kind = 2) == e.off) = true then (1 : Int) else -1) := by
          cases decide (e.op.kind = 2) <;> cases e.off <;> decide
        rw [this, bump_back hp]
end Go.Proofs.YtggdddkbhigjoaaDoor
/- Walks: Runs. -/
namespace Go.Proofs.YtggdddkbhigjoaaDoor
open Go Go.GW
theorem bd127_0_1Xw47 (x0_ : ByteArray) (x1_ : Int) (w : World) : (Instr.build 127 #[(0, .string x0_), (1, .int .i64 x1_)]).run Tryd.prog w = .ok (.agg #[.string x0_, .int .i64 x1_]) w := by kernel_rfl

set_option maxRecDepth 10000 in
theorem flush_s (bB bR bH : Nat) (s : RS) (ad : Option Addr) (v : Value) (p : Part) (rv : Value) (rp : Part) (hs : RunS bB s ad v p rv rp) (hby : By s.bs) (hbl : s.bs.length ≤ 1073741824) (hrl : s.rs.length ≤ 1073741824) : Sp Tryd.prog 51 [.pointer (some ⟨bB, 0, none⟩), .pointer (some ⟨bR, 0, none⟩), .pointer (some ⟨bH, 0, none⟩)] [blP bB ad v, p, rcP bR rv, rp, hcP bH s.hid] [] (fun u Lo fs => u = .tuple #[] ∧ fs = [] ∧ ∃ rv' rp', Row 127 2 rv' (flushF s).rs.length (flatC runC (flushF s).rs) rp' ∧ Lo = [blP bB none (.slice none 0 0), rcP bR rv', rp', hcP bH s.hid]) := by
  obtain ⟨Av, cv, rfl⟩ := hs.row.slice
  obtain ⟨Ar, cr, rfl⟩ := hs.rr.slice
  refine Sp.of (n := 12) ⟨_, Tryd.func51, rfl, rfl, rfl, rfl⟩ (Nat.le_of_ble_eq_true rfl) fun Ps As => ?_
  refine WC_seq (WC_seq (WC_region ?_))
  refine WL_main rfl (OW_call1 (blen_s bB ad Av s.bs.length cv) (.cons rfl (.nil)) (by decide) (.z) mem0 fun u0_0 Lo fs hres => ?_)
  obtain ⟨rfl, rfl, rfl⟩ := hres
  refine Lq (q_gtr rfl rfl) ?_
  refine WL_nil (thenN ?_)
  refine WC_cond rfl (fun h4 => ?_) (fun h4 => ?_)
  · refine WC_draw _ _ [6] (.c 0 0 (.c 2 0 (.c 1 2 (.c 3 0 (.c 4 2 (.c 5 2 (.c 6 3 .nil))))))) mixed (fun _ _ _ _ h => h) (List.Sublist.cons _ (List.Sublist.cons _ (List.Sublist.cons_cons _ (List.Sublist.cons _ (List.Sublist.cons_cons _ (List.Sublist.refl _)))))) (fun _ h => h) (by kernel_rfl) (by decide) fun ws Z0 => ?_
    refine Qe rfl (q_load1 Tryd.underlying84 rfl rfl own0 rfl) ?_
    refine Qe rfl (q_load1 Tryd.underlying3 rfl rfl (ownS (own0)) rfl) ?_
    refine WE_main rfl rfl (OW_call2 (bstr_s bB ad _ s.bs p hs.row (by omega) hby (by intro e; rw [e] at h4; simp at h4)) (.cons rfl (.nil)) (by decide) (.z) (.z) mem0 fun u1_1 Lo fs hres => ?_)
    obtain ⟨rfl, rfl, rfl⟩ := hres
    refine ⟨⟨(List.Sublist.cons _ (List.Sublist.cons_cons _ (List.Sublist.cons _ (List.Sublist.cons_cons _ (List.Sublist.refl _))))), (.head _)⟩, ?_⟩
    refine Qe rfl (q_build (.cons rfl (.cons rfl (.nil))) (bd127_0_1Xw47 _ _)) ?_
    refine WE_main rfl rfl (OW_slice1 (cs := [_, _]) Tryd.underlying84 ti127 (by decide) (by decide) rfl rfl rfl rfl (by decide) fun b9 => ?_)
    refine ⟨⟨(List.Sublist.cons _ (List.Sublist.cons _ (List.Sublist.cons_cons _ (List.Sublist.cons _ (List.Sublist.cons_cons _ (List.Sublist.refl _)))))), (.head _)⟩, ?_⟩
    refine WE_main rfl rfl (OW_append1 (news := [_, _]) Tryd.underlying84 ti127 rfl (by decide) rfl rfl hs.rr own0 rfl rfl (by omega) (by unfold maxLen; omega) (by decide) (DelAt.perm (.s (.s (.s (.z))))) fun v10 p10 hr10 => ?_)
    obtain ⟨A10, c10, rfl⟩ := hr10.slice
    refine ⟨⟨(List.Sublist.cons _ (List.Sublist.cons _ (List.Sublist.cons _ (List.Sublist.cons_cons _ (List.Sublist.cons_cons _ (List.Sublist.refl _)))))), (.head _)⟩, ?_⟩
    refine WE_end (WF_last rfl rfl (OW_store1 ti84 rfl rfl rfl (.z) (.s (.s (.s (.z)))) ?_))
    refine WF_nil ?_
    refine thenN (WC_region ?_)
    refine WL_main rfl (OW_call1 (breset_s bB ad _) (.cons rfl (.nil)) (by decide) (.s (.s (.z))) mem0 fun u2_0 Lo fs hres => ?_)
    obtain ⟨rfl, rfl, rfl⟩ := hres
    refine WL_nil ?_
    refine ⟨_, [_, _, _, _], [], fun Z w hs => .nil, ?_, fun Z w hs => ((((hs.pick (.s (.s (.s (.s (.z)))))).pick (.s (.s (.z)))).pick (.s (.s (.s (.s (.z)))))).pick (.s (.s (.s (.z))))).out (List.Sublist.cons_cons _ (List.Sublist.cons_cons _ (List.Sublist.cons_cons _ (List.Sublist.cons_cons _ (List.Sublist.cons _ (List.Sublist.refl _)))))) (fun _ h => .tail _ h)⟩
    have hf : flushF s = ⟨s.rs ++ [(strOf s.bs, s.hid)], s.hid, []⟩ := by unfold flushF; rw [if_neg (by intro e; rw [e] at h4; simp at h4)]
    refine ⟨rfl, rfl, _, _, ?_, rfl⟩
    rw [hf]
    simp only [List.length_append, flatC_append, flatC_one]
    exact hr10
  · refine WC_skip (thenN (WC_region ?_))
    refine WL_main rfl (OW_call1 (breset_s bB ad _) (.cons rfl (.nil)) (by decide) (.z) mem0 fun u2_0 Lo fs hres => ?_)
    obtain ⟨rfl, rfl, rfl⟩ := hres
    refine WL_nil ?_
    refine ⟨_, [_, _, _, _], [], fun Z w hs => .nil, ?_, fun Z w hs => hs.out (List.Sublist.cons_cons _ (List.Sublist.cons _ (List.Sublist.cons_cons _ (List.Sublist.cons_cons _ (List.Sublist.cons_cons _ (List.Sublist.refl _)))))) (fun _ h => h)⟩
    have hb0 : s.bs = [] := by simpa using h4
    have hf : flushF s = s := by unfold flushF; rw [if_pos hb0]
    refine ⟨rfl, rfl, _, _, ?_, rfl⟩
    rw [hf]; exact hs.rr

theorem rune_open (u : Int) : ∀ Z w cs, runeD.rep Z w u cs → ∃ y : Unit, cs = [.int .i32 u] ∧ ∀ B ∈ ([] : List Fact), B.holds Z w := fun _ _ _ h => ⟨(), h, fun _ h => by cases h⟩

set_option maxRecDepth 10000 in
theorem rcb_s (bB bR bH bF : Nat) (s : RS) (ad : Option Addr) (v : Value) (p : Part) (rv : Value) (rp : Part) (hs : RunS bB s ad v p rv rp) (n : Nat) (hB : RsB s n) (hn : n ≤ 2097152) (x : Int) (rs : List Int) (hid : Int) (A : Option Addr) (c : Nat) (hl : rs.length ≤ 2097152) : Sp Tryd.prog 56 [.int .i64 x, pcV rs hid A c, .pointer (some ⟨bH, 0, none⟩), .pointer (some ⟨bF, 0, none⟩), .pointer (some ⟨bB, 0, none⟩)] [blP bB ad v, p, rcP bR rv, rp, hcP bH s.hid, fcP bF bB bR bH] [RdF runeD A c rs] (fun u Lo fs => u = .bool true ∧ fs = [] ∧ ∃ ad' v' p' rv' rp', RunS bB (pieceF s rs hid) ad' v' p' rv' rp' ∧ Lo = rnL bB bR bH bF ad' v' p' rv' rp' hid) := by
  have hbt := hB.turn hid
  have hbl := hbt.bl
  refine Sp.of (n := 28) ⟨_, Tryd.func56, rfl, rfl, rfl, rfl⟩ (Nat.le_of_ble_eq_true rfl) fun Ps As => ?_
  refine WC_seq (WC_region ?_)
  refine WL_main rfl (OW_box (cs := [_, _]) rfl rfl (by decide) fun b6 => ?_)
  refine Lq (q_assign rfl) ?_
  refine WL_nil (thenN ?_)
  refine WC_meet (α := RS × Option Addr × Value × Part × Value × Part)
    (fun (t, ad4, v4, p4, rv4, rp4) => [(4, .pointer (some ⟨bB, 0, none⟩)), (6, .pointer (some ⟨b6, 0, none⟩))])
    (fun (t, ad4, v4, p4, rv4, rp4) => ([(b6, cellsO (pcC rs hid A c) 118)] :: blP bB ad4 v4 :: p4 :: rcP bR rv4 :: rp4 :: hcP bH hid :: fcP bF bB bR bH :: Ps))
    (fun (t, ad4, v4, p4, rv4, rp4) => (RdF runeD A c rs :: As))
    (fun (t, ad4, v4, p4, rv4, rp4) => RunS bB t ad4 v4 p4 rv4 rp4 ∧ t = turnR s hid) ?_ ?_
  · refine WC_seq (WC_region ?_)
    refine Lq (q_field (o' := 1) Tryd.underlying118 rfl ti3 rfl rfl) ?_
    refine Lq (q_load1 Tryd.underlying3 rfl rfl own0 rfl) ?_
    refine Lq (q_load1 Tryd.underlying3 rfl rfl (ownS (ownS (ownS (ownS (ownS (own0)))))) rfl) ?_
    refine Lq (q_neq rfl rfl) ?_
    refine WL_nil (thenN ?_)
    refine WC_cond rfl (fun h13 => ?_) (fun h13 => ?_)
    · refine WC_seq ?_
      refine WC_pick (.s (.s (.s (.s (.s (.z)))))) ?_
      refine WC_pick (.s (.s (.s (.s (.s (.z)))))) ?_
      refine WC_pick (.s (.s (.s (.s (.s (.z)))))) ?_
      refine WC_pick (.s (.s (.s (.s (.s (.z)))))) ?_
      refine WC_pick (.s (.s (.s (.s (.s (.z)))))) ?_
      refine WC_region ?_
      refine Lq (q_load1 Tryd.underlying1 rfl rfl (ownS (ownS (ownS (ownS (ownS (ownS (own0))))))) rfl) ?_
      refine WL_main rfl (OW_callV (caps := [_, _, _]) rfl (flush_s bB bR bH s ad v p rv rp hs hB.by_ (by have := hB.bl; omega) (by have := hB.rl; omega)) .nil (by decide) (List.Perm.refl _) mem0 fun u2 Lo fs hres => ?_)
      obtain ⟨rfl, rfl, rv2, rp2, hr2, rfl⟩ := hres
      refine WL_nil (thenN ?_)
      refine WC_nilPart ?_
      refine WC_pick (.s (.s (.s (.s (.z))))) ?_
      refine WC_pick (.s (.s (.s (.s (.z))))) ?_
      refine WC_pick (.s (.s (.s (.s (.z))))) ?_
      refine WC_pick (.s (.s (.s (.z)))) ?_
      refine WC_pick (.s (.s (.s (.s (.z))))) ?_
      refine WC_pick (.s (.s (.s (.s (.s (.z)))))) ?_
      refine WC_region ?_
      refine Lq (q_field (o' := 1) Tryd.underlying118 rfl ti3 rfl rfl) ?_
      refine Lq (q_load1 Tryd.underlying3 rfl rfl own0 rfl) ?_
      refine WL_main rfl (OW_store1 ti3 rfl rfl rfl (.z) (.s (.s (.s (.s (.s (.z)))))) ?_)
      refine WL_nil (thenK ?_)
      refine ⟨({ flushF s with hid := hid }, none, .slice none 0 0, [], rv2, rp2), ?_, (.cons rfl (.cons rfl (.nil _))), (List.Sublist.cons_cons _ (List.Sublist.cons_cons _ (List.Sublist.cons_cons _ (List.Sublist.cons_cons _ (List.Sublist.cons_cons _ (List.Sublist.cons_cons _ (List.Sublist.cons_cons _ (List.Sublist.refl _)))))))), (fun _ h => h)⟩
      refine ⟨⟨.inl rfl, ?_, hr2⟩, ?_⟩
      · show Row 5 1 _ (flushF s).bs.length (ints .u8 (flushF s).bs) _
        rw [flush_bs]; exact Row.nil 5 1
      · unfold turnR; rw [if_neg (by simpa using h13)]
    · refine WC_skip (thenK ?_)
      obtain rfl : hid = s.hid := by simpa using h13
      refine ⟨(s, ad, v, p, rv, rp), ?_, (.cons rfl (.cons rfl (.nil _))), (List.Sublist.cons_cons _ (List.Sublist.cons_cons _ (List.Sublist.cons_cons _ (List.Sublist.cons_cons _ (List.Sublist.cons_cons _ (List.Sublist.cons_cons _ (List.Sublist.cons_cons _ (List.Sublist.refl _)))))))), (fun _ h => h)⟩
      exact ⟨hs, (turnR_same rfl).symm⟩
  · rintro ⟨t, ad4, v4, p4, rv4, rp4⟩ hM
    have htb : t.bs.length ≤ 4 * n := by rw [hM.2]; exact hbl
    refine WC_seq (WC_seq (WC_region ?_))
    refine Lq (q_field (o' := 0) Tryd.underlying118 rfl ti73 rfl rfl) ?_
    refine Lq (q_load1 Tryd.underlying73 rfl rfl own0 rfl) ?_
    refine Lq (q_len Tryd.underlying73 rfl) ?_
    refine Lq (q_move rfl) ?_
    refine WL_nil (thenN (WC_block ?_))
    refine WC_loopE (α := Nat × Option Addr × Value × Part) (fun (k, ad5, v5, p5) => rs.length - k)
      (fun (k, ad5, v5, p5) => [(4, .pointer (some ⟨bB, 0, none⟩)), (19, .slice A rs.length c), (20, .int .i64 rs.length), (21, .int .i64 k)])
      (fun (k, ad5, v5, p5) => (blP bB ad5 v5 :: p5 :: rcP bR rv4 :: rp4 :: hcP bH hid :: fcP bF bB bR bH :: Ps))
      (fun (k, ad5, v5, p5) => (RdF runeD A c rs :: As))
      (fun (k, ad5, v5, p5) => k ≤ rs.length ∧ (ad5 = none ∨ ad5 = some ⟨bB, 0, none⟩) ∧ Row 5 1 v5 (t.bs ++ (rs.take k).flatMap encI).length (ints .u8 (t.bs ++ (rs.take k).flatMap encI)) p5)
      (0, ad4, v4, p4) ?_ (.cons rfl (.cons rfl (.cons rfl (.cons rfl (.nil _))))) (List.Sublist.cons _ (List.Sublist.cons_cons _ (List.Sublist.cons_cons _ (List.Sublist.cons_cons _ (List.Sublist.cons_cons _ (List.Sublist.cons_cons _ (List.Sublist.cons_cons _ (List.Sublist.refl _)))))))) (fun _ h => h) ?_
    · refine ⟨Nat.zero_le _, hM.1.ad, ?_⟩
      rw [List.take_zero, List.flatMap_nil, List.append_nil]; exact hM.1.row
    · rintro ⟨k, ad5, v5, p5⟩ hI
      have hle := hI.1
      have hlb : (t.bs ++ (rs.take k).flatMap encI).length ≤ 1073741824 := by
        have h4 := flat_len4 (rs.take k)
        rw [List.length_take] at h4
        rw [List.length_append]; omega
      refine WC_seq (WC_region ?_)
      refine Lq (q_lss rfl rfl) ?_
      refine WL_nil (thenN (WC_seq ?_))
      refine WC_cond rfl (fun h22 => ?_) (fun h22 => ?_)
      · refine WC_skip (thenN (WC_seq (WC_block (WC_seq ?_))))
        try simp only [Bq0, Bq1, Bq2, Bq3, Bq4, Bq5, Bq6, Bq7, Bq8, Bq9, Bq10, Bq11, Bq12] at *
        have hk : k < rs.length := by omega
        refine WC_elem (k := k) (.head _) (List.getElem?_eq_getElem hk) (rune_open _) fun bx qx yx ex => ?_
        cases ex
        refine WC_region ?_
        refine Lq (q_idxRd Tryd.underlying73 ti21 rfl rfl (by omega) (by omega)) ?_
        refine Lq (q_loadF1 (j := 0) Tryd.underlying21 rfl rfl (.head _) rfl rfl) ?_
        refine Lq (q_assign rfl) ?_
        refine WL_nil (thenN (WC_region ?_))
        refine Lq (q_move rfl) ?_
        refine WL_main rfl (OW_call2 (bwrite_s bB ad5 v5 (t.bs ++ (rs.take k).flatMap encI) p5 rs[k] hI.2.1 hI.2.2 hlb) (.cons rfl (.cons rfl (.nil))) (by decide) (.z) (.z) mem0 fun u7_1 Lo fs hres => ?_)
        obtain ⟨v6, p6, hr6, rfl, rfl⟩ := hres
        refine WL_nil (blockN (thenN (WC_region ?_)))
        refine Lq (q_add rfl rfl (wr64 (by omega)) (c := ((k + 1 : Nat) : Int))) ?_
        refine Lq (q_move rfl) ?_
        refine WL_nil (thenK ?_)
        refine ⟨(k + 1, some ⟨bB, 0, none⟩, v6, p6), ?_, (.cons rfl (.cons rfl (.cons rfl (.cons rfl (.nil _))))), (List.Sublist.cons_cons _ (List.Sublist.cons_cons _ (List.Sublist.cons_cons _ (List.Sublist.cons_cons _ (List.Sublist.cons_cons _ (List.Sublist.cons_cons _ (List.Sublist.refl _))))))), (fun _ h => .tail _ h)⟩
        refine ⟨by show rs.length - (k + 1) < rs.length - k; omega, by omega, .inr rfl, ?_⟩
        have e : t.bs ++ (rs.take (k + 1)).flatMap encI = t.bs ++ (rs.take k).flatMap encI ++ encI rs[k] := by rw [List.take_succ_eq_append_getElem hk, List.flatMap_append, List.append_assoc]; simp
        rw [e]; exact hr6
      · refine WC_exit (thenExit (thenExit (blockHit (thenN (WC_seq (WC_region ?_))))))
        refine Lq (q_assign rfl) ?_
        refine WL_nil (thenN (WC_ret ?_))
        refine ⟨_, [_, _, _, _, _, _], [], fun Z w hs => .tmp rfl (.nil), ?_, fun Z w hs => hs.out (List.Sublist.cons_cons _ (List.Sublist.cons_cons _ (List.Sublist.cons_cons _ (List.Sublist.cons_cons _ (List.Sublist.cons_cons _ (List.Sublist.cons_cons _ (List.Sublist.refl _))))))) (fun _ h => h)⟩
        simp only [decide_eq_false_iff_not] at h22
        obtain rfl : k = rs.length := by omega
        have hrow := hI.2.2
        rw [List.take_length] at hrow
        refine ⟨rfl, rfl, ad5, v5, p5, rv4, rp4, ⟨hI.2.1, ?_, ?_⟩, rfl⟩
        · show Row 5 1 v5 ((turnR s hid).bs ++ rs.flatMap encI).length (ints .u8 ((turnR s hid).bs ++ rs.flatMap encI)) p5
          rw [← hM.2]; exact hrow
        · show Row 127 2 rv4 (turnR s hid).rs.length (flatC runC (turnR s hid).rs) rp4
          rw [← hM.2]; exact hM.1.rr

end Go.Proofs.YtggdddkbhigjoaaDoor
/- Walks: rope.walk. -/
namespace Go.Proofs.YtggdddkbhigjoaaDoor
open Go Go.GW
theorem WC_nodeT {P : Program} {n : Nat} {R : Post} {l : Fr} {Ps : List Part} {As : List Fact} {c : Code} {A : Option Addr} {t : Tr} (hA : TrF A t ∈ As) (ht : t ≠ .nil)
    (h : ∀ (b : Nat) (Al Ar Ac : Option Addr) (rs : List Int) (cc : Nat) (hid plus : Int), A = some ⟨b, 0, none⟩ → WC P n c R l Ps (FzA b 0 (ndC (allF t) Al Ar Ac rs cc hid plus) :: As)) : WC P n c R l Ps As := by
  cases t with
  | nil => exact absurd rfl ht
  | nd s lt rs hid rt plus =>
    intro Z w a hs ha
    obtain ⟨b, Al, Ar, Ac, cc, e, g1, g2, g3, g4, g5⟩ : trRep Z w (.nd s lt rs hid rt plus) A := hs.facts _ hA
    exact h b Al Ar Ac rs cc hid plus e Z w a (hs.addFact (A := FzA b 0 (ndC s Al Ar Ac rs cc hid plus)) ⟨g1, g2⟩) ha
theorem wf_pos {t : Tr} (hw : Wf t) (ht : t ≠ .nil) : 0 < t.row.length := by
  cases t with
  | nil => exact absurd rfl ht
  | nd s l rs hid r plus =>
    have h := List.length_pos_iff.2 hw.opened.ne
    simp only [Tr.row, up_length, List.length_append, cellsOf_length]; omega
/-- What a walk's callback does. -/
def CbOk (fn : FuncId) (caps : List Value) (I : List Ce → Part → Prop) (B : Nat) : Prop := ∀ (X : List Ce) (q : Part) (x : Int) (rs : List Int) (hid : Int) (A : Option Addr) (c : Nat), I X q → rs ≠ [] → X.length + rs.length ≤ B → Sp Tryd.prog fn ([.int .i64 x, pcV rs hid A c] ++ caps) [q] [RdF runeD A c rs] (fun v Lo fs => v = .bool true ∧ fs = [] ∧ ∃ q', Lo = [q'] ∧ I (X ++ cellsOf rs hid) q')
def WkP (I : List Ce → Part → Prop) (X : List Ce) : Value → List Part → List Fact → Prop := fun v Lo fs => v = .bool true ∧ fs = [] ∧ ∃ q', Lo = [q'] ∧ I X q'

set_option maxRecDepth 10000 in
theorem walk_0 (fn : FuncId) (caps : List Value) (I : List Ce → Part → Prop) (X : List Ce) (q : Part) (x : Int) (hI : I X q) : Sp Tryd.prog 55 [.pointer none, .int .i64 x, .int .i64 0, .func (.func fn) #[] caps.toArray] [q] [TrF none .nil] (WkP I X) := by
  refine Sp.of (n := 66) ⟨_, Tryd.func55, rfl, rfl, rfl, rfl⟩ (Nat.le_of_ble_eq_true rfl) fun Ps As => ?_
  refine WC_seq (WC_region ?_)
  refine Lq (q_assign rfl) ?_
  refine WL_nil (thenN (WC_seq (WC_seq (WC_region ?_))))
  refine Lq (q_move rfl) ?_
  refine Lq (q_peql Tryd.underlying113 rfl rfl (by simp)) ?_
  refine Lq (q_move rfl) ?_
  refine Ln rfl rfl rfl rfl ?_
  refine Ln rfl rfl rfl rfl ?_
  refine Ln rfl rfl rfl rfl ?_
  refine Ln rfl rfl rfl rfl ?_
  refine Ln rfl rfl rfl rfl ?_
  refine Ln rfl rfl rfl rfl ?_
  refine Ln rfl rfl rfl rfl ?_
  refine Ln rfl rfl rfl rfl ?_
  refine Ln rfl rfl rfl rfl ?_
  refine Lq (q_pickT rfl rfl rfl) ?_
  refine WL_nil (thenN ?_)
  refine WC_fr [(25, _), (8, _), (0, _), (1, _), (2, _), (3, _)] (.cons rfl (.cons rfl (.cons rfl (.cons rfl (.cons rfl (.cons rfl (.nil _))))))) ?_
  refine WC_true rfl rfl (WC_seq (WC_region ?_))
  refine Lq (q_assign rfl) ?_
  refine WL_nil (thenN (WC_ret (thenRet ?_)))
  refine ⟨_, [_], [], fun Z w hs => .tmp rfl (.nil), ?_, fun Z w hs => hs.out (List.Sublist.cons_cons _ (List.Sublist.refl _)) (fun _ h => h)⟩
  exact ⟨rfl, rfl, _, rfl, hI⟩

theorem fd112_0Xw48 (x0 : Int) (x1 : Int) (x2 : Int) (x3 : Int) (x4 : Int) (x5 : Int) (w : World) : (Instr.field 112 (.agg #[.int .i64 x0, .int .i64 x1, .int .i64 x2, .int .i64 x3, .int .i64 x4, .int .i64 x5]) 0).run Tryd.prog w = .ok (.int .i64 x0) w := by kernel_rfl

set_option maxRecDepth 10000 in
theorem walk_n (fn : FuncId) (caps : List Value) (I : List Ce → Part → Prop) (B : Nat) (hB : B ≤ 1073741824) (hcb : CbOk fn caps I B) (N : Nat) : ∀ (A : Option Addr) (t : Tr) (X : List Ce) (q : Part) (wt : Wf t), t.size ≤ N → X.length + t.row.length ≤ B → I X q → Sp Tryd.prog 55 [.pointer A, .int .i64 X.length, .int .i64 0, .func (.func fn) #[] caps.toArray] [q] [TrF A t] (WkP I (X ++ t.row)) := by
  induction N using Nat.strongRecOn
  rename_i N ih
  intro A t X q wt hN hb hI
  by_cases nt : t = .nil
  · subst nt
    have h0 := walk_0 fn caps I (X ++ []) q X.length (by rw [List.append_nil]; exact hI)
    refine ⟨h0.enters, fun Z w Ps As hs => ?_⟩
    obtain rfl : A = none := hs.facts _ (by simp : TrF A .nil ∈ [TrF A .nil] ++ As)
    exact h0.calls Z w Ps As hs
  have hpos := wf_pos wt nt
  refine Sp.of (n := 66) ⟨_, Tryd.func55, rfl, rfl, rfl, rfl⟩ (Nat.le_of_ble_eq_true rfl) fun Ps As => ?_
  refine WC_nodeT (.head _) nt fun b Al Ar Ac rs0 cc hid0 plus0 e => ?_
  cases e
  refine WC_seq (WC_region ?_)
  refine Lq (q_assign rfl) ?_
  refine WL_nil (thenN (WC_seq (WC_seq (WC_region ?_))))
  refine Lq (q_move rfl) ?_
  refine Lq (q_peql Tryd.underlying113 rfl rfl (by simp)) ?_
  refine Lq (q_move rfl) ?_
  refine Lg rfl rfl rfl rfl (q_move rfl) ?_
  refine Lg rfl rfl rfl rfl (q_move rfl) ?_
  refine Lg rfl rfl rfl rfl (q_nil rfl) ?_
  refine Lg rfl rfl rfl rfl (q_field (o' := _ + 0) Tryd.underlying150 rfl ti112 rfl rfl) ?_
  refine Lg rfl rfl rfl rfl (q_field (o' := _ + 0) Tryd.underlying112 rfl ti3 rfl rfl) ?_
  refine Lg rfl rfl rfl rfl (q_loadF1 (j := 0) Tryd.underlying3 rfl rfl (.head _) rfl rfl) ?_
  refine Lg rfl rfl rfl rfl (q_add rfl rfl (by rw [wt.tot]; exact wr64 (by omega)) (c := ((X.length + t.row.length : Nat) : Int))) ?_
  refine Lg rfl rfl rfl rfl (q_move rfl) ?_
  refine Lg rfl rfl rfl rfl (q_leq rfl rfl) ?_
  refine Lq (q_pickF rfl rfl rfl) ?_
  refine WL_nil (thenN ?_)
  refine WC_false rfl (by simp; omega) ?_
  refine WC_skip (thenN (WC_seq (WC_region ?_)))
  refine Lq (q_move rfl) ?_
  refine WL_main rfl (OW_call0 (open_r (some ⟨b, 0, none⟩) t wt nt (by omega)) (.cons rfl (.nil)) (by decide) (memc (.tail _ (.head _)) mem0) fun u3_1 Lo fs hres => ?_)
  obtain ⟨B1, l1, s1, k1, C1, d1, D1, m1, rfl, rfl, rfl, wl1, wm1, n1, h1, r1, zl1, zm1⟩ := hres
  have e1 := congrArg List.length r1
  simp only [List.length_append, cellsOf_length] at e1
  have n1p := List.length_pos_iff.2 n1
  refine Lq (q_move rfl) ?_
  refine Lq (q_extract (vs := [_, _, _]) rfl rfl) ?_
  refine Lq (q_extract (vs := [_, _, _]) rfl rfl) ?_
  refine Lq (q_extract (vs := [_, _, _]) rfl rfl) ?_
  refine WL_main rfl (OW_alloc (cs := [_, _]) ti118 rfl (by decide) fun b10 => ?_)
  refine Lq (q_assign rfl) ?_
  refine WL_main rfl (OW_storeN (cs' := [_, _]) (vs := [_, _]) ti118 rfl rfl rfl rfl rfl (Nat.le_of_ble_eq_true rfl) (.z) ?_)
  refine Lq (q_assign rfl) ?_
  refine WL_nil (thenN (WC_seq (WC_seq (WC_region ?_))))
  refine Lq (q_move rfl) ?_
  refine Lq (q_move rfl) ?_
  refine Lq (q_move rfl) ?_
  refine Lq (q_move rfl) ?_
  refine WL_main rfl (OW_call1 (ih l1.size (by omega) B1 l1 X q wl1 (Nat.le_refl _) (by omega) hI) (.cons rfl (.cons rfl (.cons rfl (.cons rfl (.nil))))) (by decide) (.s (.z)) (memc (.head _) mem0) fun u4_4 Lo fs hres => ?_)
  obtain ⟨rfl, rfl, q1, rfl, hI1⟩ := hres
  refine Lq (q_not rfl) ?_
  refine WL_nil (thenN (WC_false rfl rfl (WC_skip (thenN (WC_seq (WC_region ?_))))))
  refine Lq (q_move rfl) ?_
  refine Lq (q_move rfl) ?_
  refine WL_main rfl (OW_call0 (all_s B1 l1) (.cons rfl (.nil)) (by decide) (memc (.head _) mem0) fun u6_2 Lo fs hres => ?_)
  obtain ⟨rfl, rfl, rfl⟩ := hres
  refine Lq (q_part rfl (fd112_0Xw48 _ _ _ _ _ _)) ?_
  refine Lq (q_add rfl rfl (by rw [wl1.tot]; exact wr64 (by omega)) (c := ((X.length + l1.row.length : Nat) : Int))) ?_
  refine Lq (q_assign rfl) ?_
  refine WL_nil (thenN (WC_seq (WC_seq ?_)))
  refine WC_pick (.z) ?_
  refine WC_region ?_
  refine Lq (q_move rfl) ?_
  refine Lq (q_field (o' := 0) Tryd.underlying118 rfl ti73 rfl rfl) ?_
  refine Lq (q_load1 Tryd.underlying73 rfl rfl (ownS (own0)) rfl) ?_
  refine Lq (q_len Tryd.underlying73 rfl) ?_
  refine Lq (q_add rfl rfl (wr64 (by omega)) (c := ((X.length + l1.row.length + s1.length : Nat) : Int))) ?_
  refine Lq (q_move rfl) ?_
  refine Lq (q_gtr rfl rfl) ?_
  refine Lq (q_move rfl) ?_
  refine Lg rfl rfl rfl (by simp; omega) (q_move rfl) ?_
  refine Lg rfl rfl rfl (by simp; omega) (q_move rfl) ?_
  refine Lg rfl rfl rfl (by simp; omega) (q_loadN (vs := [_, _]) Tryd.underlying118 rfl ti118 rfl (ownS (own0)) rfl rfl) ?_
  refine WL_gmain rfl rfl rfl (by simp; omega) (OW_callV (caps := caps) rfl (hcb (X ++ l1.row) q1 _ s1 k1 C1 d1 hI1 n1 (by rw [List.length_append]; omega)) (.cons rfl (.cons rfl .nil)) (by decide) (List.Perm.refl _) (memc (.tail _ (.head _)) mem0) fun u7 Lo fs hres => ?_)
  obtain ⟨rfl, rfl, q2, rfl, hI2⟩ := hres
  refine Lg rfl rfl rfl (by simp; omega) (q_not rfl) ?_
  refine Lq (q_pickT rfl (by simp; omega) rfl) ?_
  refine WL_nil (thenN ?_)
  refine WC_fr [(56, _), (12, _), (11, _), (10, _), (8, _), (2, _), (3, _)] (.cons rfl (.cons rfl (.cons rfl (.cons rfl (.cons rfl (.cons rfl (.cons rfl (.nil _)))))))) ?_
  refine WC_false rfl rfl (WC_skip (thenN (WC_seq (WC_region ?_))))
  refine Lq (q_move rfl) ?_
  refine Lq (q_move rfl) ?_
  refine Lq (q_field (o' := 0) Tryd.underlying118 rfl ti73 rfl rfl) ?_
  refine Lq (q_load1 Tryd.underlying73 rfl rfl (ownS (own0)) rfl) ?_
  refine Lq (q_len Tryd.underlying73 rfl) ?_
  refine Lq (q_add rfl rfl (by rw [show (X ++ l1.row ++ cellsOf s1 k1).length = X.length + l1.row.length + s1.length from by rw [List.length_append, List.length_append, cellsOf_length]]; exact wr64 (by omega)) (c := (((X ++ l1.row ++ cellsOf s1 k1).length : Nat) : Int))) ?_
  refine Lq (q_move rfl) ?_
  refine Lq (q_move rfl) ?_
  refine WL_main rfl (OW_call1 (ih m1.size (by omega) D1 m1 (X ++ l1.row ++ cellsOf s1 k1) q2 wm1 (Nat.le_refl _) (by rw [List.length_append, List.length_append, cellsOf_length]; omega) hI2) (.cons rfl (.cons rfl (.cons rfl (.cons rfl (.nil))))) (by decide) (.z) (memc (.tail _ (.tail _ (.head _))) mem0) fun u9_8 Lo fs hres => ?_)
  obtain ⟨rfl, rfl, q3, rfl, hI3⟩ := hres
  refine Lq (q_assign rfl) ?_
  refine WL_nil (thenN (WC_ret ?_))
  refine ⟨_, [_], [], fun Z w hs => .tmp rfl (.nil), ?_, fun Z w hs => hs.out (List.Sublist.cons_cons _ (List.Sublist.cons _ (List.Sublist.refl _))) (fun _ h => .tail _ (.tail _ (.tail _ (.tail _ h))))⟩
  refine ⟨rfl, rfl, q3, rfl, ?_⟩
  rw [r1, ← List.append_assoc, ← List.append_assoc]; exact hI3

end Go.Proofs.YtggdddkbhigjoaaDoor
/- Walks: rope.Runs. -/
namespace Go.Proofs.YtggdddkbhigjoaaDoor
open Go Go.GW
theorem runCb (bB bR bH bF : Nat) : CbOk 56 [.pointer (some ⟨bH, 0, none⟩), .pointer (some ⟨bF, 0, none⟩), .pointer (some ⟨bB, 0, none⟩)] (RunI bB bR bH bF) 2097152 := by
  rintro X q x rs hid A c ⟨ad, v, p, rv, rp, hs, rfl⟩ hne hl
  have h := (rcb_s bB bR bH bF (rowF X) ad v p rv rp hs X.length (rowF_ok X) (by omega) x rs hid A c (by omega)).flat
  refine h.mono ?_
  rintro u Lo fs ⟨Lo', ⟨rfl, rfl, ad', v', p', rv', rp', hs', rfl⟩, rfl⟩
  refine ⟨rfl, rfl, _, rfl, ad', v', p', rv', rp', ?_, ?_⟩
  · rw [rowF_piece X hid hne]; exact hs'
  · rw [rowF_piece X hid hne, pieceF_hid]
theorem runI_nil (bB bR bH bF : Nat) : RunI bB bR bH bF [] [blP bB none (.slice none 0 0), [], rcP bR (.slice none 0 0), [], hcP bH 0, fcP bF bB bR bH].flatten :=
  ⟨none, _, [], _, [], ⟨.inl rfl, Row.nil _ _, Row.nil _ _⟩, rfl⟩

set_option maxRecDepth 10000 in
theorem runs_s (b : Nat) (A : Option Addr) (t : Tr) (wt : Wf t) (hb : t.row.length ≤ 1048576) : Sp Tryd.prog 31 [.pointer (some ⟨b, 0, none⟩)] [rpP b A] [TrF A t] (fun v Lo fs => ∃ A' c', v = .slice A' (runsF t.row).length c' ∧ Lo = [rpP b A] ∧ fs = [RdF runD A' c' (runsF t.row)]) := by
  refine Sp.of (n := 17) ⟨_, Tryd.func31, rfl, rfl, rfl, rfl⟩ (Nat.le_of_ble_eq_true rfl) fun Ps As => ?_
  refine WC_seq (WC_region ?_)
  refine Lq (q_assign rfl) ?_
  refine WL_nil (thenN (WC_seq (WC_region ?_)))
  refine WL_main rfl (OW_alloc (cs := [_]) ti84 rfl (by decide) fun b3 => ?_)
  refine WL_nil (thenN (WC_seq (WC_region ?_)))
  refine WL_main rfl (OW_alloc (cs := [_, _]) ti124 rfl (by decide) fun b4 => ?_)
  refine WL_nil (thenN (WC_seq (WC_region ?_)))
  refine WL_main rfl (OW_alloc (cs := [_]) ti3 rfl (by decide) fun b5 => ?_)
  refine WL_main rfl (OW_store1 ti3 rfl rfl rfl (.z) (.z) ?_)
  refine WL_nil (thenN (WC_seq (WC_region ?_)))
  refine Lq (q_func (.cons rfl (.cons rfl (.cons rfl (.nil))))) ?_
  refine WL_main rfl (OW_alloc (cs := [_]) ti1 rfl (by decide) fun b6 => ?_)
  refine WL_main rfl (OW_store1 ti1 rfl rfl rfl (.z) (.z) ?_)
  refine WL_nil (thenN (WC_seq ?_))
  refine WC_pick (.z) ?_
  refine WC_pick (.s (.z)) ?_
  refine WC_pick (.s (.s (.s (.z)))) ?_
  refine WC_pick (.s (.s (.s (.z)))) ?_
  refine WC_nilPart ?_
  refine WC_nilPart ?_
  refine WC_pick (.s (.s (.s (.s (.s (.z)))))) ?_
  refine WC_pick (.s (.s (.s (.s (.s (.z)))))) ?_
  refine WC_pick (.s (.s (.z))) ?_
  refine WC_pick (.s (.s (.s (.s (.s (.z)))))) ?_
  refine WC_pick (.s (.s (.s (.s (.z))))) ?_
  refine WC_pick (.s (.s (.s (.s (.s (.z)))))) ?_
  refine WC_flat (Qs := [blP b4 none (.slice none 0 0), [], rcP b3 (.slice none 0 0), [], hcP b5 0, fcP b6 b4 b3 b5]) ?_
  refine WC_region ?_
  refine Lq (q_move rfl) ?_
  refine Lq (q_nil rfl) ?_
  refine Lq (q_field (o' := 0) Tryd.underlying115 rfl ti113 rfl rfl) ?_
  refine Lq (q_load1 Tryd.underlying113 rfl rfl (ownS (own0)) rfl) ?_
  refine Lq (q_func (.cons rfl (.cons rfl (.cons rfl (.nil))))) ?_
  refine WL_main rfl (OW_call1 (walk_n 56 _ _ 2097152 (by omega) (runCb b4 b3 b5 b6) t.size A t [] _ wt (Nat.le_refl _) (by simp; omega) (runI_nil b4 b3 b5 b6)) (.cons rfl (.cons rfl (.cons rfl (.cons rfl (.nil))))) (by decide) (.z) (memc (.head _) mem0) fun u5_5 Lo fs hres => ?_)
  obtain ⟨rfl, rfl, q1, rfl, hI1⟩ := hres
  refine WL_nil (thenN (WC_seq ?_))
  obtain ⟨ad, v, p, rv, rpp, hs, rfl⟩ := hI1
  refine WC_unflat (Qs := [blP b4 ad v, p, rcP b3 rv, rpp, hcP b5 (rowF ([] ++ t.row)).hid, fcP b6 b4 b3 b5]) ?_
  simp only [List.cons_append, List.nil_append] at hs ⊢
  have hB := rowF_ok t.row
  refine WC_region ?_
  refine Lq (q_load1 Tryd.underlying1 rfl rfl (ownS (ownS (ownS (ownS (ownS (own0)))))) rfl) ?_
  refine WL_main rfl (OW_callV (caps := [_, _, _]) rfl (flush_s b4 b3 b5 (rowF t.row) ad v p rv rpp hs hB.by_ (by have := hB.bl; omega) (by have := hB.rl; omega)) .nil (by decide) (List.Perm.refl _) mem0 fun u6 Lo fs hres => ?_)
  obtain ⟨rfl, rfl, rv2, rp2, hr2, rfl⟩ := hres
  refine WL_nil (thenN (WC_seq ?_))
  obtain ⟨Ar, cr, rfl⟩ := hr2.slice
  refine WC_fact (A := RepsF runD (runsF t.row) ((runsF t.row).map runC)) (fun Z w _ => reps_of (fun _ _ _ => rfl) _ Z w) ?_
  refine WC_freeze (e := runD) (xs := (runsF t.row)) (css := ((runsF t.row).map runC)) hr2 (.s (.s (.z))) rfl (.head _) fun A9 c9 e9 => ?_
  cases e9
  refine WC_region ?_
  refine Lq (q_load1 Tryd.underlying84 rfl rfl (ownS (own0)) rfl) ?_
  refine Lq (q_assign rfl) ?_
  refine WL_nil (thenN (WC_ret ?_))
  refine ⟨_, [_], [_], fun Z w hs => .tmp rfl (.nil), ?_, fun Z w hs => hs.out (List.Sublist.cons _ (List.Sublist.cons _ (List.Sublist.cons _ (List.Sublist.cons _ (List.Sublist.cons_cons _ (List.Sublist.refl _)))))) (memc (.head _) (fun _ h => .tail _ (.tail _ h)))⟩
  exact ⟨_, _, rfl, rfl, rfl⟩

end Go.Proofs.YtggdddkbhigjoaaDoor
/- Walks: eqRuns. -/
namespace Go.Proofs.YtggdddkbhigjoaaDoor
open Go Go.GW
theorem eq127 (x0 : ByteArray) (x1 : Int) (y0 : ByteArray) (y1 : Int) : EqT Tryd.prog 127 [.string x0, .int .i64 x1].toArray [.string y0, .int .i64 y1].toArray ((x0 == y0) && ((x1 == y1) && true)) := EqD.eqT (D := 2) (EqD.struct (D := 0) (l := [(9, 0), (3, 1)]) (by kernel_rfl) (by kernel_rfl) (by kernel_rfl) (.str Tryd.underlying9 rfl rfl (.int Tryd.underlying3 rfl rfl .nil))) (by decide) (by kernel_rfl)
theorem bytes_beq {s t : ByteArray} : (s == t) = true ↔ s = t := by
  rw [beq_toListBytes, ByteArray.toList_eq, ByteArray.toList_eq]
  obtain ⟨⟨x⟩⟩ := s
  obtain ⟨⟨y⟩⟩ := t
  simp

set_option maxRecDepth 10000 in
theorem eqRuns_s (A B : Option Addr) (c d : Nat) (xs ys : List Rn) (hl : xs.length ≤ 4398046511104) : Sp Tryd.prog 35 [.slice A xs.length c, .slice B ys.length d] [] [RdF runD A c xs, RdF runD B d ys] (Is (.bool (decide (xs = ys)))) := by
  refine Sp.of (n := 26) ⟨_, Tryd.func35, rfl, rfl, rfl, rfl⟩ (Nat.le_of_ble_eq_true rfl) fun Ps As => ?_
  refine WC_seq (WC_region ?_)
  refine Lq (q_assign rfl) ?_
  refine WL_nil (thenN (WC_seq (WC_seq (WC_region ?_))))
  refine Lq (q_move rfl) ?_
  refine Lq (q_len Tryd.underlying84 rfl) ?_
  refine Lq (q_move rfl) ?_
  refine Lq (q_len Tryd.underlying84 rfl) ?_
  refine Lq (q_neq rfl rfl) ?_
  refine WL_nil (thenN ?_)
  refine WC_cond rfl (fun h10 => ?_) (fun h10 => ?_)
  · refine WC_seq (WC_region ?_)
    refine Lq (q_assign rfl) ?_
    refine WL_nil (thenN (WC_ret (thenRet ?_)))
    refine ⟨_, [], [], fun Z w hs => .tmp rfl (.nil), ?_, fun Z w hs => hs.out (List.Sublist.refl _) (fun _ h => h)⟩
    refine ⟨congrArg Value.bool (decide_eq_false fun e => ?_).symm, rfl, rfl⟩
    rw [e] at h10; simp at h10
  · refine WC_skip (thenN (WC_seq (WC_seq (WC_region ?_))))
    refine Lq (q_assign rfl) ?_
    refine WL_nil (thenN (WC_block ?_))
    refine WC_loopE (α := Nat) (fun k => xs.length - k)
      (fun k => [(0, .slice A xs.length c), (1, .slice B ys.length d), (5, .int .i64 k)])
      (fun k => Ps)
      (fun k => (RdF runD A c xs :: RdF runD B d ys :: As))
      (fun k => k ≤ xs.length ∧ xs.length = ys.length ∧ xs.take k = ys.take k)
      0 ?_ (.cons rfl (.cons rfl (.cons rfl (.nil _)))) (List.Sublist.refl _) (fun _ h => h) ?_
    · try simp only [Bq0, Bq1, Bq2, Bq3, Bq4, Bq5, Bq6, Bq7, Bq8, Bq9, Bq10, Bq11, Bq12] at *
      exact ⟨Nat.zero_le _, by omega, rfl⟩
    · rintro k hI
      have hle := hI.1
      have hxy := hI.2.1
      have htk := hI.2.2
      refine WC_seq (WC_seq (WC_region ?_))
      refine Lq (q_move rfl) ?_
      refine Lq (q_move rfl) ?_
      refine Lq (q_len Tryd.underlying84 rfl) ?_
      refine Lq (q_lss rfl rfl) ?_
      refine WL_nil (thenN ?_)
      refine WC_cond rfl (fun h14 => ?_) (fun h14 => ?_)
      · refine WC_skip (thenN (WC_seq (WC_block (WC_seq ?_))))
        try simp only [Bq0, Bq1, Bq2, Bq3, Bq4, Bq5, Bq6, Bq7, Bq8, Bq9, Bq10, Bq11, Bq12] at *
        have hk1 : k < xs.length := by omega
        have hk2 : k < ys.length := by omega
        refine WC_elem (k := k) (.head _) (List.getElem?_eq_getElem hk1) (run_open _) fun b1 q1 y1 e1 => ?_
        cases e1
        refine WC_elem (k := k) (.tail _ (.tail _ (.head _))) (List.getElem?_eq_getElem hk2) (run_open _) fun b2 q2 y2 e2 => ?_
        cases e2
        refine WC_draw _ _ [] (.c 0 0 (.c 1 0 (.c 2 0 (.c 3 0 (.c 4 0 (.c 5 0 (.c 6 0 (.c 7 0 (.c 8 0 .nil))))))))) mixed (fun _ _ _ _ h => h) (List.Sublist.refl _) (fun _ h => h) (by kernel_rfl) (by decide) fun ws Z0 => ?_
        refine Qe rfl (q_move rfl) ?_
        refine Qe rfl (q_move rfl) ?_
        refine Qe rfl (q_idxRd Tryd.underlying84 ti127 rfl rfl (by omega) (by omega)) ?_
        refine Qe rfl (q_loadFN (k := 0) (vs := [_, _]) Tryd.underlying127 rfl ti127 rfl (.tail _ (.head _)) rfl rfl rfl) ?_
        refine Qe rfl (q_move rfl) ?_
        refine Qe rfl (q_move rfl) ?_
        refine Qe rfl (q_idxRd Tryd.underlying84 ti127 rfl rfl (by omega) (by omega)) ?_
        refine Qe rfl (q_loadFN (k := 0) (vs := [_, _]) Tryd.underlying127 rfl ti127 rfl (.head _) rfl rfl rfl) ?_
        refine Qe rfl (q_aggneq rfl rfl (eq127 _ _ _ _)) ?_
        refine WE_end (WF_nil ?_)
        refine thenN ?_
        refine WC_cond rfl (fun h25 => ?_) (fun h25 => ?_)
        · refine WC_seq (WC_region ?_)
          refine Lq (q_assign rfl) ?_
          refine WL_nil (thenN (WC_ret (blockRet (thenRet (thenRet (blockRet (thenRet ?_)))))))
          refine ⟨_, [], [], fun Z w hs => .tmp rfl (.nil), ?_, fun Z w hs => hs.out (List.Sublist.refl _) (fun _ h => .tail _ (.tail _ (.tail _ h)))⟩
          refine ⟨congrArg Value.bool (decide_eq_false fun e => ?_).symm, rfl, rfl⟩
          subst e
          have hs : ∀ s : ByteArray, (s == s) = true := fun s => bytes_beq.2 rfl
          simp [hs] at h25
        · refine WC_skip (blockN (thenN (WC_region ?_)))
          refine Lq (q_move rfl) ?_
          refine Lq (q_add rfl rfl (wr64 (by omega)) (c := ((k + 1 : Nat) : Int))) ?_
          refine Lq (q_assign rfl) ?_
          refine WL_nil (thenK ?_)
          refine ⟨k + 1, ?_, (.cons rfl (.cons rfl (.cons rfl (.nil _)))), (List.Sublist.refl _), (fun _ h => .tail _ (.tail _ (.tail _ h)))⟩
          refine ⟨by omega, by omega, hxy, ?_⟩
          rw [List.take_succ_eq_append_getElem hk1, List.take_succ_eq_append_getElem hk2, htk]
          congr 2
          simp only [Bool.not_eq_false', Bool.and_eq_true, beq_iff_eq, bytes_beq] at h25
          exact Prod.ext h25.1 h25.2.1
      · refine WC_exit (thenExit (thenExit (blockHit (thenN (WC_seq (WC_region ?_))))))
        refine Lq (q_assign rfl) ?_
        refine WL_nil (thenN (WC_ret ?_))
        refine ⟨_, [], [], fun Z w hs => .tmp rfl (.nil), ?_, fun Z w hs => hs.out (List.Sublist.refl _) (fun _ h => h)⟩
        refine ⟨congrArg Value.bool (decide_eq_true ?_).symm, rfl, rfl⟩
        simp only [decide_eq_false_iff_not] at h14
        have h1 : xs.take k = xs := List.take_of_length_le (by omega)
        have h2 : ys.take k = ys := List.take_of_length_le (by omega)
        rw [← h1, ← h2]; exact htk

end Go.Proofs.YtggdddkbhigjoaaDoor
/- Walks: Find, edit, Effect. -/
namespace Go.Proofs.YtggdddkbhigjoaaDoor
open Go Go.GW
set_option maxRecDepth 10000 in
theorem find_s (h m cap : Nat) (A : Option Addr) (H : Hist) (L : List MR) (hr : HR H L) (i0 i1 : Int) (k : Nat) (hw : whereId H.ents i0 i1 = some k) : Sp Tryd.prog 30 [.pointer (some ⟨h, 0, none⟩), .agg #[.int .i64 i0, .int .i64 i1]] [hdP h A H.ops.length cap m H.total, mpP m L, mkP L] [] (fun u Lo fs => u = .tuple #[.int .i64 k, .int .i64 0] ∧ Lo = [hdP h A H.ops.length cap m H.total, mpP m L, mkP L] ∧ fs = []) := by
  have hol := ops_len H
  have hlen := hr.len
  obtain ⟨hk, j, x, hc, hn, hj, hm, hg⟩ := hr.look1 hw
  obtain ⟨xm, xb, xA, xc⟩ := x
  obtain rfl : xm = markAt k H.ents[k] := hm
  refine Sp.of (n := 19) ⟨_, Tryd.func30, rfl, rfl, rfl, rfl⟩ (Nat.le_of_ble_eq_true rfl) fun Ps As => ?_
  refine WC_seq (WC_region ?_)
  refine WL_main rfl (OW_box (cs := [_, _]) rfl rfl (by decide) fun b3 => ?_)
  refine Lq (q_assign rfl) ?_
  refine Lq (q_assign rfl) ?_
  refine WL_nil (thenN (WC_seq ?_))
  refine WC_draw _ _ [] (.c 0 0 (.c 1 0 (.c 2 0 (.c 3 0 (.c 4 0 (.c 5 0 (.c 6 0 .nil))))))) mixed (fun _ _ _ _ h => h) (List.Sublist.cons_cons _ (List.Sublist.cons_cons _ (List.Sublist.cons_cons _ (List.Sublist.cons_cons _ (List.Sublist.refl _))))) (fun _ h => h) (by kernel_rfl) (by decide) fun ws Z0 => ?_
  refine Qe rfl (q_move rfl) ?_
  refine Qe rfl (q_nil rfl) ?_
  refine Qe rfl (q_field (o' := 1) Tryd.underlying97 rfl ti95 rfl rfl) ?_
  refine Qe rfl (q_load1 Tryd.underlying95 rfl rfl (ownS (own0)) rfl) ?_
  refine Qe rfl (q_loadN (vs := [_, _]) Tryd.underlying25 rfl ti25 rfl own0 rfl rfl) ?_
  refine Qe rfl (q_lookS keyT hg Tryd.underlying95 ti99 rfl rfl (ownS (ownS (own0)))) ?_
  refine Qe rfl (q_assign rfl) ?_
  refine WE_end (WF_nil ?_)
  refine thenN (WC_seq (WC_seq (WC_region ?_)))
  refine Lq (q_move rfl) ?_
  refine Lq (q_peql Tryd.underlying99 rfl rfl (by simp)) ?_
  refine WL_nil (thenN ?_)
  refine WC_fr [(14, _), (6, _), (5, _), (4, _)] (.cons rfl (.cons rfl (.cons rfl (.cons rfl (.nil _))))) ?_
  refine WC_false rfl rfl (WC_skip (thenN (WC_seq (WC_region ?_))))
  refine Lq (q_move rfl) ?_
  refine Lq (q_nil rfl) ?_
  refine Lq (q_field (o' := 0) Tryd.underlying101 rfl ti3 rfl rfl) ?_
  refine Lq (q_load1 (v := .int .i64 k) Tryd.underlying3 rfl rfl (ownS (ownS (ownS (ownI (mkP_mem hj))))) rfl) ?_
  refine Lq (q_assign rfl) ?_
  refine Lq (q_assign rfl) ?_
  refine WL_nil (thenN (WC_ret ?_))
  refine ⟨_, [_, _, _], [], fun Z w hs => .tmp rfl (.tmp rfl (.nil)), ?_, fun Z w hs => hs.out (List.Sublist.cons _ (List.Sublist.cons_cons _ (List.Sublist.cons_cons _ (List.Sublist.cons_cons _ (List.Sublist.refl _))))) (fun _ h => .tail _ h)⟩
  exact ⟨rfl, rfl, rfl⟩


set_option maxRecDepth 10000 in
theorem edit_s (h m cap : Nat) (A : Option Addr) (H : Hist) (L : List MR) (hr : HR H L) (i0 i1 : Int) (k : Nat) (hw : whereId H.ents i0 i1 = some k) (hk4 : ∀ e, H.ents[k]? = some e → e.op.kind ≠ 4) : Sp Tryd.prog 58 [.pointer (some ⟨h, 0, none⟩), .agg #[.int .i64 i0, .int .i64 i1]] [hdP h A H.ops.length cap m H.total, mpP m L, mkP L] [RdF opD A cap H.ops] (fun u Lo fs => ∃ (hk : k < H.ents.length) (j xb : Nat) (xA : Option Addr) (xc : Nat), L[j]? = some ⟨markAt k H.ents[k], xb, xA, xc⟩ ∧ u = .tuple #[.pointer (some ⟨xb, 0, none⟩), .int .i64 0] ∧ Lo = [hdP h A H.ops.length cap m H.total, mpP m L, mkP L] ∧ fs = []) := by
  have hol := ops_len H
  have hlen := hr.len
  obtain ⟨hk, j, x, hc, hn, hj, hm, hg⟩ := hr.look1 hw
  obtain ⟨xm, xb, xA, xc⟩ := x
  obtain rfl : xm = markAt k H.ents[k] := hm
  refine Sp.of (n := 29) ⟨_, Tryd.func58, rfl, rfl, rfl, rfl⟩ (Nat.le_of_ble_eq_true rfl) fun Ps As => ?_
  refine WC_seq (WC_region ?_)
  refine WL_main rfl (OW_box (cs := [_, _]) rfl rfl (by decide) fun b3 => ?_)
  refine Lq (q_assign rfl) ?_
  refine Lq (q_assign rfl) ?_
  refine WL_nil (thenN (WC_seq ?_))
  refine WC_draw _ _ [] (.c 0 0 (.c 1 0 (.c 2 0 (.c 3 0 (.c 4 0 (.c 5 0 (.c 6 0 .nil))))))) mixed (fun _ _ _ _ h => h) (List.Sublist.cons_cons _ (List.Sublist.cons_cons _ (List.Sublist.cons_cons _ (List.Sublist.cons_cons _ (List.Sublist.refl _))))) (fun _ h => h) (by kernel_rfl) (by decide) fun ws Z0 => ?_
  refine Qe rfl (q_move rfl) ?_
  refine Qe rfl (q_nil rfl) ?_
  refine Qe rfl (q_field (o' := 1) Tryd.underlying97 rfl ti95 rfl rfl) ?_
  refine Qe rfl (q_load1 Tryd.underlying95 rfl rfl (ownS (own0)) rfl) ?_
  refine Qe rfl (q_loadN (vs := [_, _]) Tryd.underlying25 rfl ti25 rfl own0 rfl rfl) ?_
  refine Qe rfl (q_lookS keyT hg Tryd.underlying95 ti99 rfl rfl (ownS (ownS (own0)))) ?_
  refine Qe rfl (q_assign rfl) ?_
  refine WE_end (WF_nil ?_)
  refine thenN (WC_seq (WC_seq (WC_region ?_)))
  refine Lq (q_move rfl) ?_
  refine Lq (q_peql Tryd.underlying99 rfl rfl (by simp)) ?_
  refine WL_nil (thenN ?_)
  refine WC_fr [(14, _), (6, _), (5, _), (4, _), (0, _)] (.cons rfl (.cons rfl (.cons rfl (.cons rfl (.cons rfl (.nil _)))))) ?_
  refine WC_false rfl rfl (WC_skip (thenN (WC_seq (WC_seq ?_))))
  have hko : k < H.ops.length := by omega
  have hop := ops_at hk
  refine WC_elem (k := k) (.tail _ (.head _)) (List.getElem?_eq_getElem hko) (op_open _) fun b4 q4 y4 e4 => ?_
  cases e4
  refine WC_draw _ _ [] (.c 0 0 (.c 1 0 (.c 2 0 (.c 3 0 (.c 4 0 (.c 5 0 (.c 6 0 (.c 7 0 (.c 8 0 (.c 9 0 (.c 10 0 (.c 11 0 (.c 12 0 .nil))))))))))))) mixed (fun _ _ _ _ h => h) (List.Sublist.cons_cons _ (List.Sublist.cons_cons _ (List.Sublist.cons_cons _ (List.Sublist.cons_cons _ (List.Sublist.refl _))))) (fun _ h => h) (by kernel_rfl) (by decide) fun ws Z0 => ?_
  refine Qe rfl (q_move rfl) ?_
  refine Qe rfl (q_nil rfl) ?_
  refine Qe rfl (q_field (o' := 0) Tryd.underlying97 rfl ti45 rfl rfl) ?_
  refine Qe rfl (q_load1 Tryd.underlying45 rfl rfl (ownS (own0)) rfl) ?_
  refine Qe rfl (q_move rfl) ?_
  refine Qe rfl (q_nil rfl) ?_
  refine Qe rfl (q_field (o' := 0) Tryd.underlying101 rfl ti3 rfl rfl) ?_
  refine Qe rfl (q_load1 (v := .int .i64 k) Tryd.underlying3 rfl rfl (ownS (ownS (ownS (ownI (mkP_mem hj))))) rfl) ?_
  refine Qe rfl (q_idxRd Tryd.underlying45 ti31 rfl rfl (by omega) (by omega)) ?_
  refine Qe rfl (q_field (o' := _ + 0) Tryd.underlying31 rfl ti28 rfl rfl) ?_
  refine Qe rfl (q_field (o' := _ + 2) Tryd.underlying28 rfl ti26 rfl rfl) ?_
  refine Qe rfl (q_loadF1 (j := 2) Tryd.underlying26 rfl rfl (.head _) rfl rfl) ?_
  refine Qe rfl (q_eql rfl rfl) ?_
  refine WE_end (WF_nil ?_)
  refine thenN ?_
  refine WC_fr [(27, _), (6, _), (5, _), (4, _)] (.cons rfl (.cons rfl (.cons rfl (.cons rfl (.nil _))))) ?_
  refine WC_false rfl (by simp only [beq_eq_false_iff_ne, ne_eq]; rw [hop]; exact hk4 _ (List.getElem?_eq_getElem hk)) ?_
  refine WC_skip (thenN (WC_seq (WC_region ?_)))
  refine Lq (q_move rfl) ?_
  refine Lq (q_assign rfl) ?_
  refine Lq (q_assign rfl) ?_
  refine WL_nil (thenN (WC_ret ?_))
  refine ⟨_, [_, _, _], [], fun Z w hs => .tmp rfl (.tmp rfl (.nil)), ?_, fun Z w hs => hs.out (List.Sublist.cons _ (List.Sublist.cons_cons _ (List.Sublist.cons_cons _ (List.Sublist.cons_cons _ (List.Sublist.refl _))))) (fun _ h => .tail _ (.tail _ (.tail _ (.tail _ h))))⟩
  exact ⟨hk, j, xb, xA, xc, hj, rfl, rfl, rfl⟩

theorem bd31Xw51  (w : World) : (Instr.build 31 #[]).run Tryd.prog w = .ok (.agg #[.int .i64 0, .int .i64 0, .int .i64 0, .int .i64 0, .string ⟨#[]⟩, .slice none 0 0, .int .i64 0, .int .i64 0, .bool false]) w := by kernel_rfl

set_option maxRecDepth 10000 in
theorem effect_s (h m cap : Nat) (A : Option Addr) (H : Hist) (L : List MR) (hr : HR H L) (i0 i1 : Int) (k : Nat) (hw : whereId H.ents i0 i1 = some k) (hk4 : ∀ e, H.ents[k]? = some e → e.op.kind ≠ 4) (on : Bool) : Sp Tryd.prog 32 [.pointer (some ⟨h, 0, none⟩), .agg #[.int .i64 i0, .int .i64 i1], .bool on] [hdP h A H.ops.length cap m H.total, mpP m L, mkP L] [RdF opD A cap H.ops, AllF L nowF] (fun u Lo fs => ∃ (hk : k < H.ents.length) (Ae : Option Addr) (ce : Nat), Lo = [hdP h A H.ops.length cap m H.total, mpP m L, mkP L] ∧ ((H.ents[k].off = on ∧ u = .tuple #[opV (turnF H.ents[k] on) Ae ce, .int .i64 0] ∧ fs = [RdF rgD Ae ce (turnF H.ents[k] on).rs]) ∨ (H.ents[k].off ≠ on ∧ u = .tuple #[opV zeroOp none 0, .int .i64 62] ∧ fs = []))) := by
  have hol := ops_len H
  have hlen := hr.len
  refine Sp.of (n := 31) ⟨_, Tryd.func32, rfl, rfl, rfl, rfl⟩ (Nat.le_of_ble_eq_true rfl) fun Ps As => ?_
  refine WC_seq (WC_region ?_)
  refine WL_main rfl (OW_box (cs := [_, _]) rfl rfl (by decide) fun b4 => ?_)
  refine WL_main rfl (OW_alloc (cs := [_, _, _, _, _, _, _, _, _]) ti31 rfl (by decide) fun b6 => ?_)
  refine Lq (q_assign rfl) ?_
  refine WL_nil (thenN (WC_seq (WC_region ?_)))
  refine Lq (q_move rfl) ?_
  refine Lq (q_loadN (vs := [_, _]) Tryd.underlying25 rfl ti25 rfl (ownS (own0)) rfl rfl) ?_
  refine WL_main rfl (OW_call3 (edit_s h m cap A H L hr i0 i1 k hw hk4) (.cons rfl (.cons rfl (.nil))) (by decide) (.s (.s (.z))) (.s (.s (.z))) (.s (.s (.z))) (memc (.head _) mem0) fun u1_2 Lo fs hres => ?_)
  obtain ⟨hk, j, xb, xA, xc, hj, rfl, rfl, rfl⟩ := hres
  refine Lq (q_move rfl) ?_
  refine Lq (q_extract (vs := [_, _]) rfl rfl) ?_
  refine Lq (q_extract (vs := [_, _]) rfl rfl) ?_
  refine Lq (q_assign rfl) ?_
  refine Lq (q_assign rfl) ?_
  refine WL_nil (thenN ?_)
  refine WC_fr [(9, _), (8, _), (7, _), (6, _), (0, _), (2, _)] (.cons rfl (.cons rfl (.cons rfl (.cons rfl (.cons rfl (.cons rfl (.nil _))))))) ?_
  refine WC_seq (WC_seq (WC_region ?_))
  refine Lq (q_move rfl) ?_
  refine Lq (q_neq rfl rfl) ?_
  refine WL_nil (thenN (WC_false rfl rfl (WC_skip (thenN (WC_seq (WC_seq (WC_region ?_)))))))
  refine Lq (q_move rfl) ?_
  refine Lq (q_nil rfl) ?_
  refine Lq (q_field (o' := 2) Tryd.underlying101 rfl ti4 rfl rfl) ?_
  refine Lq (q_load1 (v := .bool H.ents[k].off) Tryd.underlying4 rfl rfl (ownS (ownS (ownI (mkP_mem hj)))) rfl) ?_
  refine Lq (q_move rfl) ?_
  refine Lq (q_bneq' Tryd.underlying4 rfl rfl) ?_
  refine WL_nil (thenN ?_)
  refine WC_fr [(25, _), (8, _), (7, _), (6, _), (0, _), (2, _)] (.cons rfl (.cons rfl (.cons rfl (.cons rfl (.cons rfl (.cons rfl (.nil _))))))) ?_
  refine WC_cond rfl (fun h25 => ?_) (fun h25 => ?_)
  · refine WC_seq (WC_region ?_)
    refine Lq (q_build (.nil) (bd31Xw51)) ?_
    refine WL_main rfl (OW_storeN (cs' := [_, _, _, _, _, _, _, _, _]) (vs := [_, _, _, _, _, _, _, _, _]) ti31 rfl rfl rfl rfl rfl (Nat.le_of_ble_eq_true rfl) (.s (.s (.s (.z)))) ?_)
    refine Lq (q_assign rfl) ?_
    refine WL_nil (thenN (WC_ret (thenRet ?_)))
    refine ⟨_, [_, _, _], [], fun Z w hs => RV_ownN hs Tryd.underlying31 rfl ti31 rfl (ownS (ownS (ownS (own0)))) rfl (.tmp rfl (.nil)), ?_, fun Z w hs => hs.out (List.Sublist.cons_cons _ (List.Sublist.cons_cons _ (List.Sublist.cons_cons _ (List.Sublist.cons _ (List.Sublist.cons _ (List.Sublist.refl _)))))) (fun _ h => h)⟩
    exact ⟨hk, none, 0, rfl, .inr ⟨by simpa using h25, rfl, rfl⟩⟩
  · refine WC_skip (thenN (WC_seq (WC_region ?_)))
    refine Lq (q_move rfl) ?_
    refine Lq (q_move rfl) ?_
    refine Lq (q_move rfl) ?_
    refine WL_main rfl (OW_call2 (turn_s h m cap A H L hr H.ops H.total rfl j k xb xA xc hk hj on) (.cons rfl (.cons rfl (.cons rfl (.nil)))) (by decide) (.z) (.s (.z)) (memc (.head _) (memc (.tail _ (.head _)) mem0)) fun u6_3 Lo fs hres => ?_)
    obtain ⟨A1, c1, rfl, rfl, rfl⟩ := hres
    refine WL_main rfl (OW_storeN (cs' := [_, _, _, _, _, _, _, _, _]) (vs := [_, _, _, _, _, _, _, _, _]) ti31 rfl rfl rfl rfl rfl (Nat.le_of_ble_eq_true rfl) (.s (.s (.s (.z)))) ?_)
    refine Lq (q_assign rfl) ?_
    refine WL_nil (thenN (WC_ret ?_))
    refine ⟨_, [_, _, _], [_], fun Z w hs => RV_ownN hs Tryd.underlying31 rfl ti31 rfl (ownS (ownS (ownS (own0)))) rfl (.tmp rfl (.nil)), ?_, fun Z w hs => (((hs.pick (.s (.z))).pick (.s (.s (.z)))).pick (.s (.s (.z)))).out (List.Sublist.cons_cons _ (List.Sublist.cons_cons _ (List.Sublist.cons_cons _ (List.Sublist.cons _ (List.Sublist.cons _ (List.Sublist.refl _)))))) (fun _ h => h)⟩
    exact ⟨hk, A1, c1, rfl, .inl ⟨by simpa using h25, rfl, rfl⟩⟩

end Go.Proofs.YtggdddkbhigjoaaDoor
/- Walks: entries. -/
namespace Go.Proofs.YtggdddkbhigjoaaDoor
open Go Go.GW
def ensL (H : Hist) : List GEn := H.ents.map entE
end Go.Proofs.YtggdddkbhigjoaaDoor
/- Places of inserts: each place is one insert's, and holds its text's rune. -/
namespace Go.Proofs.YtggdddkbhigjoaaDoor
open Go Go.GW
/-- The places of a list, one by one. -/
def placesF (rs : List Rg) : List Int := rs.flatMap fun r => (List.range (r.hi - r.lo).toNat).map fun (j : Nat) => r.lo + j
theorem places_cons (r : Rg) (rs : List Rg) : placesF (r :: rs) = ((List.range (r.hi - r.lo).toNat).map fun (j : Nat) => r.lo + j) ++ placesF rs := by simp [placesF]
theorem places_append (a b : List Rg) : placesF (a ++ b) = placesF a ++ placesF b := by simp [placesF]
theorem mem_run {lo hi q : Int} : q ∈ ((List.range (hi - lo).toNat).map fun (j : Nat) => lo + j) ↔ lo ≤ q ∧ q < hi := by
  simp only [List.mem_map, List.mem_range]
  constructor
  · rintro ⟨j, hj, rfl⟩; omega
  · intro h; exact ⟨(q - lo).toNat, by omega, by omega⟩
theorem mem_places {q : Int} : ∀ {rs : List Rg}, q ∈ placesF rs ↔ memR q rs
  | [] => by simp [placesF, memR]
  | r :: rs => by rw [places_cons, List.mem_append, mem_run, mem_places, memR_cons]
theorem run_sorted (lo : Int) (n : Nat) : ((List.range n).map fun (j : Nat) => lo + j).Pairwise (· < ·) := by
  rw [List.pairwise_map]
  exact List.pairwise_lt_range.imp fun h => by omega
theorem places_sorted : ∀ {b : Int} {rs : List Rg}, NormB b rs → (placesF rs).Pairwise (· < ·)
  | _, [], _ => List.Pairwise.nil
  | b, r :: rs, h => by
    rw [places_cons, List.pairwise_append]
    refine ⟨run_sorted _ _, places_sorted h.2.2, fun x hx y hy => ?_⟩
    have h1 := mem_run.1 hx
    have h2 := h.2.2.below (mem_places.1 hy)
    omega
theorem sorted_ext : ∀ {a b : List Int}, a.Pairwise (· < ·) → b.Pairwise (· < ·) → (∀ q, q ∈ a ↔ q ∈ b) → a = b
  | [], [], _, _, _ => rfl
  | [], y :: b, _, _, h => by have := (h y).2 List.mem_cons_self; cases this
  | x :: a, [], _, _, h => by have := (h x).1 List.mem_cons_self; cases this
  | x :: a, y :: b, h1, h2, h => by
    rw [List.pairwise_cons] at h1 h2
    have e : x = y := by
      rcases List.mem_cons.1 ((h x).1 List.mem_cons_self) with e | e
      · exact e
      · rcases List.mem_cons.1 ((h y).2 List.mem_cons_self) with e' | e'
        · exact e'.symm
        · have := h1.1 _ e'; have := h2.1 _ e; omega
    subst e
    rw [sorted_ext h1.2 h2.2 fun q => ?_]
    constructor
    · intro hq
      rcases List.mem_cons.1 ((h q).1 (List.mem_cons_of_mem _ hq)) with e | e
      · have := h1.1 _ hq; omega
      · exact e
    · intro hq
      rcases List.mem_cons.1 ((h q).2 (List.mem_cons_of_mem _ hq)) with e | e
      · have := h2.1 _ hq; omega
      · exact e
def shQ (at_ n q : Int) : Int := if q < at_ then q else q + n
theorem places_shift {T at_ n : Int} {xs : List Rg} (h : Pls T xs) (hT : 0 ≤ T) (ha : 0 ≤ at_ ∧ at_ ≤ T) (hn : 0 ≤ n) (hs : T + n ≤ 65535) : placesF (thrF xs at_ n).1 = (placesF xs).map (shQ at_ n) := by
  obtain ⟨t1, t2, t3, t4⟩ := thr_ok h hT ha hn hs
  refine sorted_ext (places_sorted t2.norm) ?_ fun q => ?_
  · rw [List.pairwise_map]
    exact (places_sorted h.norm).imp fun {x y} hxy => by unfold shQ; split <;> split <;> omega
  · rw [mem_places, t3, List.mem_map]
    constructor
    · rintro (⟨h1, h2⟩ | ⟨h1, h2⟩)
      · exact ⟨q, mem_places.2 h2, by unfold shQ; rw [if_pos h1]⟩
      · exact ⟨q - n, mem_places.2 h2, by unfold shQ; rw [if_neg (by omega)]; omega⟩
    · rintro ⟨p, hp, rfl⟩
      have hp := mem_places.1 hp
      unfold shQ
      split
      · exact .inl ⟨by assumption, hp⟩
      · exact .inr ⟨by omega, by rw [Int.add_sub_cancel]; exact hp⟩
/-! ### What an entry is of, and what it stands for -/
abbrev Sig := Int × ByteArray × List Rg
def sigE (e : Ent) : Sig := (e.op.kind, e.op.text, e.now)
def sigs (es : List Ent) : List Sig := es.map sigE
theorem sigs_zipE : ∀ (xs : List GOp) (es : List Ent), Sames (es.map (·.op)) xs → sigs (zipE xs es) = sigs es
  | [], [], _ => rfl
  | x :: xs, e :: es, h => by
    cases h with
    | cons h hr => show sigE ⟨x, e.now, e.off⟩ :: sigs (zipE xs es) = _ ; rw [sigs_zipE xs es hr]; unfold sigs sigE; simp only [List.map_cons, h.kind, h.text]
  | [], e :: es, h => by cases h
  | x :: xs, [], h => by cases h
theorem sigs_new {i : Nat} {o : GOp} {nw : List Rg} {es : List Ent} {later : List GOp} (h : Sames ((es.drop i).map (·.op)) later) : sigs (newEnts i o nw es later) = insAt (sigs es) i (o.kind, o.text, nw) := by
  unfold newEnts insAt
  have := sigs_zipE _ _ h
  unfold sigs at *
  rw [List.map_append, List.map_cons, this, List.map_take, List.map_drop]; rfl
theorem sigs_turned (H : Hist) (i : Nat) (o : GOp) : sigs (turnedF H i o).1 = sigs H.ents := by
  rcases turned_cases H i o with e | ⟨k, e, h1, h2, h3, h4, h5⟩
  · rw [e]
  · rw [h5]
    show sigs (H.ents.set k (offE e (!o.on))) = _
    have hk : k < H.ents.length := by
      rcases Nat.lt_or_ge k H.ents.length with h | h
      · exact h
      · rw [List.getElem?_eq_none h] at h2; cases h2
    rw [List.getElem?_eq_getElem hk] at h2
    have e1 : sigE (offE e (!o.on)) = (sigs H.ents)[k]'(by unfold sigs; rw [List.length_map]; exact hk) := by
      unfold sigs; rw [List.getElem_map, Option.some.inj h2]; rfl
    unfold sigs
    rw [List.map_set]
    unfold sigs at e1
    rw [e1, List.set_getElem_self]
theorem insAt_mem {α : Type} {l : List α} {i : Nat} {x y : α} : y ∈ insAt l i x ↔ y = x ∨ y ∈ l := by
  unfold insAt
  conv => rhs; rw [← List.take_append_drop i l]
  rw [List.mem_append, List.mem_cons, List.mem_append]
  constructor
  · rintro (h | h | h)
    · exact .inr (.inl h)
    · exact .inl h
    · exact .inr (.inr h)
  · rintro (h | h | h)
    · exact .inr (.inl h)
    · exact .inl h
    · exact .inr (.inr h)
theorem insAt_countP {α : Type} (f : α → Bool) (l : List α) (i : Nat) (x : α) : (insAt l i x).countP f = l.countP f + (if f x = true then 1 else 0) := by
  unfold insAt
  conv => rhs; rw [← List.take_append_drop i l, List.countP_append]
  rw [List.countP_append, List.countP_cons]; omega
def mkOf (q : Int) (s : Sig) : Bool := decide (s.1 = 1) && inRb q s.2.2
structure Mk (S : List Sig) (T : Int) (X : List Ce) : Prop where
  text : ∀ s ∈ S, s.1 = 1 → (placesF s.2.2).map (fun q => (X[q.toNat]?).map (·.1)) = (runesF s.2.1).map some
  one : ∀ q, 0 ≤ q → q < T → S.countP (mkOf q) = 1
theorem Mk.same {S : List Sig} {T : Int} {X X' : List Ce} (h : Mk S T X) (hx : ∀ q : Nat, (X'[q]?).map (·.1) = (X[q]?).map (·.1)) {i : Nat} {s : Sig} (hs : s.1 ≠ 1) : Mk (insAt S i s) T X' := by
  refine ⟨fun t ht hk => ?_, fun q h0 h1 => ?_⟩
  · rcases insAt_mem.1 ht with rfl | ht
    · exact absurd hk hs
    · rw [← h.text t ht hk]
      exact List.map_congr_left fun q _ => hx q.toNat
  · rw [insAt_countP, h.one q h0 h1]
    have : mkOf q s = false := by unfold mkOf; simp [hs]
    rw [this]; simp
theorem countP_map_shift {T at_ n : Int} (q : Int) (ha : 0 ≤ at_ ∧ at_ ≤ T) (hn : 0 ≤ n) (hs : T + n ≤ 65535) : ∀ (S : List Sig), (∀ s ∈ S, Pls T s.2.2) → (S.map fun s => (s.1, s.2.1, (thrF s.2.2 at_ n).1)).countP (mkOf q) = if q < at_ then S.countP (mkOf q) else if q < at_ + n then 0 else S.countP (mkOf (q - n))
  | [], _ => by simp
  | s :: S, h => by
    have ih := countP_map_shift q ha hn hs S fun x hx => h x (List.mem_cons_of_mem _ hx)
    obtain ⟨t1, t2, t3, t4⟩ := thr_ok (h s List.mem_cons_self) (by omega) ha hn hs
    have e2 : inRb q (thrF s.2.2 at_ n).1 = if q < at_ then inRb q s.2.2 else if q < at_ + n then false else inRb (q - n) s.2.2 := by
      rw [Bool.eq_iff_iff]
      rw [inRb_iff, t3 q]
      by_cases c1 : q < at_
      · rw [if_pos c1, inRb_iff]
        constructor
        · rintro (h | h)
          · exact h.2
          · omega
        · intro h; exact .inl ⟨c1, h⟩
      · rw [if_neg c1]
        by_cases c2 : q < at_ + n
        · rw [if_pos c2]
          constructor
          · rintro (h | h) <;> omega
          · intro h; cases h
        · rw [if_neg c2, inRb_iff]
          constructor
          · rintro (h | h)
            · omega
            · exact h.2
          · intro h; exact .inr ⟨by omega, h⟩
    rw [List.map_cons, List.countP_cons, ih]
    have e3 : mkOf q (s.1, s.2.1, (thrF s.2.2 at_ n).1) = (decide (s.1 = 1) && inRb q (thrF s.2.2 at_ n).1) := rfl
    rw [e3, e2]
    by_cases c1 : q < at_
    · simp only [if_pos c1]; rw [List.countP_cons]; rfl
    · by_cases c2 : q < at_ + n
      · simp only [if_neg c1, if_pos c2]; simp
      · simp only [if_neg c1, if_neg c2]; rw [List.countP_cons]; rfl
theorem put_mk {H : Hist} (h : HV H) {i : Nat} {o : GOp} {es : List Ent} {nw : List Rg} {eff : GOp} (g : Good H i o) (p : PutIs H i o es nw eff) {X : List Ce} (hr : Rule H X) (hm : Mk (sigs H.ents) H.total X) : Mk (sigs (newEnts i o nw es (carryF o (H.ops.drop i)).2)) (H.total + widthF o) (applyRow eff X) := by
  obtain ⟨c1, c2, c3, c4, c5⟩ := cross_good h g
  have h0 := h.total0
  have hs := p.sames h g
  have hroom := g.room
  have hwid := g.right.width
  have hlen := hr.len
  rw [sigs_new hs]
  have hpl : ∀ s ∈ sigs H.ents, Pls H.total s.2.2 := fun s hs => by obtain ⟨e, he, rfl⟩ := List.mem_map.1 hs; exact h.pls e he
  rcases g.right.kind with hk | hk | hk
  · obtain ⟨e1, e2, e3⟩ := p.ins hk
    have hti := c2.ins (c4.kind.trans hk)
    have hw2 : widthF (carryF o (H.ops.drop i)).1 = widthF o := c4.width
    have hwk := (hwid.2.2.1 hk).2
    have hrun := runes_width g.right hk
    generalize hta : (carryF o (H.ops.drop i)).1.at_ = ta at *
    have hek : eff.kind = 1 := by rw [e3]; exact hk
    have hes : sigs es = (sigs H.ents).map fun s => (s.1, s.2.1, (thrF s.2.2 ta (widthF o)).1) := by rw [e1]; unfold sigs; rw [List.map_map, List.map_map]; rfl
    have happ : applyRow eff X = X.take ta.toNat ++ (cellsOf (runesF o.text) 0 ++ X.drop ta.toNat) := by unfold applyRow; rw [if_pos hek, e3]
    have el1 : (X.take ta.toNat).length = ta.toNat := by rw [List.length_take]; omega
    have hlo : ∀ q : Nat, q < ta.toNat → (applyRow eff X)[q]? = X[q]? := fun q hq => by rw [happ, List.getElem?_append_left (by omega), List.getElem?_take, if_pos hq]
    have hhi : ∀ q : Nat, ta.toNat + (widthF o).toNat ≤ q → (applyRow eff X)[q]? = X[q - (widthF o).toNat]? := fun q hq => by
      rw [happ, List.getElem?_append_right (by omega), List.getElem?_append_right (by rw [cellsOf_length]; omega), cellsOf_length, List.getElem?_drop]
      congr 1; omega
    have hmid : ∀ j : Nat, j < (runesF o.text).length → ((applyRow eff X)[ta.toNat + j]?).map (·.1) = (runesF o.text)[j]? := fun j hj => by
      rw [happ, List.getElem?_append_right (by omega), List.getElem?_append_left (by rw [cellsOf_length]; omega), el1, Nat.add_sub_cancel_left]
      unfold cellsOf; rw [List.getElem?_map, Option.map_map, show ((fun c : Ce => c.1) ∘ fun c : Int => ((c, 0) : Ce)) = id from rfl, Option.map_id]; rfl
    rw [hes, e2]
    refine ⟨fun s hs2 hk2 => ?_, fun q hq0 hq1 => ?_⟩
    · rcases insAt_mem.1 hs2 with rfl | hs2
      · show (placesF [⟨ta, ta + widthF o⟩]).map _ = (runesF o.text).map some
        rw [places_cons, show placesF [] = [] from rfl, List.append_nil, List.map_map]
        dsimp only
        rw [show (ta + widthF o - ta).toNat = (runesF o.text).length from by omega]
        apply List.ext_getElem?
        intro j
        rw [List.getElem?_map, List.getElem?_map]
        by_cases hj : j < (runesF o.text).length
        · rw [List.getElem?_range (by omega)]
          simp only [Option.map_some, Function.comp]
          rw [show (ta + (j : Int)).toNat = ta.toNat + j from by omega, hmid j hj, List.getElem?_eq_getElem hj]; rfl
        · rw [List.getElem?_eq_none (by rw [List.length_range]; omega), List.getElem?_eq_none (by omega)]; rfl
      · obtain ⟨t, ht, rfl⟩ := List.mem_map.1 hs2
        show (placesF (thrF t.2.2 ta (widthF o)).1).map _ = _
        rw [places_shift (hpl t ht) h0 ⟨hti.1, hti.2.1⟩ hwid.1 (by omega), List.map_map, ← hm.text t ht hk2]
        refine List.map_congr_left fun q hq => ?_
        have hqp := (hpl t ht).in (mem_places.1 hq)
        simp only [Function.comp]
        unfold shQ
        split
        · rw [hlo _ (by omega)]
        · rw [hhi _ (by omega)]
          congr 2; omega
    · rw [insAt_countP, countP_map_shift (T := H.total) q ⟨hti.1, hti.2.1⟩ hwid.1 (by omega) _ hpl]
      have e4 : mkOf q (o.kind, o.text, [⟨ta, ta + widthF o⟩]) = (decide (ta ≤ q) && decide (q < ta + widthF o)) := by unfold mkOf inRb; simp [hk]
      rw [e4]
      by_cases d1 : q < ta
      · rw [if_pos d1, hm.one q hq0 (by omega)]
        rw [show decide (ta ≤ q) = false from by simp; omega]; rfl
      · rw [if_neg d1]
        by_cases d2 : q < ta + widthF o
        · rw [if_pos d2, show decide (ta ≤ q) = true from by simp; omega, show decide (q < ta + widthF o) = true from by simp; omega]; rfl
        · rw [if_neg d2, hm.one (q - widthF o) (by omega) (by omega), show decide (q < ta + widthF o) = false from by simp; omega, Bool.and_false]; rfl
  · obtain ⟨e1, e2, e3⟩ := p.hide hk
    obtain ⟨t1, t2⟩ := c2.cov (c4.kind.trans hk) (by omega)
    rw [e1, hwid.2.2.2 (by omega), Int.add_zero]
    refine hm.same (fun q => ?_) (by show o.kind ≠ 1; omega)
    have hek : eff.kind = 2 := by rw [e3]; exact hk
    have hers : eff.rs = (carryF o (H.ops.drop i)).1.rs := by rw [e3]
    unfold applyRow
    rw [if_neg (by omega), if_pos hek, hers, (bumpL_get (k := 1) _ 0 X (Int.le_refl _) t2.norm (by rw [hlen]; exact t2.below)).2 q, Option.map_map]
    congr 1; funext c; simp only [Function.comp]; split <;> rfl
  · obtain ⟨e1, e2, e3⟩ := p.status hk
    have hsg : sigs es = sigs H.ents := by rw [e1]; exact sigs_turned H i o
    rw [hsg, hwid.2.2.2 (by omega), Int.add_zero]
    refine hm.same (fun q => ?_) (by show o.kind ≠ 1; omega)
    rcases turned_cases H i o with e | ⟨k, e, g1, g2, g3, g4, g5⟩
    · rw [e3, e]; rfl
    · have hpe := h.pls e (List.mem_of_getElem? g2)
      have hers : eff.rs = e.now := by rw [e3, g5]; rfl
      have hek : eff.kind = 2 ∨ eff.kind = 3 := by rw [e3, g5]; unfold turnF; simp only; split <;> simp
      have key : ∀ k, ((bumpL e.now k X)[q]?).map (·.1) = (X[q]?).map (·.1) := fun k => by
        rw [(bumpL_get (k := k) _ 0 X (Int.le_refl _) hpe.norm (by rw [hlen]; exact hpe.below)).2 q, Option.map_map]
        congr 1; funext c; simp only [Function.comp]; split <;> rfl
      unfold applyRow
      rcases hek with hek | hek
      · rw [if_neg (by omega), if_pos hek, hers]; exact key 1
      · rw [if_neg (by omega), if_neg (by omega), if_pos hek, hers]; exact key (-1)
theorem Made.mk {n : Nat} {H : Hist} {X : List Ce} (h : Made n H X) : n ≤ 1000 → Mk (sigs H.ents) H.total X := by
  induction h with
  | zero => exact fun _ => ⟨fun s hs => (by cases hs), fun q h0 h1 => by simp at h1; omega⟩
  | step h g ih =>
    intro hn
    obtain ⟨h1, h2, h3⟩ := h.inv (by omega)
    obtain ⟨es, nw, eff, p⟩ := put_good h1 g
    have := put_mk h1 g p h2 (ih (by omega))
    rw [p.put]; exact this
end Go.Proofs.YtggdddkbhigjoaaDoor
/- Counting places: the plain law behind HistoryCounts. -/
namespace Go.Proofs.YtggdddkbhigjoaaDoor
open Go Go.GW
def runQ (lo hi : Int) : List Int := (List.range (hi - lo).toNat).map fun (j : Nat) => lo + j
theorem runQ_nil (lo : Int) : runQ lo lo = [] := by unfold runQ; rw [Int.sub_self]; rfl
theorem runQ_snoc {lo q : Int} (h : lo ≤ q) : runQ lo (q + 1) = runQ lo q ++ [q] := by
  unfold runQ
  rw [show (q + 1 - lo).toNat = (q - lo).toNat + 1 from by omega, List.range_succ, List.map_append]
  simp; omega
theorem places_take {rs : List Rg} {j : Nat} (h : j < rs.length) : placesF (rs.take (j + 1)) = placesF (rs.take j) ++ runQ rs[j].lo rs[j].hi := by
  rw [List.take_succ_eq_append_getElem h, places_append]
  congr 1
  rw [places_cons, show placesF [] = [] from rfl, List.append_nil]; rfl
/-! ### The three rows -/
def accL (T : Nat) (g : Int → Nat) (b : Bool) (ps : List Int) : List Int := (List.range T).map fun p : Nat => ((g p + (if (b && ps.contains (p : Int)) = true then 1 else 0) : Nat) : Int)
theorem accL_len (T : Nat) (g : Int → Nat) (b : Bool) (ps : List Int) : (accL T g b ps).length = T := by simp [accL]
theorem accL_at {T : Nat} {g : Int → Nat} {b : Bool} {ps : List Int} {p : Nat} (h : p < T) : (accL T g b ps)[p]? = some ((g p + (if (b && ps.contains (p : Int)) = true then 1 else 0) : Nat) : Int) := by
  unfold accL; rw [List.getElem?_map, List.getElem?_range h]; rfl
theorem accL_false (T : Nat) (g : Int → Nat) (ps ps' : List Int) : accL T g false ps = accL T g false ps' := by
  unfold accL; simp
theorem accL_nil (T : Nat) (g : Int → Nat) (b b' : Bool) : accL T g b [] = accL T g b' [] := by unfold accL; simp
theorem accL_snoc {T : Nat} {g : Int → Nat} {ps : List Int} {q : Nat} (h : q < T) (hq : (q : Int) ∉ ps) {x : Int} (hx : (accL T g true ps)[q]? = some x) : (accL T g true ps).set q (x + 1) = accL T g true (ps ++ [(q : Int)]) := by
  apply List.ext_getElem?
  intro p
  by_cases hp : p < T
  · rw [accL_at hp]
    by_cases e : q = p
    · subst e
      rw [List.getElem?_set_self (by rw [accL_len]; exact h)]
      rw [accL_at h] at hx
      have := Option.some.inj hx
      have h1 : ps.contains (q : Int) = false := by simpa using hq
      rw [h1] at this
      simp at this
      simp [← this, h1]
    · rw [List.getElem?_set_ne e, accL_at hp]
      have : (ps ++ [(q : Int)]).contains (p : Int) = ps.contains (p : Int) := by
        rw [Bool.eq_iff_iff]; simp; omega
      rw [this]
  · rw [List.getElem?_eq_none (by rw [List.length_set, accL_len]; omega), List.getElem?_eq_none (by rw [accL_len]; omega)]
def gM (es : List Ent) (q : Int) : Nat := (sigs es).countP (mkOf q)
structure CI (T : Nat) (X : List Ce) (es : List Ent) (k1 k2 : Bool) (ps : List Int) (mk hd rn : List Int) : Prop where
  mm : mk = accL T (gM es) k1 ps
  hd : hd = accL T (cnt es) k2 ps
  rl : rn.length = T
  rn : ∀ p : Nat, p < T → (0 < gM es p ∨ (k1 = true ∧ (p : Int) ∈ ps)) → rn[p]? = (X[p]?).map (·.1)
theorem CI.ml {T : Nat} {X : List Ce} {es : List Ent} {k1 k2 : Bool} {ps mk hd rn : List Int} (h : CI T X es k1 k2 ps mk hd rn) : mk.length = T := by rw [h.mm, accL_len]
theorem CI.hl {T : Nat} {X : List Ce} {es : List Ent} {k1 k2 : Bool} {ps mk hd rn : List Int} (h : CI T X es k1 k2 ps mk hd rn) : hd.length = T := by rw [h.hd, accL_len]
theorem CI.zero (T : Nat) (X : List Ce) : CI T X [] false false [] (List.replicate T 0) (List.replicate T 0) (List.replicate T 0) := by
  have e : ∀ g : Int → Nat, (∀ p, g p = 0) → List.replicate T (0 : Int) = accL T g false [] := fun g hg => by
    apply List.ext_getElem?
    intro p
    by_cases hp : p < T
    · rw [accL_at hp, List.getElem?_replicate, if_pos hp, hg]; simp
    · rw [List.getElem?_eq_none (by rw [List.length_replicate]; omega), List.getElem?_eq_none (by rw [accL_len]; omega)]
  refine ⟨e _ fun p => rfl, e _ fun p => rfl, List.length_replicate, fun p _ h => ?_⟩
  rcases h with h | h
  · exact absurd h (by simp [gM, sigs])
  · simp at h
theorem CI.flags {T : Nat} {X : List Ce} {es : List Ent} {k1 k2 k3 k4 : Bool} {mk hd rn : List Int} (h : CI T X es k1 k2 [] mk hd rn) : CI T X es k3 k4 [] mk hd rn :=
  ⟨h.mm.trans (accL_nil ..), h.hd.trans (accL_nil ..), h.rl, fun p hp hh => h.rn p hp (hh.imp id fun x => by simp at x)⟩
theorem CI.next {T : Nat} {X : List Ce} {es : List Ent} {k1 k2 : Bool} {ps mk hd rn : List Int} (h : CI T X es k1 k2 ps mk hd rn) {q : Nat} (hq : q < T) (hn : (q : Int) ∉ ps) {mk' hd' rn' : List Int}
    (hm : (k1 = true ∧ ∃ x, mk[q]? = some x ∧ mk' = mk.set q (x + 1)) ∨ (k1 = false ∧ mk' = mk)) (hh : (k2 = true ∧ ∃ x, hd[q]? = some x ∧ hd' = hd.set q (x + 1)) ∨ (k2 = false ∧ hd' = hd))
    (hr : (k1 = true ∧ ∃ y, (X[q]?).map (·.1) = some y ∧ rn' = rn.set q y) ∨ (k1 = false ∧ rn' = rn)) : CI T X es k1 k2 (ps ++ [(q : Int)]) mk' hd' rn' := by
  refine ⟨?_, ?_, ?_, ?_⟩
  · rcases hm with ⟨rfl, x, h1, rfl⟩ | ⟨rfl, rfl⟩
    · rw [h.mm] at h1 ⊢; exact accL_snoc hq hn h1
    · rw [h.mm]; exact accL_false ..
  · rcases hh with ⟨rfl, x, h1, rfl⟩ | ⟨rfl, rfl⟩
    · rw [h.hd] at h1 ⊢; exact accL_snoc hq hn h1
    · rw [h.hd]; exact accL_false ..
  · rcases hr with ⟨_, y, _, rfl⟩ | ⟨_, rfl⟩
    · rw [List.length_set]; exact h.rl
    · exact h.rl
  · intro p hp hh2
    rcases hr with ⟨rfl, y, h1, rfl⟩ | ⟨rfl, rfl⟩
    · by_cases e : q = p
      · subst e; rw [List.getElem?_set_self (by rw [h.rl]; exact hq), h1]
      · rw [List.getElem?_set_ne e]
        refine h.rn p hp (hh2.imp id fun ⟨_, x⟩ => ⟨rfl, ?_⟩)
        rcases List.mem_append.1 x with x | x
        · exact x
        · simp at x; omega
    · exact h.rn p hp (hh2.imp id fun ⟨x, _⟩ => by cases x)
theorem CI.close {T : Nat} {X : List Ce} {es : List Ent} {e : Ent} {k1 k2 : Bool} {mk hd rn : List Int} (h : CI T X es k1 k2 (placesF e.now) mk hd rn) (h1 : k1 = decide (e.op.kind = 1)) (h2 : ∀ q, (k2 && inRb q e.now) = (hidE e && inRb q e.now)) : CI T X (es ++ [e]) false false [] mk hd rn := by
  have hc : ∀ q, (placesF e.now).contains q = inRb q e.now := fun q => by rw [Bool.eq_iff_iff, inRb_iff, ← mem_places]; simp
  have e1 : ∀ q, gM (es ++ [e]) q = gM es q + (if (k1 && (placesF e.now).contains q) = true then 1 else 0) := fun q => by
    unfold gM sigs
    rw [List.map_append, List.countP_append, hc, h1]
    simp [mkOf, sigE]
  have e2 : ∀ q, cnt (es ++ [e]) q = cnt es q + (if (k2 && (placesF e.now).contains q) = true then 1 else 0) := fun q => by
    rw [cnt_append, hc, h2]; simp [cnt]
  have key : ∀ (g g' : Int → Nat) (b : Bool), (∀ q, g' q = g q + (if (b && (placesF e.now).contains q) = true then 1 else 0)) → accL T g b (placesF e.now) = accL T g' false [] := fun g g' b hg => by
    unfold accL
    refine List.map_congr_left fun p _ => ?_
    rw [hg]; simp
  refine ⟨h.mm.trans (key _ _ _ e1), h.hd.trans (key _ _ _ e2), h.rl, fun p hp hh => h.rn p hp ?_⟩
  rcases hh with hh | hh
  · rw [e1] at hh
    by_cases hx : (k1 && (placesF e.now).contains (p : Int)) = true
    · simp only [Bool.and_eq_true, List.contains_iff_mem] at hx; exact .inr hx
    · rw [if_neg hx] at hh; exact .inl hh
  · simp at hh
/-! ### The entries of a history -/
structure Cf (H : Hist) (T : Nat) (X : List Ce) (i : Nat) (en : GEn) (kn : Int) (tx : ByteArray) : Prop where
  hen : (ensL H)[i]? = some en
  hkn : (kindsOf H.ents)[i]? = some kn
  htx : (textsOf H.ents)[i]? = some tx
  pls : Pls T en.rs
  rl : (runesF tx).length ≤ 256
  len : kn = 0 → (placesF en.rs).length = (runesF tx).length
  rune : kn = 0 → ∀ (j : Nat) (q : Nat), (placesF en.rs)[j]? = some (q : Int) → ∃ y, (runesF tx)[j]? = some y ∧ (X[q]?).map (·.1) = some y
  close : ∀ mk hd rn, CI T X (H.ents.take i) (kn == 0) ((kn == 0) != en.on) (placesF en.rs) mk hd rn → CI T X (H.ents.take (i + 1)) false false [] mk hd rn
  id : (idsOf H.ents)[i]? = some (en.c, en.n)
  kind : (en.kind == 4) = (kn == 2)
  empty : (kn == 2) = ((en.rs.length : Int) == 0)
theorem HV.kinds {H : Hist} (h : HV H) {e : Ent} (he : e ∈ H.ents) : e.op.kind = 1 ∨ e.op.kind = 2 ∨ e.op.kind = 4 := by
  have h2 : ∀ (l : List GOp) (w : Int), CtxOk w l → ∀ x ∈ l, x.kind = 1 ∨ x.kind = 2 ∨ x.kind = 4 := by
    intro l
    induction l with
    | nil => intro w _ x hx; cases hx
    | cons y l ih =>
      intro w hc x hx
      rcases List.mem_cons.1 hx with rfl | hx
      · exact hc.1.kind
      · exact ih _ hc.2 x hx
  exact h2 _ _ h.ctx e.op (List.mem_map.2 ⟨e, he, rfl⟩)
theorem entE_rs {H : Hist} (h : HV H) {e : Ent} (he : e ∈ H.ents) : (entE e).rs = e.now := by
  unfold entE
  split
  · rename_i hk; exact ((h.edit e he).1 hk).symm
  · rfl
theorem CI.nextI {T : Nat} {X : List Ce} {es : List Ent} {k1 k2 : Bool} {ps mk hd rn : List Int} (h : CI T X es k1 k2 ps mk hd rn) {q : Int} (hq0 : 0 ≤ q) (hq : q < T) (hn : q ∉ ps) {mk' hd' rn' : List Int}
    (hm : (k1 = true ∧ ∃ x, mk[q.toNat]? = some x ∧ mk' = mk.set q.toNat (x + 1)) ∨ (k1 = false ∧ mk' = mk)) (hh : (k2 = true ∧ ∃ x, hd[q.toNat]? = some x ∧ hd' = hd.set q.toNat (x + 1)) ∨ (k2 = false ∧ hd' = hd))
    (hr : (k1 = true ∧ ∃ y, (X[q.toNat]?).map (·.1) = some y ∧ rn' = rn.set q.toNat y) ∨ (k1 = false ∧ rn' = rn)) : CI T X es k1 k2 (ps ++ [q]) mk' hd' rn' := by
  have e : ((q.toNat : Nat) : Int) = q := Int.toNat_of_nonneg hq0
  have := h.next (q := q.toNat) (by omega) (by rw [e]; exact hn) hm hh hr
  rwa [e] at this
theorem accL_bd {T : Nat} {g : Int → Nat} {b : Bool} {ps : List Int} {m : Nat} (hg : ∀ q, g q ≤ m) {p : Nat} (hp : p < T) : ∃ x, (accL T g b ps)[p]? = some x ∧ 0 ≤ x ∧ x ≤ m + 1 := by
  refine ⟨_, accL_at hp, by omega, ?_⟩
  have := hg p
  split <;> omega
theorem CI.at_ {T : Nat} {X : List Ce} {es : List Ent} {k1 k2 : Bool} {ps mk hd rn : List Int} (h : CI T X es k1 k2 ps mk hd rn) {p : Nat} (hp : p < T) : (∃ x, mk[p]? = some x ∧ 0 ≤ x ∧ x ≤ es.length + 1) ∧ (∃ x, hd[p]? = some x ∧ 0 ≤ x ∧ x ≤ es.length + 1) := by
  refine ⟨?_, ?_⟩
  · rw [h.mm]; exact accL_bd (fun q => by unfold gM sigs; have := List.countP_le_length (p := mkOf q) (l := es.map sigE); rw [List.length_map] at this; exact this) hp
  · rw [h.hd]; exact accL_bd (fun q => cnt_le es q) hp
structure J3 (T : Nat) (X : List Ce) (es : List Ent) (en : GEn) (kn : Int) (j kk : Nat) (mk hd rn : List Int) : Prop where
  le : j ≤ en.rs.length
  kk : kn = 0 → kk = (placesF (en.rs.take j)).length
  ci : CI T X es (kn == 0) ((kn == 0) != en.on) (placesF (en.rs.take j)) mk hd rn
structure Q4 (T : Nat) (X : List Ce) (es : List Ent) (en : GEn) (kn : Int) (j : Nat) (r : Rg) (q : Int) (kk : Nat) (mk hd rn : List Int) : Prop where
  lo : r.lo ≤ q
  hi : q ≤ r.hi
  kk : kn = 0 → kk = (placesF (en.rs.take j) ++ runQ r.lo q).length
  ci : CI T X es (kn == 0) ((kn == 0) != en.on) (placesF (en.rs.take j) ++ runQ r.lo q) mk hd rn
theorem J3.start {T : Nat} {X : List Ce} {es : List Ent} {en : GEn} {kn : Int} {j kk : Nat} {mk hd rn : List Int} (h : J3 T X es en kn j kk mk hd rn) {r : Rg} (hr : r.lo ≤ r.hi) : Q4 T X es en kn j r r.lo kk mk hd rn :=
  ⟨Int.le_refl _, hr, fun h0 => by rw [runQ_nil, List.append_nil]; exact h.kk h0, by rw [runQ_nil, List.append_nil]; exact h.ci⟩
theorem Q4.done {T : Nat} {X : List Ce} {es : List Ent} {en : GEn} {kn : Int} {j : Nat} {hj : j < en.rs.length} {q : Int} {kk : Nat} {mk hd rn : List Int} (h : Q4 T X es en kn j en.rs[j] q kk mk hd rn) (hq : ¬ q < en.rs[j].hi) : J3 T X es en kn (j + 1) kk mk hd rn := by
  have e : q = en.rs[j].hi := by have := h.hi; omega
  have h1 := h.kk
  have h2 := h.ci
  rw [e, ← places_take hj] at h1 h2
  exact ⟨hj, h1, h2⟩
theorem J3.done {H : Hist} {T : Nat} {X : List Ce} {i : Nat} {en : GEn} {kn : Int} {tx : ByteArray} (hC : Cf H T X i en kn tx) {j kk : Nat} {mk hd rn : List Int} (h : J3 T X (H.ents.take i) en kn j kk mk hd rn) (hj : ¬ j < en.rs.length) : CI T X (H.ents.take (i + 1)) false false [] mk hd rn ∧ (kn = 0 → kk = (runesF tx).length) := by
  have e : en.rs.take j = en.rs := List.take_of_length_le (by omega)
  have h1 := h.kk
  have h2 := h.ci
  rw [e] at h1 h2
  exact ⟨hC.close _ _ _ h2, fun h0 => by rw [h1 h0, hC.len h0]⟩
theorem Q4.next {T : Nat} {X : List Ce} {es : List Ent} {en : GEn} {kn : Int} {j : Nat} {r : Rg} {q : Int} {kk : Nat} {mk hd rn : List Int} (h : Q4 T X es en kn j r q kk mk hd rn) (hq0 : 0 ≤ q) (hqT : q < T) (hqh : q < r.hi) (hn : q ∉ placesF (en.rs.take j) ++ runQ r.lo q) {kk' : Nat} {mk' hd' rn' : List Int} (hk : kn = 0 → kk' = kk + 1)
    (hm : ((kn == 0) = true ∧ ∃ x, mk[q.toNat]? = some x ∧ mk' = mk.set q.toNat (x + 1)) ∨ ((kn == 0) = false ∧ mk' = mk)) (hh : (((kn == 0) != en.on) = true ∧ ∃ x, hd[q.toNat]? = some x ∧ hd' = hd.set q.toNat (x + 1)) ∨ (((kn == 0) != en.on) = false ∧ hd' = hd))
    (hr : ((kn == 0) = true ∧ ∃ y, (X[q.toNat]?).map (·.1) = some y ∧ rn' = rn.set q.toNat y) ∨ ((kn == 0) = false ∧ rn' = rn)) : Q4 T X es en kn j r (q + 1) kk' mk' hd' rn' := by
  have hlo := h.lo
  refine ⟨by omega, by omega, fun h0 => ?_, ?_⟩
  · rw [hk h0, h.kk h0, runQ_snoc hlo]; simp; omega
  · rw [runQ_snoc hlo, ← List.append_assoc]; exact h.ci.nextI hq0 hqT hn hm hh hr
/-- All counted. -/
theorem CI.all {N : Int} {n : Nat} {H : Hist} {X : List Ce} {nx : List Int} (hV : VI N n H X nx) {T : Nat} (hT : (T : Int) = H.total) {mk hd rn : List Int} (h : CI T X H.ents false false [] mk hd rn) :
    X.length = T ∧ mk.length = T ∧ hd.length = T ∧ rn.length = T ∧ ∀ (q : Nat) (c : Ce), X[q]? = some c → mk[q]? = some 1 ∧ hd[q]? = some c.2 ∧ rn[q]? = some c.1 := by
  have hm := hV.made.mk (by have := hV.le; omega)
  have hr := hV.rule
  have hl := hr.len
  refine ⟨by omega, h.ml, h.hl, h.rl, fun q c hq => ?_⟩
  have hqT : q < T := by
    rcases Nat.lt_or_ge q X.length with h | h
    · omega
    · rw [List.getElem?_eq_none h] at hq; cases hq
  have h1 : gM H.ents q = 1 := hm.one q (by omega) (by omega)
  refine ⟨?_, ?_, ?_⟩
  · rw [h.mm, accL_at hqT, h1]; rfl
  · rw [h.hd, accL_at hqT]
    have := hr.cnt q c hq
    rw [this]; rfl
  · rw [h.rn q hqT (.inl (by omega)), hq]; rfl
end Go.Proofs.YtggdddkbhigjoaaDoor
/- Walks: View.counts. -/
namespace Go.Proofs.YtggdddkbhigjoaaDoor
open Go Go.GW
end Go.Proofs.YtggdddkbhigjoaaDoor
/- Walks: HistoryTurns. -/
namespace Go.Proofs.YtggdddkbhigjoaaDoor
open Go Go.GW
theorem effect_t (h m cap : Nat) (A : Option Addr) (H : Hist) (L : List MR) (hr : HR H L) (i0 i1 : Int) (k : Nat) (hw : whereId H.ents i0 i1 = some k) (hk : k < H.ents.length) (hk4 : H.ents[k].op.kind ≠ 4) (on : Bool) (ho : H.ents[k].off = on) : Sp Tryd.prog 32 [.pointer (some ⟨h, 0, none⟩), .agg #[.int .i64 i0, .int .i64 i1], .bool on] [hdP h A H.ops.length cap m H.total, mpP m L, mkP L] [RdF opD A cap H.ops, AllF L nowF] (fun u Lo fs => ∃ Ae ce, u = .tuple #[opV (turnF H.ents[k] H.ents[k].off) Ae ce, .int .i64 0] ∧ Lo = [hdP h A H.ops.length cap m H.total, mpP m L, mkP L] ∧ fs = [RdF rgD Ae ce (turnF H.ents[k] H.ents[k].off).rs]) := by
  subst ho
  refine (effect_s h m cap A H L hr i0 i1 k hw (fun e he => by rw [List.getElem?_eq_getElem hk] at he; rw [← Option.some.inj he]; exact hk4) _).mono ?_
  rintro u Lo fs ⟨_, Ae, ce, rfl, ⟨_, rfl, rfl⟩ | ⟨h1, _⟩⟩
  · exact ⟨Ae, ce, rfl, rfl, rfl⟩
  · exact absurd rfl h1
theorem effect_f (h m cap : Nat) (A : Option Addr) (H : Hist) (L : List MR) (hr : HR H L) (i0 i1 : Int) (k : Nat) (hw : whereId H.ents i0 i1 = some k) (hk : k < H.ents.length) (hk4 : H.ents[k].op.kind ≠ 4) (on : Bool) (ho : H.ents[k].off ≠ on) : Sp Tryd.prog 32 [.pointer (some ⟨h, 0, none⟩), .agg #[.int .i64 i0, .int .i64 i1], .bool on] [hdP h A H.ops.length cap m H.total, mpP m L, mkP L] [RdF opD A cap H.ops, AllF L nowF] (fun u Lo fs => u = .tuple #[opV zeroOp none 0, .int .i64 62] ∧ Lo = [hdP h A H.ops.length cap m H.total, mpP m L, mkP L] ∧ fs = []) := by
  refine (effect_s h m cap A H L hr i0 i1 k hw (fun e he => by rw [List.getElem?_eq_getElem hk] at he; rw [← Option.some.inj he]; exact hk4) on).mono ?_
  rintro u Lo fs ⟨_, Ae, ce, rfl, ⟨h1, _⟩ | ⟨_, rfl, rfl⟩⟩
  · exact absurd h1 ho
  · exact ⟨rfl, rfl, rfl⟩
theorem turn_kind {e : Ent} {en : GEn} {kn : Int} (hk : e.op.kind = 1 ∨ e.op.kind = 2) (hkn : kn = kindN e.op) (hon : en.on = !e.off) : ((turnF e e.off).kind == 2) = (en.on == (kn == 0)) := by
  rw [hkn, hon]
  unfold turnF kindN
  dsimp only
  rcases hk with hk | hk <;> rw [hk] <;> cases e.off <;> decide
structure TuL (n j : Nat) (e : Ent) (X : List Ce) (kk : Nat) (H1 : Hist) (X1 : List Ce) (nx1 : List Int) (L1 : List MR) (t1 : Tr) : Prop where
  tu : TuI n j e X kk H1 X1 nx1
  hr : HR H1 L1
  wt : Wf t1
  hX : t1.row = X1
theorem bd25_0_1Xw52 (x0_ : Int) (x1_ : Int) (w : World) : (Instr.build 25 #[(0, .int .i64 x0_), (1, .int .i64 x1_)]).run Tryd.prog w = .ok (.agg #[.int .i64 x0_, .int .i64 x1_]) w := by kernel_rfl

set_option maxRecDepth 10000 in
theorem hturns_s (Am : Option Addr) (cm : Nat) (ms : List Mv) (pick : Int) : Sp Tryd.prog 6 [.slice Am ms.length cm, .int .i64 pick] [] [barF, RdF mvD Am cm ms] (Is (.bool true)) := by
  refine Sp.of (n := 290) ⟨_, Tryd.func6, rfl, rfl, rfl, rfl⟩ (Nat.le_of_ble_eq_true rfl) fun Ps As => ?_
  refine WC_seq (WC_region ?_)
  refine Lq (q_assign rfl) ?_
  refine WL_nil (thenN (WC_seq (WC_region ?_)))
  refine Lq (q_move rfl) ?_
  refine WL_main rfl (OW_call0 (fed_s Am cm ms) (.cons rfl (.nil)) (by decide) (memc (.head _) (memc (.tail _ (.head _)) mem0)) fun u1_1 Lo fs hres => ?_)
  obtain ⟨v, h, m, b, n, H, X, nx, rfl, ⟨L, A, cap, B, t, A1, c1, A2, c2, A3, c3, rfl, rfl, hr, wt, hX⟩, hV, hn20⟩ := hres
  have hnl := hV.len
  have hol : H.ops.length = H.ents.length := by simp [Hist.ops]
  have hfo : ∀ y ∈ H.ops, Fit y := fun y hy => by obtain ⟨e, he, rfl⟩ := List.mem_map.1 hy; exact hr.fit e he
  have htt := hV.total
  have hrl := hV.rule.len
  have htl : t.row.length ≤ 1048576 := by rw [hX]; omega
  have hil : (idsOf H.ents).length = H.ents.length := by simp [idsOf]
  have hkl : (kindsOf H.ents).length = H.ents.length := by simp [kindsOf]
  refine Lq (q_move rfl) ?_
  refine Lq (q_extract (vs := [_, _]) rfl rfl) ?_
  refine Lq (q_extract (vs := [_, _]) rfl rfl) ?_
  refine Lq (q_assign rfl) ?_
  refine Lq (q_assign rfl) ?_
  refine WL_nil (thenN (WC_seq (WC_seq (WC_region ?_))))
  refine Lq (q_move rfl) ?_
  refine Lq (q_not rfl) ?_
  refine WL_nil (thenN (WC_false rfl rfl (WC_skip (thenN (WC_seq (WC_region ?_))))))
  refine Lq (q_move rfl) ?_
  refine Lq (q_move rfl) ?_
  refine Lq (q_nil rfl) ?_
  refine Lq (q_field (o' := 2) Tryd.underlying61 rfl ti56 rfl rfl) ?_
  refine Lq (q_load1 Tryd.underlying56 rfl rfl own0 rfl) ?_
  refine Lq (q_len Tryd.underlying56 rfl) ?_
  refine WL_main rfl (OW_call1 (vedits_s v h b H.ents.length A1 c1 A2 c2 A3 c3 nx (idsOf H.ents) (kindsOf H.ents) H.ents.length (by omega) (by omega) (by omega) (by omega)) (.cons rfl (.cons rfl (.nil))) (by decide) (.z) (memc (.tail _ (.tail _ (.tail _ (.head _)))) (memc (.tail _ (.tail _ (.tail _ (.tail _ (.head _))))) mem0)) fun u4_6 Lo fs hres => ?_)
  obtain ⟨A8, c8, rfl, rfl, rfl⟩ := hres
  have hel := editsL_len ((idsOf H.ents).take H.ents.length) ((kindsOf H.ents).take H.ents.length)
  rw [List.length_take] at hel
  obtain ⟨es, hes⟩ : ∃ z, z = editsL ((idsOf H.ents).take H.ents.length) ((kindsOf H.ents).take H.ents.length) := ⟨_, rfl⟩
  rw [← hes] at hel ⊢
  refine Lq (q_assign rfl) ?_
  refine WL_nil (thenN (WC_seq (WC_seq (WC_region ?_))))
  refine Lq (q_move rfl) ?_
  refine Lq (q_len Tryd.underlying56 rfl) ?_
  refine Lq (q_eql rfl rfl) ?_
  refine WL_nil (thenN ?_)
  refine WC_cond rfl (fun h38 => ?_) (fun h38 => ?_)
  · obtain ⟨hn0, hl0, hX0⟩ := no_edits hV (by rw [← hes]; exact List.length_eq_zero_iff.1 (by simpa using h38))
    refine WC_seq (WC_region ?_)
    refine Lq (q_move rfl) ?_
    refine Lq (q_nil rfl) ?_
    refine Lq (q_field (o' := 0) Tryd.underlying61 rfl ti22 rfl rfl) ?_
    refine Lq (q_load1 Tryd.underlying22 rfl rfl own0 rfl) ?_
    refine WL_main rfl (OW_call1 (hlen_s h m H.ops.length cap A H.total) (.cons rfl (.nil)) (by decide) (.s (.z)) mem0 fun u6_4 Lo fs hres => ?_)
    obtain ⟨rfl, rfl, rfl⟩ := hres
    refine Lq (q_eql rfl rfl) ?_
    refine Lq (q_move rfl) ?_
    refine Lg rfl rfl rfl (by simp only [beq_iff_eq]; omega) (q_move rfl) ?_
    refine Lg rfl rfl rfl (by simp only [beq_iff_eq]; omega) (q_nil rfl) ?_
    refine Lg rfl rfl rfl (by simp only [beq_iff_eq]; omega) (q_field (o' := 1) Tryd.underlying61 rfl ti55 rfl rfl) ?_
    refine Lg rfl rfl rfl (by simp only [beq_iff_eq]; omega) (q_load1 Tryd.underlying55 rfl rfl (ownS (own0)) rfl) ?_
    refine WL_gmain rfl rfl rfl (by simp only [beq_iff_eq]; omega) (OW_call1 (rtotal_s b B t wt) (.cons rfl (.nil)) (by decide) (.s (.s (.s (.s (.z))))) (memc (.tail _ (.tail _ (.tail _ (.head _)))) mem0) fun u6_11 Lo fs hres => ?_)
    obtain ⟨rfl, rfl, rfl⟩ := hres
    refine Lg rfl rfl rfl (by simp only [beq_iff_eq]; omega) (q_eql rfl rfl) ?_
    refine Lq (q_pickT rfl (by simp only [beq_iff_eq]; omega) rfl) ?_
    refine Lq (q_assign rfl) ?_
    refine WL_nil (thenN (WC_ret (thenRet ?_)))
    refine ⟨_, [], [], fun Z w hs => .tmp rfl (.nil), ?_, fun Z w hs => hs.out (List.Sublist.cons _ (List.Sublist.cons _ (List.Sublist.cons _ (List.Sublist.cons _ (List.Sublist.cons _ (List.Sublist.refl _)))))) (fun _ h => .tail _ (.tail _ (.tail _ (.tail _ (.tail _ (.tail _ (.tail _ h)))))))⟩
    refine ⟨congrArg Value.bool ?_, rfl, rfl⟩
    first | (rw [hX]; done) | (rw [hX]; simp only [beq_iff_eq]; omega)
  · have hE0 : 0 < es.length := by
      have : es.length ≠ 0 := by simpa using h38
      omega
    refine WC_skip (thenN (WC_seq (WC_region ?_)))
    refine Lq (q_move rfl) ?_
    refine Lq (q_move rfl) ?_
    refine Lq (q_move rfl) ?_
    refine Lq (q_len Tryd.underlying56 rfl) ?_
    refine WL_main rfl (OW_call0 (rest_r pick es.length (by omega)) (.cons rfl (.cons rfl (.nil))) (by decide) mem0 fun u7_4 Lo fs hres => ?_)
    obtain ⟨r57, hr57, hm57, rfl, rfl, rfl⟩ := hres
    have hmem : ∀ y ∈ es, y ∈ editsL ((idsOf H.ents).take H.ents.length) ((kindsOf H.ents).take H.ents.length) := fun y hy => by rw [← hes]; exact hy
    obtain ⟨j, hj, hji, hjc, hjn, hjk⟩ := edits_target (hmem _ (List.getElem_mem hm57))
    have hEj : es[r57]? = some (H.ents[j].op.c, H.ents[j].op.n) := by rw [List.getElem?_eq_getElem hm57, hjc, hjn]
    have hw := whereId_of hV.hv.ids hj
    have hidj : (idsOf H.ents)[j]? = some (H.ents[j].op.c, H.ents[j].op.n) := by unfold idsOf; rw [List.getElem?_map, List.getElem?_eq_getElem hj]; rfl
    have hknj : (kindsOf H.ents)[j]? = some (kindN H.ents[j].op) := by unfold kindsOf; rw [List.getElem?_map, List.getElem?_eq_getElem hj]; rfl
    have hjm := List.getElem_mem hj
    have hpl : Pls X.length H.ents[j].now := by rw [hrl]; exact hV.hv.pls _ hjm
    have hne : H.ents[j].now ≠ [] := fun e => hjk ((hV.hv.edit _ hjm).2 e)
    have hkk12 : H.ents[j].op.kind = 1 ∨ H.ents[j].op.kind = 2 := by have := hV.hv.kinds hjm; omega
    refine WL_elem (k := r57) (.head _) hEj (id_open _) fun bE qE yE eE => ?_
    cases eE
    refine Lq (q_idxRd Tryd.underlying56 ti25 rfl rfl (by omega) (by omega)) ?_
    refine Lq (q_loadFN (k := 0) (vs := [_, _]) Tryd.underlying25 rfl ti25 rfl (.head _) rfl rfl rfl) ?_
    refine WL_main rfl (OW_alloc (cs := [_, _]) ti25 rfl (by decide) fun b8 => ?_)
    refine WL_main rfl (OW_storeN (cs' := [_, _]) (vs := [_, _]) ti25 rfl rfl rfl rfl rfl (Nat.le_of_ble_eq_true rfl) (.z) ?_)
    refine WL_nil (thenN (WC_seq ?_))
    refine WC_draw _ _ [] (.c 0 0 (.c 1 0 (.c 2 0 (.c 3 0 (.c 4 0 (.c 5 2 (.c 6 0 (.c 7 0 (.c 8 0 (.c 9 0 (.c 10 0 .nil))))))))))) mixed (fun _ _ _ _ h => h) (List.Sublist.cons_cons _ (List.Sublist.cons_cons _ (List.Sublist.cons _ (List.Sublist.cons _ (List.Sublist.cons _ (List.Sublist.cons_cons _ (List.Sublist.refl _))))))) (fun _ h => h) (by kernel_rfl) (by decide) fun ws Z0 => ?_
    refine Qe rfl (q_move rfl) ?_
    refine Qe rfl (q_nil rfl) ?_
    refine Qe rfl (q_field (o' := 0) Tryd.underlying61 rfl ti22 rfl rfl) ?_
    refine Qe rfl (q_load1 Tryd.underlying22 rfl rfl (ownS (own0)) rfl) ?_
    refine Qe rfl (q_loadN (vs := [_, _]) Tryd.underlying25 rfl ti25 rfl own0 rfl rfl) ?_
    refine WE_main rfl rfl (OW_call3 (find_s h m cap A H L hr H.ents[j].op.c H.ents[j].op.n j hw) (.cons rfl (.cons rfl (.nil))) (by decide) (.s (.s (.z))) (.s (.s (.z))) (.s (.s (.z))) mem0 fun u8_5 Lo fs hres => ?_)
    obtain ⟨rfl, rfl, rfl⟩ := hres
    refine ⟨⟨(List.Sublist.cons _ (List.Sublist.cons _ (List.Sublist.cons _ (List.Sublist.cons_cons _ (List.Sublist.cons_cons _ (List.Sublist.cons_cons _ (List.Sublist.refl _))))))), (.head _)⟩, ?_⟩
    refine Qe rfl (q_move rfl) ?_
    refine Qe rfl (q_extract (vs := [_, _]) rfl rfl) ?_
    refine Qe rfl (q_extract (vs := [_, _]) rfl rfl) ?_
    refine Qe rfl (q_assign rfl) ?_
    refine Qe rfl (q_assign rfl) ?_
    refine WE_end (WF_nil ?_)
    refine thenN (WC_seq (WC_seq ?_))
    refine WC_elem (k := j) (.tail _ (.tail _ (.tail _ (.tail _ (.tail _ (.tail _ (.head _))))))) hidj (id_open _) fun bi qi yi ei => ?_
    cases ei
    refine WC_draw _ _ [] (.c 0 0 (.c 1 0 (.c 2 0 (.c 3 0 (.c 4 0 (.c 5 0 (.c 6 0 (.c 7 0 (.c 8 0 (.c 9 0 (.c 10 0 (.c 11 0 (.c 12 0 (.c 13 0 (.c 14 0 (.c 15 0 (.c 16 0 (.c 17 0 (.c 18 0 (.c 19 0 (.c 20 0 (.c 21 0 (.c 22 0 (.c 23 0 (.c 24 0 (.c 25 0 .nil)))))))))))))))))))))))))) mixed (fun _ _ _ _ h => h) (List.Sublist.cons_cons _ (List.Sublist.cons_cons _ (List.Sublist.cons_cons _ (List.Sublist.cons_cons _ (List.Sublist.cons_cons _ (List.Sublist.cons_cons _ (List.Sublist.refl _))))))) (fun _ h => h) (by kernel_rfl) (by decide) fun ws Z0 => ?_
    refine Qe rfl (q_move rfl) ?_
    refine Qe rfl (q_neq rfl rfl) ?_
    refine Qe rfl (q_move rfl) ?_
    refine WE_gq rfl rfl rfl rfl rfl (q_move rfl) (by decide) ?_
    refine WE_gq rfl rfl rfl rfl rfl (q_lss rfl rfl) (by decide) ?_
    refine Qe rfl (q_pickF rfl rfl rfl) ?_
    refine Qe rfl (q_move rfl) ?_
    refine WE_gq rfl rfl rfl rfl (decide_eq_false (by omega)) (q_move rfl) (by decide) ?_
    refine WE_gq rfl rfl rfl rfl (decide_eq_false (by omega)) (q_move rfl) (by decide) ?_
    refine WE_gq rfl rfl rfl rfl (decide_eq_false (by omega)) (q_nil rfl) (by decide) ?_
    refine WE_gq rfl rfl rfl rfl (decide_eq_false (by omega)) (q_field (o' := 2) Tryd.underlying61 rfl ti56 rfl rfl) (by decide) ?_
    refine WE_gq rfl rfl rfl rfl (decide_eq_false (by omega)) (q_load1 Tryd.underlying56 rfl rfl (ownS (ownS (ownS (ownS (own0))))) rfl) (by decide) ?_
    refine WE_gq rfl rfl rfl rfl (decide_eq_false (by omega)) (q_len Tryd.underlying56 rfl) (by decide) ?_
    refine WE_gq rfl rfl rfl rfl (decide_eq_false (by omega)) (q_geq rfl rfl) (by decide) ?_
    refine Qe rfl (q_pickF rfl (decide_eq_false (by omega)) rfl) ?_
    refine Qe rfl (q_move rfl) ?_
    refine WE_gq rfl rfl rfl rfl (decide_eq_false (by omega)) (q_move rfl) (by decide) ?_
    refine WE_gq rfl rfl rfl rfl (decide_eq_false (by omega)) (q_nil rfl) (by decide) ?_
    refine WE_gq rfl rfl rfl rfl (decide_eq_false (by omega)) (q_field (o' := 2) Tryd.underlying61 rfl ti56 rfl rfl) (by decide) ?_
    refine WE_gq rfl rfl rfl rfl (decide_eq_false (by omega)) (q_load1 Tryd.underlying56 rfl rfl (ownS (ownS (ownS (ownS (own0))))) rfl) (by decide) ?_
    refine WE_gq rfl rfl rfl rfl (decide_eq_false (by omega)) (q_move rfl) (by decide) ?_
    refine WE_gq rfl rfl rfl rfl (decide_eq_false (by omega)) (q_idxRd Tryd.underlying56 ti25 rfl rfl (by omega) (by omega)) (by decide) ?_
    refine WE_gq rfl rfl rfl rfl (decide_eq_false (by omega)) (q_loadFN (k := 0) (vs := [_, _]) Tryd.underlying25 rfl ti25 rfl (.head _) rfl rfl rfl) (by decide) ?_
    refine WE_gq rfl rfl rfl rfl (decide_eq_false (by omega)) (q_loadN (vs := [_, _]) Tryd.underlying25 rfl ti25 rfl (ownS (ownS (ownS (own0)))) rfl rfl) (by decide) ?_
    refine WE_gq rfl rfl rfl rfl (decide_eq_false (by omega)) (q_aggneq rfl rfl (eq25 _ _ _ _)) (by decide) ?_
    refine Qe rfl (q_pickF rfl (decide_eq_false (by omega)) rfl) ?_
    refine WE_end (WF_nil ?_)
    refine thenN ?_
    refine WC_false rfl (by simp) ?_
    refine WC_skip (thenN (WC_seq (WC_region ?_)))
    refine Lq (q_move rfl) ?_
    refine Lq (q_nil rfl) ?_
    refine Lq (q_field (o' := 0) Tryd.underlying61 rfl ti22 rfl rfl) ?_
    refine Lq (q_load1 Tryd.underlying22 rfl rfl (ownS (ownS (ownS (ownS (own0))))) rfl) ?_
    refine Lq (q_move rfl) ?_
    refine WL_main rfl (OW_call3 (entry_s h m cap A H L hr j) (.cons rfl (.cons rfl (.nil))) (by decide) (.z) (.z) (.z) (memc (.tail _ (.tail _ (.tail _ (.tail _ (.tail _ (.head _)))))) (memc (.tail _ (.tail _ (.tail _ (.tail _ (.tail _ (.tail _ (.head _))))))) mem0)) fun u11_5 Lo fs hres => ?_)
    obtain ⟨Ae, ce, rfl, rfl, rfl⟩ := hres
    rw [entryF_at hj]
    dsimp only
    have hon : (entE H.ents[j]).on = !H.ents[j].off := by unfold entE; rw [if_neg hjk]
    have hers : (entE H.ents[j]).rs = H.ents[j].now := entE_rs hV.hv hjm
    obtain ⟨en, hen⟩ : ∃ z, z = entE H.ents[j] := ⟨_, rfl⟩
    rw [← hen] at hon hers ⊢
    refine Lq (q_move rfl) ?_
    refine Lq (q_extract (vs := [_, _]) rfl rfl) ?_
    refine Lq (q_extract (vs := [_, _]) rfl rfl) ?_
    refine WL_main rfl (OW_alloc (cs := [_, _, _, _, _, _, _]) ti42 rfl (by decide) fun b11 => ?_)
    refine WL_main rfl (OW_storeN (cs' := [_, _, _, _, _, _, _]) (vs := [_, _, _, _, _, _, _]) ti42 rfl rfl rfl rfl rfl (Nat.le_of_ble_eq_true rfl) (.z) ?_)
    refine Lq (q_assign rfl) ?_
    refine WL_nil (thenN (WC_seq (WC_region ?_)))
    refine Lq (q_move rfl) ?_
    refine Lq (q_nil rfl) ?_
    refine Lq (q_field (o' := 1) Tryd.underlying61 rfl ti55 rfl rfl) ?_
    refine Lq (q_load1 Tryd.underlying55 rfl rfl (ownS (ownS (ownS (ownS (ownS (own0)))))) rfl) ?_
    refine WL_main rfl (OW_call1 (runs_s b B t wt (by omega)) (.cons rfl (.nil)) (by decide) (.s (.s (.s (.s (.s (.s (.z))))))) (memc (.tail _ (.tail _ (.tail _ (.tail _ (.tail _ (.tail _ (.tail _ (.tail _ (.head _))))))))) mem0) fun u12_4 Lo fs hres => ?_)
    obtain ⟨Ar, cr, rfl, rfl, rfl⟩ := hres
    have hrn := (rowF_ok t.row).flush.2
    obtain ⟨xo, hxo⟩ : ∃ z, z = turnF H.ents[j] H.ents[j].off := ⟨_, rfl⟩
    have hxrs : xo.rs = en.rs := by rw [hxo, hers]; rfl
    have hxl : 0 < xo.rs.length := by rw [hxrs, hers]; exact List.length_pos_iff.2 hne
    have hxk : xo.kind = 2 ∨ xo.kind = 3 := by rw [hxo]; exact turnF_k _ _
    have hxl2 := hpl.len (by omega)
    have hxl3 : xo.rs.length = H.ents[j].now.length := by rw [hxrs, hers]
    have hkk : (xo.kind == 2) = (en.on == (kindN H.ents[j].op == 0)) := by rw [hxo]; exact turn_kind hkk12 rfl hon
    refine Lq (q_assign rfl) ?_
    refine WL_nil (thenN ?_)
    refine WC_meet (α := Option Addr × Nat × Nat)
      (fun (Ax, cx, b13) => [(5, .pointer (some ⟨v, 0, none⟩)), (8, .pointer (some ⟨b8, 0, none⟩)), (9, .int .i64 j), (11, .pointer (some ⟨b11, 0, none⟩)), (12, .slice Ar (runsF t.row).length cr), (13, .pointer (some ⟨b13, 0, none⟩)), (10, .int .i64 0), (14, .int .i64 0)])
      (fun (Ax, cx, b13) => ([(b13, cellsO (opC xo Ax cx) 31)] :: [(b11, cellsO (enC en Ae ce) 42)] :: [(b8, cellsO (idC (H.ents[j].op.c, H.ents[j].op.n)) 25)] :: vwP v h b (some ⟨bi, qi, none⟩) H.ents.length c1 A2 c2 A3 c3 nx :: hdP h A H.ops.length cap m H.total :: mpP m L :: mkP L :: rpP b B :: Ps))
      (fun (Ax, cx, b13) => (RdF opD A cap H.ops :: AllF L nowF :: TrF B t :: RdF idD (some ⟨bi, qi, none⟩) c1 (idsOf H.ents) :: RdF (De.int .i64) A2 c2 (kindsOf H.ents) :: RdF De.str A3 c3 (textsOf H.ents) :: RdF rgD Ax cx xo.rs :: RdF rgD Ae ce en.rs :: RdF runD Ar cr (runsF t.row) :: barF :: RdF mvD Am cm ms :: As))
      (fun (Ax, cx, b13) => (0 : Nat) = 0) ?_ ?_
    · refine WC_draw _ _ [13] (.c 0 0 (.c 1 0 (.c 2 0 (.c 3 0 (.c 4 0 (.c 5 0 (.c 6 0 (.c 7 0 (.b (.c 8 2 (.c 9 0 (.c 10 0 (.c 11 1 (.c 12 2 (.c 13 3 (.c 14 1 .nil))))))) (.c 12 2 (.c 8 2 (.c 9 0 (.c 10 0 (.c 11 1 (.c 13 3 (.c 14 1 .nil)))))))))))))))) mixed (fun _ _ _ _ h => h) (List.Sublist.cons_cons _ (List.Sublist.cons_cons _ (List.Sublist.cons _ (List.Sublist.cons _ (List.Sublist.cons _ (List.Sublist.cons_cons _ (List.Sublist.cons_cons _ (List.Sublist.refl _)))))))) (fun _ h => h) (by kernel_rfl) (by decide) fun ws Z0 => ?_
      refine Qe rfl (q_move rfl) ?_
      refine Qe rfl (q_nil rfl) ?_
      refine Qe rfl (q_field (o' := 0) Tryd.underlying61 rfl ti22 rfl rfl) ?_
      refine Qe rfl (q_load1 Tryd.underlying22 rfl rfl (ownS (ownS (ownS (own0)))) rfl) ?_
      refine Qe rfl (q_loadN (vs := [_, _]) Tryd.underlying25 rfl ti25 rfl (ownS (ownS (own0))) rfl rfl) ?_
      refine Qe rfl (q_field (o' := 3) Tryd.underlying42 rfl ti4 rfl rfl) ?_
      refine Qe rfl (q_load1 Tryd.underlying4 rfl rfl (ownS (own0)) rfl) ?_
      refine Qe rfl (q_not rfl) ?_
      refine WE_both ?_ ?_
      · refine WE_main rfl rfl (OW_call3 (effect_t h m cap A H L hr H.ents[j].op.c H.ents[j].op.n j hw hj hjk (!en.on) (by rw [hon]; simp)) (.cons rfl (.cons rfl (.cons rfl (.nil)))) (by decide) (.s (.s (.z))) (.s (.s (.z))) (.s (.s (.z))) (memc (.tail _ (.tail _ (.tail _ (.tail _ (.tail _ (.tail _ (.tail _ (.tail _ (.head _))))))))) (memc (.tail _ (.tail _ (.tail _ (.tail _ (.tail _ (.tail _ (.tail _ (.tail _ (.tail _ (.head _)))))))))) mem0)) fun u13_8 Lo fs hres => ?_)
        obtain ⟨Ax, cx, rfl, rfl, rfl⟩ := hres
        rw [← hxo]
        refine ⟨⟨(List.Sublist.cons _ (List.Sublist.cons _ (List.Sublist.cons _ (List.Sublist.cons_cons _ (List.Sublist.cons_cons _ (List.Sublist.cons_cons _ (List.Sublist.cons_cons _ (List.Sublist.refl _)))))))), (.tail _ (.head _))⟩, ?_⟩
        refine Qe rfl (q_move rfl) ?_
        refine Qe rfl (q_extract (vs := [_, _]) rfl rfl) ?_
        refine WE_p rfl (q_extract (vs := [_, _]) rfl rfl) (by decide) ?_
        refine WE_main rfl rfl (OW_alloc (cs := [_, _, _, _, _, _, _, _, _]) ti31 rfl (by decide) fun b13 => ?_)
        refine ⟨⟨(List.Sublist.cons _ (List.Sublist.cons _ (List.Sublist.cons _ (List.Sublist.cons _ (List.Sublist.cons_cons _ (List.Sublist.cons_cons _ (List.Sublist.cons_cons _ (List.Sublist.cons_cons _ (List.Sublist.refl _))))))))), (.tail _ (.head _))⟩, ?_⟩
        refine WE_end (WF_last rfl rfl (OW_storeN (cs' := [_, _, _, _, _, _, _, _, _]) (vs := [_, _, _, _, _, _, _, _, _]) ti31 rfl rfl rfl rfl rfl (Nat.le_of_ble_eq_true rfl) (.z) ?_))
        refine WF_p rfl (q_assign rfl) (by decide) ?_
        refine WF_pick (.s (.s (.s (.s (.z))))) ?_
        refine WF_pick (.s (.s (.s (.s (.z))))) ?_
        refine WF_pick (.s (.s (.s (.s (.z))))) ?_
        refine WF_pick (.s (.s (.s (.s (.z))))) ?_
        refine WF_pick (.s (.s (.s (.s (.s (.s (.s (.z)))))))) ?_
        refine WF_pick (.s (.s (.s (.s (.s (.s (.s (.z)))))))) ?_
        refine WF_pick (.s (.s (.s (.s (.s (.s (.s (.z)))))))) ?_
        refine WF_pick (.s (.s (.s (.s (.s (.s (.s (.z)))))))) ?_
        refine WF_nil ?_
        refine thenK ?_
        refine ⟨(Ax, cx, b13), ?_, (.cons rfl (.cons rfl (.cons rfl (.cons rfl (.cons rfl (.cons rfl (.cons rfl (.cons rfl (.nil _))))))))), (List.Sublist.cons_cons _ (List.Sublist.cons_cons _ (List.Sublist.cons_cons _ (List.Sublist.cons_cons _ (List.Sublist.cons_cons _ (List.Sublist.cons_cons _ (List.Sublist.cons_cons _ (List.Sublist.cons_cons _ (List.Sublist.refl _))))))))), (memc (.tail _ (.tail _ (.tail _ (.tail _ (.tail _ (.tail _ (.tail _ (.tail _ (.tail _ (.head _)))))))))) (memc (.tail _ (.tail _ (.tail _ (.tail _ (.tail _ (.tail _ (.tail _ (.tail _ (.tail _ (.tail _ (.head _))))))))))) (memc (.tail _ (.tail _ (.tail _ (.tail _ (.tail _ (.tail _ (.tail _ (.tail _ (.tail _ (.tail _ (.tail _ (.head _)))))))))))) (memc (.tail _ (.tail _ (.tail _ (.tail _ (.tail _ (.tail _ (.tail _ (.tail _ (.tail _ (.tail _ (.tail _ (.tail _ (.head _))))))))))))) (memc (.tail _ (.tail _ (.tail _ (.tail _ (.tail _ (.tail _ (.tail _ (.tail _ (.tail _ (.tail _ (.tail _ (.tail _ (.tail _ (.head _)))))))))))))) (memc (.tail _ (.tail _ (.tail _ (.tail _ (.tail _ (.tail _ (.tail _ (.tail _ (.tail _ (.tail _ (.tail _ (.tail _ (.tail _ (.tail _ (.head _))))))))))))))) (memc (.head _) (memc (.tail _ (.tail _ (.tail _ (.head _)))) (memc (.tail _ (.tail _ (.head _))) (fun _ h => .tail _ (.tail _ (.tail _ (.tail _ (.tail _ (.tail _ (.tail _ (.tail _ (.tail _ (.tail _ (.tail _ (.tail _ (.tail _ (.tail _ (.tail _ h))))))))))))))))))))))))⟩
        exact rfl
      · refine WE_main rfl rfl (OW_alloc (cs := [_, _, _, _, _, _, _, _, _]) ti31 rfl (by decide) fun b13 => ?_)
        refine ⟨⟨(List.Sublist.cons _ (List.Sublist.cons_cons _ (List.Sublist.cons_cons _ (List.Sublist.cons _ (List.Sublist.cons _ (List.Sublist.cons _ (List.Sublist.cons_cons _ (List.Sublist.cons_cons _ (List.Sublist.refl _))))))))), (.head _)⟩, ?_⟩
        refine WE_main rfl rfl (OW_call3 (effect_t h m cap A H L hr H.ents[j].op.c H.ents[j].op.n j hw hj hjk (!en.on) (by rw [hon]; simp)) (.cons rfl (.cons rfl (.cons rfl (.nil)))) (by decide) (.s (.s (.s (.z)))) (.s (.s (.s (.z)))) (.s (.s (.s (.z)))) (memc (.tail _ (.tail _ (.tail _ (.tail _ (.tail _ (.tail _ (.tail _ (.tail _ (.head _))))))))) (memc (.tail _ (.tail _ (.tail _ (.tail _ (.tail _ (.tail _ (.tail _ (.tail _ (.tail _ (.head _)))))))))) mem0)) fun u13_8 Lo fs hres => ?_)
        obtain ⟨Ax, cx, rfl, rfl, rfl⟩ := hres
        rw [← hxo]
        refine ⟨⟨(List.Sublist.cons _ (List.Sublist.cons _ (List.Sublist.cons _ (List.Sublist.cons _ (List.Sublist.cons_cons _ (List.Sublist.cons_cons _ (List.Sublist.cons_cons _ (List.Sublist.cons_cons _ (List.Sublist.refl _))))))))), (.tail _ (.head _))⟩, ?_⟩
        refine Qe rfl (q_move rfl) ?_
        refine Qe rfl (q_extract (vs := [_, _]) rfl rfl) ?_
        refine WE_p rfl (q_extract (vs := [_, _]) rfl rfl) (by decide) ?_
        refine WE_end (WF_last rfl rfl (OW_storeN (cs' := [_, _, _, _, _, _, _, _, _]) (vs := [_, _, _, _, _, _, _, _, _]) ti31 rfl rfl rfl rfl rfl (Nat.le_of_ble_eq_true rfl) (.s (.s (.s (.z)))) ?_))
        refine WF_p rfl (q_assign rfl) (by decide) ?_
        refine WF_pick (.s (.s (.s (.s (.z))))) ?_
        refine WF_pick (.s (.s (.s (.z)))) ?_
        refine WF_pick (.s (.s (.s (.z)))) ?_
        refine WF_pick (.s (.s (.s (.z)))) ?_
        refine WF_pick (.s (.s (.s (.s (.s (.s (.s (.z)))))))) ?_
        refine WF_pick (.s (.s (.s (.s (.s (.s (.s (.z)))))))) ?_
        refine WF_pick (.s (.s (.s (.s (.s (.s (.s (.z)))))))) ?_
        refine WF_pick (.s (.s (.s (.s (.s (.s (.s (.z)))))))) ?_
        refine WF_nil ?_
        refine thenK ?_
        refine ⟨(Ax, cx, b13), ?_, (.cons rfl (.cons rfl (.cons rfl (.cons rfl (.cons rfl (.cons rfl (.cons rfl (.cons rfl (.nil _))))))))), (List.Sublist.cons_cons _ (List.Sublist.cons_cons _ (List.Sublist.cons_cons _ (List.Sublist.cons_cons _ (List.Sublist.cons_cons _ (List.Sublist.cons_cons _ (List.Sublist.cons_cons _ (List.Sublist.cons_cons _ (List.Sublist.refl _))))))))), (memc (.tail _ (.tail _ (.tail _ (.tail _ (.tail _ (.tail _ (.tail _ (.tail _ (.tail _ (.head _)))))))))) (memc (.tail _ (.tail _ (.tail _ (.tail _ (.tail _ (.tail _ (.tail _ (.tail _ (.tail _ (.tail _ (.head _))))))))))) (memc (.tail _ (.tail _ (.tail _ (.tail _ (.tail _ (.tail _ (.tail _ (.tail _ (.tail _ (.tail _ (.tail _ (.head _)))))))))))) (memc (.tail _ (.tail _ (.tail _ (.tail _ (.tail _ (.tail _ (.tail _ (.tail _ (.tail _ (.tail _ (.tail _ (.tail _ (.head _))))))))))))) (memc (.tail _ (.tail _ (.tail _ (.tail _ (.tail _ (.tail _ (.tail _ (.tail _ (.tail _ (.tail _ (.tail _ (.tail _ (.tail _ (.head _)))))))))))))) (memc (.tail _ (.tail _ (.tail _ (.tail _ (.tail _ (.tail _ (.tail _ (.tail _ (.tail _ (.tail _ (.tail _ (.tail _ (.tail _ (.tail _ (.head _))))))))))))))) (memc (.head _) (memc (.tail _ (.tail _ (.tail _ (.head _)))) (memc (.tail _ (.tail _ (.head _))) (fun _ h => .tail _ (.tail _ (.tail _ (.tail _ (.tail _ (.tail _ (.tail _ (.tail _ (.tail _ (.tail _ (.tail _ (.tail _ (.tail _ (.tail _ (.tail _ h))))))))))))))))))))))))⟩
        exact rfl
    · rintro ⟨Ax, cx, b13⟩ hz0
      refine WC_meet (α := Nat)
        (fun z => [(5, .pointer (some ⟨v, 0, none⟩)), (8, .pointer (some ⟨b8, 0, none⟩)), (9, .int .i64 j), (11, .pointer (some ⟨b11, 0, none⟩)), (12, .slice Ar (runsF t.row).length cr), (13, .pointer (some ⟨b13, 0, none⟩)), (10, .int .i64 0), (14, .int .i64 0), (16, .int .i64 62)])
        (fun z => ([(b13, cellsO (opC xo Ax cx) 31)] :: [(b11, cellsO (enC en Ae ce) 42)] :: [(b8, cellsO (idC (H.ents[j].op.c, H.ents[j].op.n)) 25)] :: vwP v h b (some ⟨bi, qi, none⟩) H.ents.length c1 A2 c2 A3 c3 nx :: hdP h A H.ops.length cap m H.total :: mpP m L :: mkP L :: rpP b B :: Ps))
        (fun z => (RdF opD A cap H.ops :: AllF L nowF :: TrF B t :: RdF idD (some ⟨bi, qi, none⟩) c1 (idsOf H.ents) :: RdF (De.int .i64) A2 c2 (kindsOf H.ents) :: RdF De.str A3 c3 (textsOf H.ents) :: RdF rgD Ax cx xo.rs :: RdF rgD Ae ce en.rs :: RdF runD Ar cr (runsF t.row) :: barF :: RdF mvD Am cm ms :: As))
        (fun z => z = 0) ?_ ?_
      · refine WC_draw _ _ [12] (.c 0 0 (.c 1 0 (.c 2 0 (.c 3 0 (.c 4 0 (.c 5 0 (.c 6 0 (.b (.c 7 2 (.c 8 0 (.c 9 0 (.c 10 1 (.c 11 2 (.c 12 3 (.c 13 1 .nil))))))) (.c 11 2 (.c 7 2 (.c 8 0 (.c 9 0 (.c 10 1 (.c 12 3 (.c 13 1 .nil))))))))))))))) mixed (fun _ _ _ _ h => h) (List.Sublist.cons_cons _ (List.Sublist.cons_cons _ (List.Sublist.cons_cons _ (List.Sublist.cons_cons _ (List.Sublist.cons _ (List.Sublist.cons _ (List.Sublist.cons _ (List.Sublist.cons_cons _ (List.Sublist.refl _))))))))) (fun _ h => h) (by kernel_rfl) (by decide) fun ws Z0 => ?_
        refine Qe rfl (q_move rfl) ?_
        refine Qe rfl (q_nil rfl) ?_
        refine Qe rfl (q_field (o' := 0) Tryd.underlying61 rfl ti22 rfl rfl) ?_
        refine Qe rfl (q_load1 Tryd.underlying22 rfl rfl (ownS (ownS (ownS (own0)))) rfl) ?_
        refine Qe rfl (q_loadN (vs := [_, _]) Tryd.underlying25 rfl ti25 rfl (ownS (ownS (own0))) rfl rfl) ?_
        refine Qe rfl (q_field (o' := 3) Tryd.underlying42 rfl ti4 rfl rfl) ?_
        refine Qe rfl (q_load1 Tryd.underlying4 rfl rfl (ownS (own0)) rfl) ?_
        refine WE_both ?_ ?_
        · refine WE_main rfl rfl (OW_call3 (effect_f h m cap A H L hr H.ents[j].op.c H.ents[j].op.n j hw hj hjk en.on (by rw [hon]; cases H.ents[j].off <;> decide)) (.cons rfl (.cons rfl (.cons rfl (.nil)))) (by decide) (.s (.s (.s (.s (.z))))) (.s (.s (.s (.s (.z))))) (.s (.s (.s (.s (.z))))) (memc (.tail _ (.head _)) (memc (.tail _ (.tail _ (.head _))) mem0)) fun u14_7 Lo fs hres => ?_)
          obtain ⟨rfl, rfl, rfl⟩ := hres
          refine ⟨⟨(List.Sublist.cons _ (List.Sublist.cons _ (List.Sublist.cons _ (List.Sublist.cons_cons _ (List.Sublist.cons_cons _ (List.Sublist.cons_cons _ (List.Sublist.cons_cons _ (List.Sublist.cons_cons _ (List.Sublist.refl _))))))))), (.head _)⟩, ?_⟩
          refine Qe rfl (q_move rfl) ?_
          refine Qe rfl (q_extract (vs := [_, _]) rfl rfl) ?_
          refine WE_p rfl (q_extract (vs := [_, _]) rfl rfl) (by decide) ?_
          refine WE_main rfl rfl (OW_alloc (cs := [_, _, _, _, _, _, _, _, _]) ti31 rfl (by decide) fun b15 => ?_)
          refine ⟨⟨(List.Sublist.cons _ (List.Sublist.cons _ (List.Sublist.cons _ (List.Sublist.cons _ (List.Sublist.cons_cons _ (List.Sublist.cons_cons _ (List.Sublist.cons_cons _ (List.Sublist.cons_cons _ (List.Sublist.cons_cons _ (List.Sublist.refl _)))))))))), (.head _)⟩, ?_⟩
          refine WE_end (WF_last rfl rfl (OW_storeN (cs' := [_, _, _, _, _, _, _, _, _]) (vs := [_, _, _, _, _, _, _, _, _]) ti31 rfl rfl rfl rfl rfl (Nat.le_of_ble_eq_true rfl) (.z) ?_))
          refine WF_p rfl (q_assign rfl) (by decide) ?_
          refine WF_pick (.s (.s (.s (.s (.s (.s (.s (.s (.z))))))))) ?_
          refine WF_pick (.s (.s (.s (.s (.z))))) ?_
          refine WF_pick (.s (.s (.s (.s (.z))))) ?_
          refine WF_pick (.s (.s (.s (.s (.z))))) ?_
          refine WF_pick (.s (.s (.s (.s (.s (.s (.s (.s (.z))))))))) ?_
          refine WF_pick (.s (.s (.s (.s (.s (.s (.s (.s (.z))))))))) ?_
          refine WF_pick (.s (.s (.s (.s (.s (.s (.s (.s (.z))))))))) ?_
          refine WF_pick (.s (.s (.s (.s (.s (.s (.s (.s (.z))))))))) ?_
          refine WF_nil ?_
          refine thenK ?_
          refine ⟨0, ?_, (.cons rfl (.cons rfl (.cons rfl (.cons rfl (.cons rfl (.cons rfl (.cons rfl (.cons rfl (.cons rfl (.nil _)))))))))), (List.Sublist.cons_cons _ (List.Sublist.cons_cons _ (List.Sublist.cons_cons _ (List.Sublist.cons_cons _ (List.Sublist.cons_cons _ (List.Sublist.cons_cons _ (List.Sublist.cons_cons _ (List.Sublist.cons_cons _ (List.Sublist.cons _ (List.Sublist.refl _)))))))))), (fun _ h => .tail _ h)⟩
          exact rfl
        · refine WE_main rfl rfl (OW_alloc (cs := [_, _, _, _, _, _, _, _, _]) ti31 rfl (by decide) fun b15 => ?_)
          refine ⟨⟨(List.Sublist.cons _ (List.Sublist.cons_cons _ (List.Sublist.cons_cons _ (List.Sublist.cons_cons _ (List.Sublist.cons_cons _ (List.Sublist.cons _ (List.Sublist.cons _ (List.Sublist.cons _ (List.Sublist.cons_cons _ (List.Sublist.refl _)))))))))), (.head _)⟩, ?_⟩
          refine WE_main rfl rfl (OW_call3 (effect_f h m cap A H L hr H.ents[j].op.c H.ents[j].op.n j hw hj hjk en.on (by rw [hon]; cases H.ents[j].off <;> decide)) (.cons rfl (.cons rfl (.cons rfl (.nil)))) (by decide) (.s (.s (.s (.s (.s (.z)))))) (.s (.s (.s (.s (.s (.z)))))) (.s (.s (.s (.s (.s (.z)))))) (memc (.tail _ (.head _)) (memc (.tail _ (.tail _ (.head _))) mem0)) fun u14_7 Lo fs hres => ?_)
          obtain ⟨rfl, rfl, rfl⟩ := hres
          refine ⟨⟨(List.Sublist.cons _ (List.Sublist.cons _ (List.Sublist.cons _ (List.Sublist.cons _ (List.Sublist.cons_cons _ (List.Sublist.cons_cons _ (List.Sublist.cons_cons _ (List.Sublist.cons_cons _ (List.Sublist.cons_cons _ (List.Sublist.refl _)))))))))), (.head _)⟩, ?_⟩
          refine Qe rfl (q_move rfl) ?_
          refine Qe rfl (q_extract (vs := [_, _]) rfl rfl) ?_
          refine WE_p rfl (q_extract (vs := [_, _]) rfl rfl) (by decide) ?_
          refine WE_end (WF_last rfl rfl (OW_storeN (cs' := [_, _, _, _, _, _, _, _, _]) (vs := [_, _, _, _, _, _, _, _, _]) ti31 rfl rfl rfl rfl rfl (Nat.le_of_ble_eq_true rfl) (.s (.s (.s (.z)))) ?_))
          refine WF_p rfl (q_assign rfl) (by decide) ?_
          refine WF_pick (.s (.s (.s (.s (.s (.s (.s (.s (.z))))))))) ?_
          refine WF_pick (.s (.s (.s (.z)))) ?_
          refine WF_pick (.s (.s (.s (.z)))) ?_
          refine WF_pick (.s (.s (.s (.z)))) ?_
          refine WF_pick (.s (.s (.s (.s (.s (.s (.s (.s (.z))))))))) ?_
          refine WF_pick (.s (.s (.s (.s (.s (.s (.s (.s (.z))))))))) ?_
          refine WF_pick (.s (.s (.s (.s (.s (.s (.s (.s (.z))))))))) ?_
          refine WF_pick (.s (.s (.s (.s (.s (.s (.s (.s (.z))))))))) ?_
          refine WF_nil ?_
          refine thenK ?_
          refine ⟨0, ?_, (.cons rfl (.cons rfl (.cons rfl (.cons rfl (.cons rfl (.cons rfl (.cons rfl (.cons rfl (.cons rfl (.nil _)))))))))), (List.Sublist.cons_cons _ (List.Sublist.cons_cons _ (List.Sublist.cons_cons _ (List.Sublist.cons_cons _ (List.Sublist.cons_cons _ (List.Sublist.cons_cons _ (List.Sublist.cons_cons _ (List.Sublist.cons_cons _ (List.Sublist.cons _ (List.Sublist.refl _)))))))))), (fun _ h => .tail _ h)⟩
          exact rfl
      · rintro z1 hz1
        refine WC_seq (WC_seq (WC_region ?_))
        refine Lq (q_move rfl) ?_
        refine Lq (q_neq rfl rfl) ?_
        refine Lq (q_move rfl) ?_
        refine Lg rfl rfl rfl rfl (q_move rfl) ?_
        refine Lg rfl rfl rfl rfl (q_neq rfl rfl) ?_
        refine Lq (q_pickF rfl rfl rfl) ?_
        refine Lq (q_move rfl) ?_
        refine Lg rfl rfl rfl rfl (q_move rfl) ?_
        refine Lg rfl rfl rfl rfl (q_neq rfl rfl) ?_
        refine Lq (q_pickF rfl rfl rfl) ?_
        refine Lq (q_move rfl) ?_
        refine Lg rfl rfl rfl rfl (q_field (o' := 5) Tryd.underlying31 rfl ti29 rfl rfl) ?_
        refine Lg rfl rfl rfl rfl (q_load1 Tryd.underlying29 rfl rfl own0 rfl) ?_
        refine Lg rfl rfl rfl rfl (q_field (o' := 4) Tryd.underlying42 rfl ti29 rfl rfl) ?_
        refine Lg rfl rfl rfl rfl (q_load1 Tryd.underlying29 rfl rfl (ownS (own0)) rfl) ?_
        refine WL_gmain rfl rfl rfl rfl (OW_call0 (eqRanges_s Ax Ae cx ce xo.rs en.rs (by omega)) (.cons rfl (.cons rfl (.nil))) (by decide) (memc (.tail _ (.tail _ (.tail _ (.tail _ (.tail _ (.tail _ (.head _))))))) (memc (.tail _ (.tail _ (.tail _ (.tail _ (.tail _ (.tail _ (.tail _ (.head _)))))))) mem0)) fun u15_15 Lo fs hres => ?_)
        obtain ⟨rfl, rfl, rfl⟩ := hres
        refine Lg rfl rfl rfl rfl (q_not rfl) ?_
        refine Lq (q_pickF rfl rfl rfl) ?_
        refine Lq (q_move rfl) ?_
        refine Lg rfl rfl rfl (by rw [hxrs]; simp) (q_field (o' := 5) Tryd.underlying31 rfl ti29 rfl rfl) ?_
        refine Lg rfl rfl rfl (by rw [hxrs]; simp) (q_load1 Tryd.underlying29 rfl rfl own0 rfl) ?_
        refine Lg rfl rfl rfl (by rw [hxrs]; simp) (q_len Tryd.underlying29 rfl) ?_
        refine Lg rfl rfl rfl (by rw [hxrs]; simp) (q_eql rfl rfl) ?_
        refine Lq (q_pickF rfl (by rw [hxrs]; simp) rfl) ?_
        refine WL_nil (thenN ?_)
        refine WC_false rfl (beq_eq_false_iff_ne.2 (by omega)) ?_
        refine WC_skip (thenN ?_)
        refine WC_meet (α := Nat)
          (fun z => [(5, .pointer (some ⟨v, 0, none⟩)), (8, .pointer (some ⟨b8, 0, none⟩)), (9, .int .i64 j), (11, .pointer (some ⟨b11, 0, none⟩)), (12, .slice Ar (runsF t.row).length cr), (13, .pointer (some ⟨b13, 0, none⟩))])
          (fun z => ([(b13, cellsO (opC xo Ax cx) 31)] :: [(b11, cellsO (enC en Ae ce) 42)] :: [(b8, cellsO (idC (H.ents[j].op.c, H.ents[j].op.n)) 25)] :: vwP v h b (some ⟨bi, qi, none⟩) H.ents.length c1 A2 c2 A3 c3 nx :: hdP h A H.ops.length cap m H.total :: mpP m L :: mkP L :: rpP b B :: Ps))
          (fun z => (RdF opD A cap H.ops :: AllF L nowF :: TrF B t :: RdF idD (some ⟨bi, qi, none⟩) c1 (idsOf H.ents) :: RdF (De.int .i64) A2 c2 (kindsOf H.ents) :: RdF De.str A3 c3 (textsOf H.ents) :: RdF rgD Ax cx xo.rs :: RdF runD Ar cr (runsF t.row) :: barF :: RdF mvD Am cm ms :: As))
          (fun z => z = 0) ?_ ?_
        · refine WC_seq ?_
          refine WC_pick (.s (.s (.s (.s (.s (.s (.s (.z)))))))) ?_
          refine WC_pick (.s (.s (.s (.s (.s (.s (.s (.z)))))))) ?_
          refine WC_pick (.s (.s (.s (.s (.s (.s (.s (.z)))))))) ?_
          refine WC_pick (.s (.s (.s (.s (.s (.s (.s (.z)))))))) ?_
          refine WC_pick (.s (.s (.s (.s (.s (.s (.s (.z)))))))) ?_
          refine WC_pick (.s (.s (.s (.s (.s (.s (.s (.z)))))))) ?_
          refine WC_pick (.s (.s (.s (.s (.s (.s (.s (.z)))))))) ?_
          refine WC_pick (.s (.s (.s (.s (.s (.s (.s (.z)))))))) ?_
          refine WC_elem (k := j) (.tail _ (.tail _ (.tail _ (.tail _ (.head _))))) hknj (i64_open _) fun bk qk yk ek => ?_
          cases ek
          rcases hxk with hx2 | hx2
          · refine WC_draw _ _ [] (.c 0 0 (.c 1 0 (.c 2 0 (.c 3 0 (.c 4 0 (.c 5 0 (.c 6 0 (.c 7 0 (.c 8 0 (.c 9 0 (.c 10 0 (.c 11 0 (.c 12 0 (.c 13 0 (.c 14 0 (.c 15 0 (.c 16 0 (.c 17 0 (.c 18 0 (.c 19 0 (.c 20 0 (.c 21 0 (.c 22 0 (.c 23 0 (.c 24 0 (.c 25 0 (.c 26 0 (.c 27 0 .nil)))))))))))))))))))))))))))) mixed (fun _ _ _ _ h => h) (List.Sublist.cons_cons _ (List.Sublist.cons_cons _ (List.Sublist.cons_cons _ (List.Sublist.cons_cons _ (List.Sublist.cons_cons _ (List.Sublist.cons_cons _ (List.Sublist.cons_cons _ (List.Sublist.cons_cons _ (List.Sublist.refl _))))))))) (fun _ h => h) (by kernel_rfl) (by decide) fun ws Z0 => ?_
            refine Qe rfl (q_field (o' := 0) Tryd.underlying31 rfl ti28 rfl rfl) ?_
            refine Qe rfl (q_field (o' := 2) Tryd.underlying28 rfl ti26 rfl rfl) ?_
            refine Qe rfl (q_load1 Tryd.underlying26 rfl rfl own0 rfl) ?_
            refine Qe rfl (q_eql rfl rfl) ?_
            refine Qe rfl (q_field (o' := 3) Tryd.underlying42 rfl ti4 rfl rfl) ?_
            refine Qe rfl (q_load1 Tryd.underlying4 rfl rfl (ownS (own0)) rfl) ?_
            refine Qe rfl (q_move rfl) ?_
            refine Qe rfl (q_nil rfl) ?_
            refine Qe rfl (q_field (o' := 3) Tryd.underlying61 rfl ti57 rfl rfl) ?_
            refine Qe rfl (q_load1 Tryd.underlying57 rfl rfl (ownS (ownS (ownS (own0)))) rfl) ?_
            refine Qe rfl (q_move rfl) ?_
            refine Qe rfl (q_idxRd Tryd.underlying57 ti3 rfl rfl (by omega) (by omega)) ?_
            refine Qe rfl (q_loadF1 (j := 0) Tryd.underlying3 rfl rfl (.head _) rfl rfl) ?_
            refine Qe rfl (q_eql rfl rfl) ?_
            refine Qe rfl (q_beql' Tryd.underlying4 rfl rfl) ?_
            refine Qe rfl (q_bneq' Tryd.underlying4 rfl rfl) ?_
            refine Qe rfl (q_move rfl) ?_
            refine WE_gq rfl rfl rfl rfl (by rw [hkk]; simp) (q_field (o' := 0) Tryd.underlying31 rfl ti28 rfl rfl) (by decide) ?_
            refine WE_gq rfl rfl rfl rfl (by rw [hkk]; simp) (q_field (o' := 2) Tryd.underlying28 rfl ti26 rfl rfl) (by decide) ?_
            refine WE_gq rfl rfl rfl rfl (by rw [hkk]; simp) (q_load1 Tryd.underlying26 rfl rfl own0 rfl) (by decide) ?_
            refine WE_gq rfl rfl rfl rfl (by rw [hkk]; simp) (q_neq rfl rfl) (by decide) ?_
            refine WE_gq rfl rfl rfl rfl (by rw [hkk]; simp) (q_move rfl) (by decide) ?_
            refine WE_gno rfl rfl rfl rfl (by rw [hx2]; rfl) (by decide) ?_
            refine WE_gno rfl rfl rfl rfl (by rw [hx2]; rfl) (by decide) ?_
            refine WE_gno rfl rfl rfl rfl (by rw [hx2]; rfl) (by decide) ?_
            refine WE_gno rfl rfl rfl rfl (by rw [hx2]; rfl) (by decide) ?_
            refine WE_gq rfl rfl rfl rfl (by rw [hkk]; simp) (q_pickF rfl (by rw [hx2]; rfl) rfl) (by decide) ?_
            refine Qe rfl (q_pickF rfl (by rw [hkk]; simp) rfl) ?_
            refine WE_end (WF_nil ?_)
            refine thenN (WC_false rfl rfl (WC_skip (thenK ?_)))
            refine ⟨0, ?_, (.cons rfl (.cons rfl (.cons rfl (.cons rfl (.cons rfl (.cons rfl (.nil _))))))), (List.Sublist.cons_cons _ (List.Sublist.cons_cons _ (List.Sublist.cons_cons _ (List.Sublist.cons_cons _ (List.Sublist.cons_cons _ (List.Sublist.cons_cons _ (List.Sublist.cons_cons _ (List.Sublist.cons_cons _ (List.Sublist.refl _))))))))), (memc (.tail _ (.tail _ (.head _))) (memc (.tail _ (.tail _ (.tail _ (.head _)))) (memc (.tail _ (.tail _ (.tail _ (.tail _ (.head _))))) (memc (.tail _ (.tail _ (.tail _ (.tail _ (.tail _ (.head _)))))) (memc (.tail _ (.tail _ (.tail _ (.tail _ (.tail _ (.tail _ (.head _))))))) (memc (.tail _ (.tail _ (.tail _ (.tail _ (.tail _ (.tail _ (.tail _ (.head _)))))))) (memc (.tail _ (.tail _ (.tail _ (.tail _ (.tail _ (.tail _ (.tail _ (.tail _ (.head _))))))))) (fun _ h => .tail _ (.tail _ (.tail _ (.tail _ (.tail _ (.tail _ (.tail _ (.tail _ (.tail _ (.tail _ h)))))))))))))))))⟩
            exact rfl
          · refine WC_draw _ _ [] (.c 0 0 (.c 1 0 (.c 2 0 (.c 3 0 (.c 4 0 (.c 5 0 (.c 6 0 (.c 7 0 (.c 8 0 (.c 9 0 (.c 10 0 (.c 11 0 (.c 12 0 (.c 13 0 (.c 14 0 (.c 15 0 (.c 16 0 (.c 17 0 (.c 18 0 (.c 19 0 (.c 20 0 (.c 21 0 (.c 22 0 (.c 23 0 (.c 24 0 (.c 25 0 (.c 26 0 (.c 27 0 .nil)))))))))))))))))))))))))))) mixed (fun _ _ _ _ h => h) (List.Sublist.cons_cons _ (List.Sublist.cons_cons _ (List.Sublist.cons_cons _ (List.Sublist.cons_cons _ (List.Sublist.cons_cons _ (List.Sublist.cons_cons _ (List.Sublist.cons_cons _ (List.Sublist.cons_cons _ (List.Sublist.refl _))))))))) (fun _ h => h) (by kernel_rfl) (by decide) fun ws Z0 => ?_
            refine Qe rfl (q_field (o' := 0) Tryd.underlying31 rfl ti28 rfl rfl) ?_
            refine Qe rfl (q_field (o' := 2) Tryd.underlying28 rfl ti26 rfl rfl) ?_
            refine Qe rfl (q_load1 Tryd.underlying26 rfl rfl own0 rfl) ?_
            refine Qe rfl (q_eql rfl rfl) ?_
            refine Qe rfl (q_field (o' := 3) Tryd.underlying42 rfl ti4 rfl rfl) ?_
            refine Qe rfl (q_load1 Tryd.underlying4 rfl rfl (ownS (own0)) rfl) ?_
            refine Qe rfl (q_move rfl) ?_
            refine Qe rfl (q_nil rfl) ?_
            refine Qe rfl (q_field (o' := 3) Tryd.underlying61 rfl ti57 rfl rfl) ?_
            refine Qe rfl (q_load1 Tryd.underlying57 rfl rfl (ownS (ownS (ownS (own0)))) rfl) ?_
            refine Qe rfl (q_move rfl) ?_
            refine Qe rfl (q_idxRd Tryd.underlying57 ti3 rfl rfl (by omega) (by omega)) ?_
            refine Qe rfl (q_loadF1 (j := 0) Tryd.underlying3 rfl rfl (.head _) rfl rfl) ?_
            refine Qe rfl (q_eql rfl rfl) ?_
            refine Qe rfl (q_beql' Tryd.underlying4 rfl rfl) ?_
            refine Qe rfl (q_bneq' Tryd.underlying4 rfl rfl) ?_
            refine Qe rfl (q_move rfl) ?_
            refine WE_gq rfl rfl rfl rfl (by rw [hkk]; simp) (q_field (o' := 0) Tryd.underlying31 rfl ti28 rfl rfl) (by decide) ?_
            refine WE_gq rfl rfl rfl rfl (by rw [hkk]; simp) (q_field (o' := 2) Tryd.underlying28 rfl ti26 rfl rfl) (by decide) ?_
            refine WE_gq rfl rfl rfl rfl (by rw [hkk]; simp) (q_load1 Tryd.underlying26 rfl rfl own0 rfl) (by decide) ?_
            refine WE_gq rfl rfl rfl rfl (by rw [hkk]; simp) (q_neq rfl rfl) (by decide) ?_
            refine WE_gq rfl rfl rfl rfl (by rw [hkk]; simp) (q_move rfl) (by decide) ?_
            refine WE_gq rfl rfl rfl rfl (by rw [hx2]; rfl) (q_field (o' := 0) Tryd.underlying31 rfl ti28 rfl rfl) (by decide) ?_
            refine WE_gq rfl rfl rfl rfl (by rw [hx2]; rfl) (q_field (o' := 2) Tryd.underlying28 rfl ti26 rfl rfl) (by decide) ?_
            refine WE_gq rfl rfl rfl rfl (by rw [hx2]; rfl) (q_load1 Tryd.underlying26 rfl rfl own0 rfl) (by decide) ?_
            refine WE_gq rfl rfl rfl rfl (by rw [hx2]; rfl) (q_neq rfl rfl) (by decide) ?_
            refine WE_gq rfl rfl rfl rfl (by rw [hkk]; simp) (q_pickT rfl (by rw [hx2]; rfl) rfl) (by decide) ?_
            refine Qe rfl (q_pickF rfl (by rw [hkk]; simp) rfl) ?_
            refine WE_end (WF_nil ?_)
            refine thenN ?_
            refine WC_false rfl (by rw [hx2]; rfl) ?_
            refine WC_skip (thenK ?_)
            refine ⟨0, ?_, (.cons rfl (.cons rfl (.cons rfl (.cons rfl (.cons rfl (.cons rfl (.nil _))))))), (List.Sublist.cons_cons _ (List.Sublist.cons_cons _ (List.Sublist.cons_cons _ (List.Sublist.cons_cons _ (List.Sublist.cons_cons _ (List.Sublist.cons_cons _ (List.Sublist.cons_cons _ (List.Sublist.cons_cons _ (List.Sublist.refl _))))))))), (memc (.tail _ (.tail _ (.head _))) (memc (.tail _ (.tail _ (.tail _ (.head _)))) (memc (.tail _ (.tail _ (.tail _ (.tail _ (.head _))))) (memc (.tail _ (.tail _ (.tail _ (.tail _ (.tail _ (.head _)))))) (memc (.tail _ (.tail _ (.tail _ (.tail _ (.tail _ (.tail _ (.head _))))))) (memc (.tail _ (.tail _ (.tail _ (.tail _ (.tail _ (.tail _ (.tail _ (.head _)))))))) (memc (.tail _ (.tail _ (.tail _ (.tail _ (.tail _ (.tail _ (.tail _ (.tail _ (.head _))))))))) (fun _ h => .tail _ (.tail _ (.tail _ (.tail _ (.tail _ (.tail _ (.tail _ (.tail _ (.tail _ (.tail _ h)))))))))))))))))⟩
            exact rfl
        · rintro z hz
          refine WC_seq (WC_seq (WC_region ?_))
          refine Lq (q_assign rfl) ?_
          refine WL_nil (thenN (WC_block ?_))
          refine WC_loopE (α := Nat × Hist × List Ce × List Int × List MR × Option Addr × Nat × Option Addr × Tr × Option Addr × Nat × Option Addr × Nat × Option Addr × Nat) (fun (kk, H1, X1, nx1, L1, C, cap1, B4, t1, C1, d1, C2, d2, C3, d3) => 2 - kk)
            (fun (kk, H1, X1, nx1, L1, C, cap1, B4, t1, C1, d1, C2, d2, C3, d3) => [(5, .pointer (some ⟨v, 0, none⟩)), (8, .pointer (some ⟨b8, 0, none⟩)), (9, .int .i64 j), (11, .pointer (some ⟨b11, 0, none⟩)), (12, .slice Ar (runsF t.row).length cr), (13, .pointer (some ⟨b13, 0, none⟩)), (17, .int .i64 kk)])
            (fun (kk, H1, X1, nx1, L1, C, cap1, B4, t1, C1, d1, C2, d2, C3, d3) => ([(b13, cellsO (opC xo Ax cx) 31)] :: [(b11, cellsO (enC en Ae ce) 42)] :: [(b8, cellsO (idC (H.ents[j].op.c, H.ents[j].op.n)) 25)] :: vwP v h b C1 H1.ents.length d1 C2 d2 C3 d3 nx1 :: hdP h C H1.ops.length cap1 m H1.total :: mpP m L1 :: mkP L1 :: rpP b B4 :: Ps))
            (fun (kk, H1, X1, nx1, L1, C, cap1, B4, t1, C1, d1, C2, d2, C3, d3) => (RdF opD C cap1 H1.ops :: AllF L1 nowF :: TrF B4 t1 :: RdF idD C1 d1 (idsOf H1.ents) :: RdF (De.int .i64) C2 d2 (kindsOf H1.ents) :: RdF De.str C3 d3 (textsOf H1.ents) :: RdF rgD Ax cx xo.rs :: RdF runD Ar cr (runsF t.row) :: barF :: RdF mvD Am cm ms :: As))
            (fun (kk, H1, X1, nx1, L1, C, cap1, B4, t1, C1, d1, C2, d2, C3, d3) => TuL n j H.ents[j] X kk H1 X1 nx1 L1 t1)
            (0, H, X, nx, L, A, cap, B, t, (some ⟨bi, qi, none⟩), c1, A2, c2, A3, c3) ?_ (.cons rfl (.cons rfl (.cons rfl (.cons rfl (.cons rfl (.cons rfl (.cons rfl (.nil _)))))))) (List.Sublist.cons_cons _ (List.Sublist.cons_cons _ (List.Sublist.cons_cons _ (List.Sublist.cons_cons _ (List.Sublist.cons_cons _ (List.Sublist.cons_cons _ (List.Sublist.cons_cons _ (List.Sublist.cons_cons _ (List.Sublist.refl _))))))))) (fun _ h => h) ?_
          · exact ⟨⟨Nat.zero_le _, hV, ⟨_, List.getElem?_eq_getElem hj, rfl, rfl, rfl, rfl, rfl⟩, rfl⟩, hr, wt, hX⟩
          · rintro ⟨kk, H1, X1, nx1, L1, C, cap1, B4, t1, C1, d1, C2, d2, C3, d3⟩ hI
            have hle := hI.tu.le
            refine WC_seq (WC_seq (WC_region ?_))
            refine Lq (q_move rfl) ?_
            refine Lq (q_lss rfl rfl) ?_
            refine WL_nil (thenN ?_)
            refine WC_cond rfl (fun h185 => ?_) (fun h185 => ?_)
            · refine WC_skip (thenN (WC_seq (WC_block (WC_seq ?_))))
              try simp only [Bq0, Bq1, Bq2, Bq3, Bq4, Bq5, Bq6, Bq7, Bq8, Bq9, Bq10, Bq11, Bq12] at *
              have hkk2 : kk < 2 := by omega
              obtain ⟨x, H2, eff, S⟩ := hI.tu.step hkk2 hn20 hjk hpl hne hon (en := en)
              have hl1 := hI.tu.vi.len
              have hxb := S.xb
              have hV1 := hI.tu.vi
              have htt1 := hV1.total
              have hrl1 := hV1.rule.len
              have ht1l : t1.row.length ≤ 60000 := by rw [hI.hX]; omega
              have hfit := good_fit hV1 S.good (by show (⟨#[]⟩ : ByteArray).size ≤ _; decide)
              have hrs2 : eff.rs = xo.rs := by rw [S.rs, hxrs, hers]
              have hkd : (eff.kind == xo.kind) = ((kk : Int) == 0) := by rw [hxo]; exact S.kd
              have hol1 : H1.ops.length = H1.ents.length := by simp [Hist.ops]
              refine WC_fact (A := RdF rgD none 0 []) (fun Z w hs => RdS.nil _ _ _) ?_
              refine WC_region ?_
              refine WL_main rfl (OW_alloc (cs := [_, _, _, _, _, _, _, _, _]) ti31 rfl (by decide) fun b18 => ?_)
              refine WL_nil (thenN (WC_seq (WC_region ?_)))
              refine Lq (q_field (o' := 0) Tryd.underlying31 rfl ti28 rfl rfl) ?_
              refine Lq (q_field (o' := 2) Tryd.underlying28 rfl ti26 rfl rfl) ?_
              refine WL_main rfl (OW_store1 ti26 rfl rfl rfl (.s (.s (.z))) (.z) ?_)
              refine WL_nil (thenN (WC_seq (WC_region ?_)))
              refine Lq (q_move rfl) ?_
              refine Lq (q_nil rfl) ?_
              refine Lq (q_field (o' := 5) Tryd.underlying61 rfl ti59 rfl rfl) ?_
              refine Lq (q_idxA Tryd.underlying59 ti3 rfl rfl (by omega) (by omega) rfl) ?_
              refine Lq (q_load1 Tryd.underlying3 rfl rfl (ownS (ownS (ownS (ownS (own0))))) (vw_next (k := 8) S.hx)) ?_
              refine Lq (q_add rfl rfl (wr64 (by omega))) ?_
              refine Lq (q_build (.cons rfl (.cons rfl (.nil))) (bd25_0_1Xw52 _ _)) ?_
              refine Lq (q_field (o' := 0) Tryd.underlying31 rfl ti28 rfl rfl) ?_
              refine Lq (q_field (o' := 0) Tryd.underlying28 rfl ti25 rfl rfl) ?_
              refine WL_main rfl (OW_storeN (cs' := [_, _, _, _, _, _, _, _, _]) (vs := [_, _]) ti25 rfl rfl rfl rfl rfl (Nat.le_of_ble_eq_true rfl) (.z) ?_)
              refine WL_nil (thenN (WC_seq (WC_region ?_)))
              refine Lq (q_loadN (vs := [_, _]) Tryd.underlying25 rfl ti25 rfl (ownS (ownS (ownS (own0)))) rfl rfl) ?_
              refine Lq (q_field (o' := 6) Tryd.underlying31 rfl ti25 rfl rfl) ?_
              refine WL_main rfl (OW_storeN (cs' := [_, _, _, _, _, _, _, _, _]) (vs := [_, _]) ti25 rfl rfl rfl rfl rfl (Nat.le_of_ble_eq_true rfl) (.z) ?_)
              refine WL_nil (thenN (WC_seq (WC_region ?_)))
              refine Lq (q_field (o' := 3) Tryd.underlying42 rfl ti4 rfl rfl) ?_
              refine Lq (q_load1 Tryd.underlying4 rfl rfl (ownS (ownS (own0))) rfl) ?_
              refine Lq (q_move rfl) ?_
              refine Lq (q_eql rfl rfl) ?_
              refine Lq (q_beql' Tryd.underlying4 rfl rfl) ?_
              refine Lq (q_field (o' := 8) Tryd.underlying31 rfl ti4 rfl rfl) ?_
              refine WL_main rfl (OW_store1 ti4 rfl rfl rfl (.s (.s (.s (.s (.s (.s (.s (.s (.z))))))))) (.z) ?_)
              refine WL_nil (thenN ?_)
              refine WC_meet (α := Nat × List MR × Option Addr × Nat × Option Addr × Nat)
                (fun (b19, L2, A7, cap2, Ae2, ce2) => [(5, .pointer (some ⟨v, 0, none⟩)), (8, .pointer (some ⟨b8, 0, none⟩)), (9, .int .i64 j), (11, .pointer (some ⟨b11, 0, none⟩)), (12, .slice Ar (runsF t.row).length cr), (13, .pointer (some ⟨b13, 0, none⟩)), (17, .int .i64 kk), (18, .pointer (some ⟨b18, 0, none⟩)), (19, .pointer (some ⟨b19, 0, none⟩)), (20, .int .i64 0)])
                (fun (b19, L2, A7, cap2, Ae2, ce2) => ([(b19, cellsO (opC eff Ae2 ce2) 31)] :: [(b18, cellsO (opC (turnO x H.ents[j].op.c H.ents[j].op.n (en.on == ((kk : Int) == 1))) none 0) 31)] :: [(b13, cellsO (opC xo Ax cx) 31)] :: [(b11, cellsO (enC en Ae ce) 42)] :: [(b8, cellsO (idC (H.ents[j].op.c, H.ents[j].op.n)) 25)] :: vwP v h b C1 H1.ents.length d1 C2 d2 C3 d3 nx1 :: hdP h A7 H2.ops.length cap2 m H2.total :: mpP m L2 :: mkP L2 :: rpP b B4 :: Ps))
                (fun (b19, L2, A7, cap2, Ae2, ce2) => (RdF opD A7 cap2 H2.ops :: AllF L2 nowF :: TrF B4 t1 :: RdF idD C1 d1 (idsOf H1.ents) :: RdF (De.int .i64) C2 d2 (kindsOf H1.ents) :: RdF De.str C3 d3 (textsOf H1.ents) :: RdF rgD Ae2 ce2 eff.rs :: RdF rgD Ax cx xo.rs :: RdF runD Ar cr (runsF t.row) :: barF :: RdF mvD Am cm ms :: As))
                (fun (b19, L2, A7, cap2, Ae2, ce2) => HR H2 L2) ?_ ?_
              · refine WC_draw _ _ [15] (.c 0 0 (.c 1 0 (.c 2 0 (.c 3 0 (.c 4 0 (.c 5 0 (.c 6 0 (.c 7 0 (.c 8 0 (.c 9 0 (.b (.c 10 2 (.c 11 0 (.c 12 0 (.c 13 1 (.c 14 2 (.c 15 3 (.c 16 1 .nil))))))) (.c 14 2 (.c 10 2 (.c 11 0 (.c 12 0 (.c 13 1 (.c 15 3 (.c 16 1 .nil)))))))))))))))))) mixed (fun _ _ _ _ h => h) (List.Sublist.cons_cons _ (List.Sublist.cons_cons _ (List.Sublist.cons_cons _ (List.Sublist.cons_cons _ (List.Sublist.cons_cons _ (List.Sublist.cons _ (List.Sublist.cons _ (List.Sublist.cons _ (List.Sublist.cons_cons _ (List.Sublist.refl _)))))))))) (fun _ h => h) (by kernel_rfl) (by decide) fun ws Z0 => ?_
                refine Qe rfl (q_move rfl) ?_
                refine Qe rfl (q_nil rfl) ?_
                refine Qe rfl (q_field (o' := 0) Tryd.underlying61 rfl ti22 rfl rfl) ?_
                refine Qe rfl (q_load1 Tryd.underlying22 rfl rfl (ownS (ownS (ownS (ownS (own0))))) rfl) ?_
                refine Qe rfl (q_move rfl) ?_
                refine Qe rfl (q_nil rfl) ?_
                refine Qe rfl (q_field (o' := 2) Tryd.underlying61 rfl ti56 rfl rfl) ?_
                refine Qe rfl (q_load1 Tryd.underlying56 rfl rfl (ownS (ownS (ownS (ownS (own0))))) rfl) ?_
                refine Qe rfl (q_len Tryd.underlying56 rfl) ?_
                refine Qe rfl (q_loadN (vs := [_, _, _, _, _, _, _, _, _]) Tryd.underlying31 rfl ti31 rfl own0 rfl rfl) ?_
                refine WE_both ?_ ?_
                · refine WE_main rfl rfl (OW_call3 (put_s h m cap1 C H1 L1 hI.hr H1.ents.length (turnO x H.ents[j].op.c H.ents[j].op.n (en.on == ((kk : Int) == 1))) none 0 hfit (by omega)) (.cons rfl (.cons rfl (.cons rfl (.nil)))) (by decide) (.s (.s (.s (.s (.s (.z)))))) (.s (.s (.s (.s (.s (.z)))))) (.s (.s (.s (.s (.s (.z)))))) (memc (.tail _ (.tail _ (.tail _ (.tail _ (.tail _ (.tail _ (.tail _ (.tail _ (.tail _ (.tail _ (.head _))))))))))) (memc (.tail _ (.tail _ (.head _))) (memc (.tail _ (.tail _ (.tail _ (.head _)))) (memc (.tail _ (.head _)) mem0)))) fun u27_10 Lo fs hres => ?_)
                  obtain ⟨L2, A7, cap2, Ae2, ce2, hr2, rfl, rfl, rfl⟩ := hres
                  rw [S.tk.put] at hr2 ⊢
                  dsimp only at hr2 ⊢
                  refine ⟨⟨(List.Sublist.cons _ (List.Sublist.cons _ (List.Sublist.cons _ (List.Sublist.cons_cons _ (List.Sublist.cons_cons _ (List.Sublist.cons_cons _ (List.Sublist.cons_cons _ (List.Sublist.cons_cons _ (List.Sublist.cons_cons _ (List.Sublist.refl _)))))))))), (.tail _ (.tail _ (.tail _ (.head _))))⟩, ?_⟩
                  refine Qe rfl (q_move rfl) ?_
                  refine Qe rfl (q_extract (vs := [_, _]) rfl rfl) ?_
                  refine WE_p rfl (q_extract (vs := [_, _]) rfl rfl) (by decide) ?_
                  refine WE_main rfl rfl (OW_alloc (cs := [_, _, _, _, _, _, _, _, _]) ti31 rfl (by decide) fun b19 => ?_)
                  refine ⟨⟨(List.Sublist.cons _ (List.Sublist.cons _ (List.Sublist.cons _ (List.Sublist.cons _ (List.Sublist.cons_cons _ (List.Sublist.cons_cons _ (List.Sublist.cons_cons _ (List.Sublist.cons_cons _ (List.Sublist.cons_cons _ (List.Sublist.cons_cons _ (List.Sublist.refl _))))))))))), (.tail _ (.tail _ (.tail _ (.head _))))⟩, ?_⟩
                  refine WE_end (WF_last rfl rfl (OW_storeN (cs' := [_, _, _, _, _, _, _, _, _]) (vs := [_, _, _, _, _, _, _, _, _]) ti31 rfl rfl rfl rfl rfl (Nat.le_of_ble_eq_true rfl) (.z) ?_))
                  refine WF_p rfl (q_assign rfl) (by decide) ?_
                  refine WF_pick (.s (.s (.s (.s (.s (.s (.s (.s (.s (.z)))))))))) ?_
                  refine WF_pick (.s (.s (.s (.s (.z))))) ?_
                  refine WF_pick (.s (.s (.s (.s (.z))))) ?_
                  refine WF_pick (.s (.s (.s (.s (.z))))) ?_
                  refine WF_pick (.s (.s (.s (.s (.s (.s (.s (.s (.s (.z)))))))))) ?_
                  refine WF_pick (.s (.s (.s (.s (.s (.s (.s (.s (.s (.z)))))))))) ?_
                  refine WF_pick (.s (.s (.s (.s (.s (.s (.s (.s (.s (.z)))))))))) ?_
                  refine WF_pick (.s (.s (.s (.s (.s (.s (.s (.s (.s (.z)))))))))) ?_
                  refine WF_pick (.s (.s (.s (.s (.s (.s (.s (.s (.s (.z)))))))))) ?_
                  refine WF_pick (.s (.s (.s (.s (.s (.s (.s (.s (.s (.z)))))))))) ?_
                  refine WF_nil ?_
                  refine thenK ?_
                  refine ⟨(b19, L2, A7, cap2, Ae2, ce2), ?_, (.cons rfl (.cons rfl (.cons rfl (.cons rfl (.cons rfl (.cons rfl (.cons rfl (.cons rfl (.cons rfl (.cons rfl (.nil _))))))))))), (List.Sublist.cons_cons _ (List.Sublist.cons_cons _ (List.Sublist.cons_cons _ (List.Sublist.cons_cons _ (List.Sublist.cons_cons _ (List.Sublist.cons_cons _ (List.Sublist.cons_cons _ (List.Sublist.cons_cons _ (List.Sublist.cons_cons _ (List.Sublist.cons_cons _ (List.Sublist.refl _))))))))))), (memc (.tail _ (.head _)) (memc (.tail _ (.tail _ (.head _))) (memc (.tail _ (.tail _ (.tail _ (.tail _ (.tail _ (.tail _ (.tail _ (.head _)))))))) (memc (.tail _ (.tail _ (.tail _ (.tail _ (.tail _ (.tail _ (.tail _ (.tail _ (.head _))))))))) (memc (.tail _ (.tail _ (.tail _ (.tail _ (.tail _ (.tail _ (.tail _ (.tail _ (.tail _ (.head _)))))))))) (memc (.tail _ (.tail _ (.tail _ (.tail _ (.tail _ (.tail _ (.tail _ (.tail _ (.tail _ (.tail _ (.head _))))))))))) (memc (.head _) (fun _ h => .tail _ (.tail _ (.tail _ (.tail _ (.tail _ (.tail _ (.tail _ (.tail _ (.tail _ (.tail _ (.tail _ h))))))))))))))))))⟩
                  exact hr2
                · refine WE_main rfl rfl (OW_alloc (cs := [_, _, _, _, _, _, _, _, _]) ti31 rfl (by decide) fun b19 => ?_)
                  refine ⟨⟨(List.Sublist.cons _ (List.Sublist.cons_cons _ (List.Sublist.cons_cons _ (List.Sublist.cons_cons _ (List.Sublist.cons_cons _ (List.Sublist.cons_cons _ (List.Sublist.cons _ (List.Sublist.cons _ (List.Sublist.cons _ (List.Sublist.cons_cons _ (List.Sublist.refl _))))))))))), (.head _)⟩, ?_⟩
                  refine WE_main rfl rfl (OW_call3 (put_s h m cap1 C H1 L1 hI.hr H1.ents.length (turnO x H.ents[j].op.c H.ents[j].op.n (en.on == ((kk : Int) == 1))) none 0 hfit (by omega)) (.cons rfl (.cons rfl (.cons rfl (.nil)))) (by decide) (.s (.s (.s (.s (.s (.s (.z))))))) (.s (.s (.s (.s (.s (.s (.z))))))) (.s (.s (.s (.s (.s (.s (.z))))))) (memc (.tail _ (.tail _ (.tail _ (.tail _ (.tail _ (.tail _ (.tail _ (.tail _ (.tail _ (.tail _ (.head _))))))))))) (memc (.tail _ (.tail _ (.head _))) (memc (.tail _ (.tail _ (.tail _ (.head _)))) (memc (.tail _ (.head _)) mem0)))) fun u27_10 Lo fs hres => ?_)
                  obtain ⟨L2, A7, cap2, Ae2, ce2, hr2, rfl, rfl, rfl⟩ := hres
                  rw [S.tk.put] at hr2 ⊢
                  dsimp only at hr2 ⊢
                  refine ⟨⟨(List.Sublist.cons _ (List.Sublist.cons _ (List.Sublist.cons _ (List.Sublist.cons _ (List.Sublist.cons_cons _ (List.Sublist.cons_cons _ (List.Sublist.cons_cons _ (List.Sublist.cons_cons _ (List.Sublist.cons_cons _ (List.Sublist.cons_cons _ (List.Sublist.refl _))))))))))), (.tail _ (.tail _ (.tail _ (.head _))))⟩, ?_⟩
                  refine Qe rfl (q_move rfl) ?_
                  refine Qe rfl (q_extract (vs := [_, _]) rfl rfl) ?_
                  refine WE_p rfl (q_extract (vs := [_, _]) rfl rfl) (by decide) ?_
                  refine WE_end (WF_last rfl rfl (OW_storeN (cs' := [_, _, _, _, _, _, _, _, _]) (vs := [_, _, _, _, _, _, _, _, _]) ti31 rfl rfl rfl rfl rfl (Nat.le_of_ble_eq_true rfl) (.s (.s (.s (.z)))) ?_))
                  refine WF_p rfl (q_assign rfl) (by decide) ?_
                  refine WF_pick (.s (.s (.s (.s (.s (.s (.s (.s (.s (.z)))))))))) ?_
                  refine WF_pick (.s (.s (.s (.z)))) ?_
                  refine WF_pick (.s (.s (.s (.z)))) ?_
                  refine WF_pick (.s (.s (.s (.z)))) ?_
                  refine WF_pick (.s (.s (.s (.s (.s (.s (.s (.s (.s (.z)))))))))) ?_
                  refine WF_pick (.s (.s (.s (.s (.s (.s (.s (.s (.s (.z)))))))))) ?_
                  refine WF_pick (.s (.s (.s (.s (.s (.s (.s (.s (.s (.z)))))))))) ?_
                  refine WF_pick (.s (.s (.s (.s (.s (.s (.s (.s (.s (.z)))))))))) ?_
                  refine WF_pick (.s (.s (.s (.s (.s (.s (.s (.s (.s (.z)))))))))) ?_
                  refine WF_pick (.s (.s (.s (.s (.s (.s (.s (.s (.s (.z)))))))))) ?_
                  refine WF_nil ?_
                  refine thenK ?_
                  refine ⟨(b19, L2, A7, cap2, Ae2, ce2), ?_, (.cons rfl (.cons rfl (.cons rfl (.cons rfl (.cons rfl (.cons rfl (.cons rfl (.cons rfl (.cons rfl (.cons rfl (.nil _))))))))))), (List.Sublist.cons_cons _ (List.Sublist.cons_cons _ (List.Sublist.cons_cons _ (List.Sublist.cons_cons _ (List.Sublist.cons_cons _ (List.Sublist.cons_cons _ (List.Sublist.cons_cons _ (List.Sublist.cons_cons _ (List.Sublist.cons_cons _ (List.Sublist.cons_cons _ (List.Sublist.refl _))))))))))), (memc (.tail _ (.head _)) (memc (.tail _ (.tail _ (.head _))) (memc (.tail _ (.tail _ (.tail _ (.tail _ (.tail _ (.tail _ (.tail _ (.head _)))))))) (memc (.tail _ (.tail _ (.tail _ (.tail _ (.tail _ (.tail _ (.tail _ (.tail _ (.head _))))))))) (memc (.tail _ (.tail _ (.tail _ (.tail _ (.tail _ (.tail _ (.tail _ (.tail _ (.tail _ (.head _)))))))))) (memc (.tail _ (.tail _ (.tail _ (.tail _ (.tail _ (.tail _ (.tail _ (.tail _ (.tail _ (.tail _ (.head _))))))))))) (memc (.head _) (fun _ h => .tail _ (.tail _ (.tail _ (.tail _ (.tail _ (.tail _ (.tail _ (.tail _ (.tail _ (.tail _ (.tail _ h))))))))))))))))))⟩
                  exact hr2
              · rintro ⟨b19, L2, A7, cap2, Ae2, ce2⟩ hr2
                refine WC_seq (WC_seq ?_)
                refine WC_draw _ _ [] (.c 0 0 (.c 1 0 (.c 2 0 (.c 3 0 (.c 4 0 (.c 5 0 (.c 6 0 (.c 7 0 (.c 8 2 (.c 9 0 (.c 10 0 (.c 11 0 (.c 12 0 (.c 13 0 (.c 14 0 (.c 15 0 (.c 16 2 (.c 17 0 (.c 18 0 (.c 19 0 (.c 20 0 (.c 21 0 (.c 22 0 (.c 23 0 (.c 24 0 (.c 25 0 (.c 26 0 (.c 27 0 (.c 28 0 (.c 29 0 (.c 30 0 .nil))))))))))))))))))))))))))))))) mixed (fun _ _ _ _ h => h) (List.Sublist.cons_cons _ (List.Sublist.cons_cons _ (List.Sublist.cons_cons _ (List.Sublist.cons_cons _ (List.Sublist.cons_cons _ (List.Sublist.cons_cons _ (List.Sublist.cons_cons _ (List.Sublist.cons_cons _ (List.Sublist.cons_cons _ (List.Sublist.cons _ (List.Sublist.refl _))))))))))) (fun _ h => h) (by kernel_rfl) (by decide) fun ws Z0 => ?_
                refine Qe rfl (q_move rfl) ?_
                refine Qe rfl (q_neq rfl rfl) ?_
                refine Qe rfl (q_move rfl) ?_
                refine WE_gq rfl rfl rfl rfl rfl (q_move rfl) (by decide) ?_
                refine WE_gq rfl rfl rfl rfl rfl (q_nil rfl) (by decide) ?_
                refine WE_gq rfl rfl rfl rfl rfl (q_field (o' := 1) Tryd.underlying61 rfl ti55 rfl rfl) (by decide) ?_
                refine WE_gq rfl rfl rfl rfl rfl (q_load1 Tryd.underlying55 rfl rfl (ownS (ownS (ownS (ownS (ownS (own0)))))) rfl) (by decide) ?_
                refine WE_gq rfl rfl rfl rfl rfl (q_loadN (vs := [_, _, _, _, _, _, _, _, _]) Tryd.underlying31 rfl ti31 rfl own0 rfl rfl) (by decide) ?_
                refine WE_gmain rfl rfl rfl rfl rfl rfl (OW_call1 (apply_s b B4 Ae2 ce2 t1 eff hI.wt (by omega) (by rw [hI.hX]; exact S.tk.app S.k0) (by have := S.tk.text; have h0 : (turnO x H.ents[j].op.c H.ents[j].op.n (en.on == ((kk : Int) == 1))).text.size = 0 := rfl; omega) (by have := S.tk.rs; omega)) (.cons rfl (.cons rfl (.nil))) (by decide) (.s (.s (.s (.s (.s (.s (.s (.s (.s (.z)))))))))) (memc (.tail _ (.tail _ (.tail _ (.tail _ (.tail _ (.tail _ (.tail _ (.tail _ (.tail _ (.tail _ (.head _))))))))))) (memc (.tail _ (.tail _ (.tail _ (.head _)))) (memc (.tail _ (.tail _ (.tail _ (.tail _ (.tail _ (.tail _ (.tail _ (.head _)))))))) mem0))) fun u28_8 Lo fs hres => ?_)
                obtain ⟨Bn, tn, rfl, rfl, rfl, wtn, rtn⟩ := hres
                have hn1 := S.next.vi.rule.len
                have hn2 := S.next.vi.total
                have htnX : tn.row = applyRow eff X1 := by rw [rtn, hI.hX]
                have htnl : tn.row.length ≤ 60000 := by rw [htnX]; omega
                have hruns : decide (runsF tn.row = runsF t.row) = ((kk : Int) == 1) := by rw [htnX, hX]; exact S.runs
                refine ⟨⟨(List.Sublist.cons _ (List.Sublist.cons_cons _ (List.Sublist.cons_cons _ (List.Sublist.cons_cons _ (List.Sublist.cons_cons _ (List.Sublist.cons_cons _ (List.Sublist.cons_cons _ (List.Sublist.cons_cons _ (List.Sublist.cons_cons _ (List.Sublist.cons_cons _ (List.Sublist.refl _))))))))))), (.tail _ (.head _))⟩, ?_⟩
                refine WE_gq rfl rfl rfl rfl rfl (q_neq rfl rfl) (by decide) ?_
                refine Qe rfl (q_pickF rfl rfl rfl) ?_
                refine Qe rfl (q_move rfl) ?_
                refine WE_gq rfl rfl rfl rfl rfl (q_field (o' := 5) Tryd.underlying31 rfl ti29 rfl rfl) (by decide) ?_
                refine WE_gq rfl rfl rfl rfl rfl (q_load1 Tryd.underlying29 rfl rfl own0 rfl) (by decide) ?_
                refine WE_gq rfl rfl rfl rfl rfl (q_field (o' := 5) Tryd.underlying31 rfl ti29 rfl rfl) (by decide) ?_
                refine WE_gq rfl rfl rfl rfl rfl (q_load1 Tryd.underlying29 rfl rfl (ownS (ownS (own0))) rfl) (by decide) ?_
                refine WE_gmain rfl rfl rfl rfl rfl rfl (OW_call0 (eqRanges_s Ae2 Ax ce2 cx eff.rs xo.rs (by rw [hrs2]; omega)) (.cons rfl (.cons rfl (.nil))) (by decide) (memc (.tail _ (.tail _ (.tail _ (.tail _ (.tail _ (.tail _ (.tail _ (.tail _ (.head _))))))))) (memc (.tail _ (.tail _ (.tail _ (.tail _ (.tail _ (.tail _ (.tail _ (.tail _ (.tail _ (.head _)))))))))) mem0)) fun u28_16 Lo fs hres => ?_)
                obtain ⟨rfl, rfl, rfl⟩ := hres
                refine ⟨⟨(List.Sublist.cons _ (List.Sublist.cons_cons _ (List.Sublist.cons_cons _ (List.Sublist.cons_cons _ (List.Sublist.cons_cons _ (List.Sublist.cons_cons _ (List.Sublist.cons_cons _ (List.Sublist.cons_cons _ (List.Sublist.cons_cons _ (List.Sublist.cons_cons _ (List.Sublist.refl _))))))))))), (.tail _ (.head _))⟩, ?_⟩
                refine WE_gq rfl rfl rfl rfl rfl (q_not rfl) (by decide) ?_
                refine Qe rfl (q_pickF rfl rfl rfl) ?_
                refine Qe rfl (q_move rfl) ?_
                refine WE_gq rfl rfl rfl rfl (by rw [hrs2]; simp) (q_field (o' := 0) Tryd.underlying31 rfl ti28 rfl rfl) (by decide) ?_
                refine WE_gq rfl rfl rfl rfl (by rw [hrs2]; simp) (q_field (o' := 2) Tryd.underlying28 rfl ti26 rfl rfl) (by decide) ?_
                refine WE_gq rfl rfl rfl rfl (by rw [hrs2]; simp) (q_load1 Tryd.underlying26 rfl rfl own0 rfl) (by decide) ?_
                refine WE_gq rfl rfl rfl rfl (by rw [hrs2]; simp) (q_field (o' := 0) Tryd.underlying31 rfl ti28 rfl rfl) (by decide) ?_
                refine WE_gq rfl rfl rfl rfl (by rw [hrs2]; simp) (q_field (o' := 2) Tryd.underlying28 rfl ti26 rfl rfl) (by decide) ?_
                refine WE_gq rfl rfl rfl rfl (by rw [hrs2]; simp) (q_load1 Tryd.underlying26 rfl rfl (ownS (ownS (own0))) rfl) (by decide) ?_
                refine WE_gq rfl rfl rfl rfl (by rw [hrs2]; simp) (q_eql rfl rfl) (by decide) ?_
                refine WE_gq rfl rfl rfl rfl (by rw [hrs2]; simp) (q_move rfl) (by decide) ?_
                refine WE_gq rfl rfl rfl rfl (by rw [hrs2]; simp) (q_eql rfl rfl) (by decide) ?_
                refine WE_gq rfl rfl rfl rfl (by rw [hrs2]; simp) (q_bneq' Tryd.underlying4 rfl rfl) (by decide) ?_
                refine Qe rfl (q_pickF rfl (by rw [hrs2]; simp) rfl) ?_
                refine WE_end (WF_nil ?_)
                refine thenN ?_
                refine WC_false rfl (by rw [hkd]; simp) ?_
                refine WC_skip (thenN (WC_seq ?_))
                refine WC_draw _ _ [] (.c 0 0 (.c 1 0 (.c 2 0 (.c 3 0 (.c 6 0 (.c 4 2 (.c 5 0 (.c 7 2 .nil)))))))) mixed (fun _ _ _ _ h => h) (List.Sublist.cons_cons _ (List.Sublist.cons_cons _ (List.Sublist.cons_cons _ (List.Sublist.cons_cons _ (List.Sublist.cons_cons _ (List.Sublist.cons_cons _ (List.Sublist.cons _ (List.Sublist.cons_cons _ (List.Sublist.cons_cons _ (List.Sublist.cons_cons _ (List.Sublist.refl _))))))))))) (fun _ h => h) (by kernel_rfl) (by decide) fun ws Z0 => ?_
                refine Qe rfl (q_move rfl) ?_
                refine Qe rfl (q_move rfl) ?_
                refine Qe rfl (q_nil rfl) ?_
                refine Qe rfl (q_field (o' := 2) Tryd.underlying61 rfl ti56 rfl rfl) ?_
                refine Qe rfl (q_loadN (vs := [_, _, _, _, _, _, _, _, _]) Tryd.underlying31 rfl ti31 rfl (ownS (ownS (own0))) rfl rfl) ?_
                refine WE_main rfl rfl (OW_quiet (q_load1 Tryd.underlying56 rfl rfl (ownS (ownS (ownS (ownS (ownS (ownS (own0))))))) rfl) (by decide) ?_)
                refine ⟨⟨(List.Sublist.cons_cons _ (List.Sublist.cons_cons _ (List.Sublist.cons_cons _ (List.Sublist.cons_cons _ (List.Sublist.cons_cons _ (List.Sublist.cons_cons _ (List.Sublist.cons _ (List.Sublist.cons_cons _ (List.Sublist.cons_cons _ (List.Sublist.cons_cons _ (List.Sublist.refl _))))))))))), (.head _)⟩, ?_⟩
                refine Qe rfl (q_len Tryd.underlying56 rfl) ?_
                refine WE_main rfl rfl (OW_call1 (notes_s v h b H1.ents.length C1 d1 C2 d2 C3 d3 nx1 (idsOf H1.ents) (kindsOf H1.ents) (textsOf H1.ents) H1.ents.length (turnO x H.ents[j].op.c H.ents[j].op.n (en.on == ((kk : Int) == 1))) none 0 (by simp [idsOf]) (by simp [kindsOf, idsOf]) (by simp [textsOf, idsOf]) (by simp only [idsOf, List.length_map]; exact Nat.le_refl _) (by omega) hV1.nxl (by show (1 : Int) ≤ 8 ∧ (8 : Int) ≤ 8; omega)) (.cons rfl (.cons rfl (.cons rfl (.nil)))) (by decide) (.s (.s (.s (.s (.s (.s (.z))))))) (memc (.tail _ (.tail _ (.tail _ (.tail _ (.tail _ (.tail _ (.head _))))))) (memc (.tail _ (.tail _ (.tail _ (.tail _ (.tail _ (.tail _ (.tail _ (.head _)))))))) (memc (.tail _ (.tail _ (.tail _ (.tail _ (.tail _ (.tail _ (.tail _ (.tail _ (.head _))))))))) mem0))) fun u30_7 Lo fs hres => ?_)
                obtain ⟨G1, f1, G2, f2, G3, f3, rfl, rfl, rfl⟩ := hres
                rw [S.tk.ids, S.tk.ks, S.tk.ts]
                rw [show H1.ents.length + 1 = H2.ents.length from by rw [S.tk.len, hl1]]
                refine ⟨⟨(List.Sublist.cons _ (List.Sublist.cons_cons _ (List.Sublist.cons_cons _ (List.Sublist.cons_cons _ (List.Sublist.cons_cons _ (List.Sublist.cons_cons _ (List.Sublist.cons_cons _ (List.Sublist.cons_cons _ (List.Sublist.cons_cons _ (List.Sublist.cons_cons _ (List.Sublist.refl _))))))))))), (.tail _ (.tail _ (.tail _ (.head _))))⟩, ?_⟩
                refine WE_end (WF_nil ?_)
                refine thenN (WC_seq (WC_region ?_))
                refine Lq (q_move rfl) ?_
                refine Lq (q_nil rfl) ?_
                refine Lq (q_field (o' := 0) Tryd.underlying61 rfl ti22 rfl rfl) ?_
                refine Lq (q_load1 Tryd.underlying22 rfl rfl own0 rfl) ?_
                refine Lq (q_move rfl) ?_
                refine WL_main rfl (OW_call3 (entry_s h m cap2 A7 H2 L2 hr2 j) (.cons rfl (.cons rfl (.nil))) (by decide) (.s (.s (.s (.s (.s (.s (.s (.z)))))))) (.s (.s (.s (.s (.s (.s (.s (.z)))))))) (.s (.s (.s (.s (.s (.s (.s (.z)))))))) (memc (.tail _ (.tail _ (.tail _ (.tail _ (.tail _ (.tail _ (.head _))))))) (memc (.tail _ (.tail _ (.tail _ (.tail _ (.tail _ (.tail _ (.tail _ (.head _)))))))) mem0)) fun u31_5 Lo fs hres => ?_)
                obtain ⟨Ag, cg, rfl, rfl, rfl⟩ := hres
                obtain ⟨e2, he2, he2on⟩ := S.en2
                have hj2 : j < H2.ents.length := by
                  rcases Nat.lt_or_ge j H2.ents.length with h | h
                  · exact h
                  · rw [List.getElem?_eq_none h] at he2; cases he2
                have hge : H2.ents[j] = e2 := by rw [List.getElem?_eq_getElem hj2] at he2; exact Option.some.inj he2
                rw [entryF_at hj2, hge]
                dsimp only
                obtain ⟨en2, hen2⟩ : ∃ z, z = entE e2 := ⟨_, rfl⟩
                rw [← hen2] at he2on ⊢
                refine Lq (q_move rfl) ?_
                refine Lq (q_extract (vs := [_, _]) rfl rfl) ?_
                refine Lq (q_extract (vs := [_, _]) rfl rfl) ?_
                refine WL_main rfl (OW_alloc (cs := [_, _, _, _, _, _, _]) ti42 rfl (by decide) fun b21 => ?_)
                refine WL_main rfl (OW_storeN (cs' := [_, _, _, _, _, _, _]) (vs := [_, _, _, _, _, _, _]) ti42 rfl rfl rfl rfl rfl (Nat.le_of_ble_eq_true rfl) (.z) ?_)
                refine Lq (q_assign rfl) ?_
                refine WL_nil (thenN (WC_seq (WC_region ?_)))
                refine Lq (q_move rfl) ?_
                refine Lq (q_neq rfl rfl) ?_
                refine Lq (q_move rfl) ?_
                refine Lg rfl rfl rfl rfl (q_field (o' := 3) Tryd.underlying42 rfl ti4 rfl rfl) ?_
                refine Lg rfl rfl rfl rfl (q_load1 Tryd.underlying4 rfl rfl own0 rfl) ?_
                refine Lg rfl rfl rfl rfl (q_field (o' := 8) Tryd.underlying31 rfl ti4 rfl rfl) ?_
                refine Lg rfl rfl rfl rfl (q_load1 Tryd.underlying4 rfl rfl (ownS (ownS (ownS (ownS (ownS (ownS (ownS (own0)))))))) rfl) ?_
                refine Lg rfl rfl rfl rfl (q_bneq' Tryd.underlying4 rfl rfl) ?_
                refine Lq (q_pickF rfl rfl rfl) ?_
                refine Lq (q_move rfl) ?_
                refine Lg rfl rfl rfl (by rw [he2on]; simp [turnO]) (q_move rfl) ?_
                refine Lg rfl rfl rfl (by rw [he2on]; simp [turnO]) (q_nil rfl) ?_
                refine Lg rfl rfl rfl (by rw [he2on]; simp [turnO]) (q_field (o' := 1) Tryd.underlying61 rfl ti55 rfl rfl) ?_
                refine Lg rfl rfl rfl (by rw [he2on]; simp [turnO]) (q_load1 Tryd.underlying55 rfl rfl (ownS (ownS (ownS (ownS (own0))))) rfl) ?_
                refine WL_gmain rfl rfl rfl (by rw [he2on]; simp [turnO]) (OW_call1 (runs_s b Bn tn wtn (by omega)) (.cons rfl (.nil)) (by decide) (.s (.s (.s (.s (.s (.z)))))) (memc (.tail _ (.tail _ (.tail _ (.tail _ (.tail _ (.head _)))))) mem0) fun u32_14 Lo fs hres => ?_)
                obtain ⟨Aq, cq, rfl, rfl, rfl⟩ := hres
                have hrn2 : (runsF tn.row).length ≤ tn.row.length := (rowF_ok tn.row).flush.2
                refine Lg rfl rfl rfl (by rw [he2on]; simp [turnO]) (q_move rfl) ?_
                refine WL_gmain rfl rfl rfl (by rw [he2on]; simp [turnO]) (OW_call0 (eqRuns_s Aq Ar cq cr (runsF tn.row) (runsF t.row) (by omega)) (.cons rfl (.cons rfl (.nil))) (by decide) (memc (.head _) (memc (.tail _ (.tail _ (.tail _ (.tail _ (.tail _ (.tail _ (.tail _ (.tail _ (.tail _ (.tail _ (.tail _ (.tail _ (.tail _ (.tail _ (.tail _ (.tail _ (.head _))))))))))))))))) mem0)) fun u32_16 Lo fs hres => ?_)
                obtain ⟨rfl, rfl, rfl⟩ := hres
                refine Lg rfl rfl rfl (by rw [he2on]; simp [turnO]) (q_move rfl) ?_
                refine Lg rfl rfl rfl (by rw [he2on]; simp [turnO]) (q_eql rfl rfl) ?_
                refine Lg rfl rfl rfl (by rw [he2on]; simp [turnO]) (q_bneq' Tryd.underlying4 rfl rfl) ?_
                refine Lq (q_pickF rfl (by rw [he2on]; simp [turnO]) rfl) ?_
                refine WL_nil (thenN ?_)
                refine WC_false rfl (by rw [hruns]; simp) ?_
                refine WC_skip (blockN (thenN ?_))
                refine WC_pick (.z) ?_
                refine WC_pick (.s (.s (.s (.s (.z))))) ?_
                refine WC_pick (.s (.s (.s (.s (.z))))) ?_
                refine WC_pick (.s (.s (.s (.s (.z))))) ?_
                refine WC_pick (.s (.s (.s (.s (.s (.z)))))) ?_
                refine WC_pick (.s (.s (.s (.s (.s (.s (.s (.s (.s (.s (.z))))))))))) ?_
                refine WC_pick (.s (.s (.s (.s (.s (.s (.s (.s (.s (.s (.z))))))))))) ?_
                refine WC_pick (.s (.s (.s (.s (.s (.s (.s (.s (.s (.s (.z))))))))))) ?_
                refine WC_region ?_
                refine Lq (q_move rfl) ?_
                refine Lq (q_add rfl rfl (wr64 (by omega)) (c := ((kk + 1 : Nat) : Int))) ?_
                refine Lq (q_assign rfl) ?_
                refine WL_nil (thenK ?_)
                refine ⟨(kk + 1, H2, applyRow eff X1, nxF nx1 8 (x + 1), L2, A7, cap2, Bn, tn, G1, f1, G2, f2, G3, f3), ?_, (.cons rfl (.cons rfl (.cons rfl (.cons rfl (.cons rfl (.cons rfl (.cons rfl (.nil _)))))))), (List.Sublist.cons_cons _ (List.Sublist.cons_cons _ (List.Sublist.cons_cons _ (List.Sublist.cons_cons _ (List.Sublist.cons_cons _ (List.Sublist.cons_cons _ (List.Sublist.cons_cons _ (List.Sublist.cons_cons _ (List.Sublist.cons _ (List.Sublist.cons _ (List.Sublist.cons _ (List.Sublist.refl _)))))))))))), (memc (.tail _ (.tail _ (.tail _ (.tail _ (.tail _ (.tail _ (.tail _ (.tail _ (.head _))))))))) (memc (.tail _ (.tail _ (.tail _ (.tail _ (.tail _ (.tail _ (.tail _ (.tail _ (.tail _ (.head _)))))))))) (memc (.tail _ (.tail _ (.tail _ (.tail _ (.tail _ (.tail _ (.head _))))))) (memc (.tail _ (.tail _ (.head _))) (memc (.tail _ (.tail _ (.tail _ (.head _)))) (memc (.tail _ (.tail _ (.tail _ (.tail _ (.head _))))) (fun _ h => .tail _ (.tail _ (.tail _ (.tail _ (.tail _ (.tail _ (.tail _ (.tail _ (.tail _ (.tail _ (.tail _ (.tail _ (.tail _ (.tail _ (.tail _ h)))))))))))))))))))))⟩
                exact ⟨by show 2 - (kk + 1) < 2 - kk; omega, S.next, hr2, wtn, htnX⟩
            · refine WC_exit (thenExit (thenExit (blockHit (thenN (WC_seq (WC_region ?_))))))
              refine Lq (q_assign rfl) ?_
              refine WL_nil (thenN (WC_ret ?_))
              refine ⟨_, [], [], fun Z w hs => .tmp rfl (.nil), ?_, fun Z w hs => hs.out (List.Sublist.cons _ (List.Sublist.cons _ (List.Sublist.cons _ (List.Sublist.cons _ (List.Sublist.cons _ (List.Sublist.cons _ (List.Sublist.cons _ (List.Sublist.cons _ (List.Sublist.refl _))))))))) (fun _ h => .tail _ (.tail _ (.tail _ (.tail _ (.tail _ (.tail _ (.tail _ (.tail _ h))))))))⟩
              exact ⟨rfl, rfl, rfl⟩

end Go.Proofs.YtggdddkbhigjoaaDoor
set_option maxRecDepth 100000
namespace Go.Proofs.YtggdddkbhigjoaaDoor.historyTurns
open Go Go.GW Go.ChangeShapes Go.WideShapes Go.ChangeAt Go.RowKit
theorem own : ownKnob Tryd.prog.godebug = none := by kernel_rfl
/-- The walk, in the row's words. -/
theorem contract (H : Type) (enc : TypeId × Value → H) (W : World) (base : Nat) (args : Array Value) (ds gs : List (DataW H)) (before : List MemPlace)
    (hval : ∀ (j : Nat) t v, Tryd.f6.params[j]? = some t → args[j]? = some v → Value.okWide Tryd.prog W .any base t v)
    (hW : DataW.Whole enc Tryd.prog Tryd.f6.params.toList Rows.historyTurnsSpec.vars false W args.toList ds gs before) (hL : laidMetH Tryd.prog Rows.historyTurnsRow.laid W) :
    Calls Tryd.prog 6 args W fun e W' => ∃ v, e = .returned v ∧ Rows.historyTurnsSpec.post enc Tryd.prog Tryd.f6 false true false false W args v W' := by
  have hW' := hW
  have hlt := hW.lt
  obtain ⟨p, q, hA0, hV, rfl, hfz, hnd⟩ := hW
  have hA : DataW.TrodAll enc Tryd.prog W 0 (fun _ => true) true Tryd.f6.params.toList args.toList ds p := hA0
  rw [Tryd.params6] at hA hval
  obtain ⟨v0, v1, d0, d1, p0, p1, rfl, rfl, rfl, t0, t1⟩ := trodAll_two hA
  obtain ⟨rfl, rfl⟩ := trodVars_none hV
  clear hA0
  obtain ⟨A0, ms0, c0, rfl, hR0⟩ := mvs_arg (hval 0 49 v0 rfl rfl) t0
  obtain ⟨z1, rfl, -, -, wz1⟩ := open_int Tryd.underlying3 (hval 1 3 v1 rfl rfl) t1
  have hb := bars_of hL
  have hs := st_of (W := W) (As := [barF, RdF mvD A0 c0 ms0]) (fun A hA => by
    simp only [List.mem_cons, List.not_mem_nil, or_false] at hA
    rcases hA with rfl | rfl
    · exact ⟨hb.2, hb.1⟩
    · exact hR0)
  refine ((hturns_s A0 c0 ms0 z1).calls _ W [] [NearF W (fun b => b < W.heap.size)] hs).mono ?_
  rintro e W' ⟨v, rfl, Z', Lo, fs, ⟨rfl, rfl, rfl⟩, h2⟩
  have hk := h2.facts (NearF W (fun b => b < W.heap.size)) (by simp)
  have hsame : ∀ x ∈ p0 ++ p1 ++ [], W.sameAt W' x := fun x hx => same_of hk (hlt x hx)
  exact ⟨_, rfl, post_plain (pa := p0 ++ p1) (pv := []) hW' (fun _ _ _ => trodAll_cons_mk (shut_bool Tryd.underlying4 _) trodAll_mk0) (fun sp hsp => trodAll_mk2 (WideElems.Trod_stays laidOk (by kernel_rfl) (of_decide_eq_true (by kernel_rfl)) t0 (fun x hx => hsame x (List.mem_append_left _ (List.mem_append_left _ hx))) (fun x hx => hsp x (List.mem_append_left _ (List.mem_append_left _ hx)))) (WideElems.Trod_stays laidOk (by kernel_rfl) (of_decide_eq_true (by kernel_rfl)) t1 (fun x hx => hsame x (List.mem_append_left _ (List.mem_append_right _ hx))) (fun x hx => hsp x (List.mem_append_left _ (List.mem_append_right _ hx))))) (fun _ _ => rfl) rfl (kept_of hk _)⟩
/-- A world for the witness. -/
noncomputable def laidWorld (os : Os) : World :=
  { World.holding Tryd.prog os ⟨#[], #[.slice none 0 0, .int .i64 0], []⟩ with heap := (World.holding Tryd.prog os ⟨#[], #[.slice none 0 0, .int .i64 0], []⟩).heap.modify 0 fun
      | .cells _ t frozen => .cells barC.toArray t frozen
      | o => o }
theorem laid_met (os : Os) : laidMet Tryd.prog Rows.historyTurnsRow.laid ((laidWorld os).forCall (fun _ _ => 0) ⟨#[], #[.slice none 0 0, .int .i64 0], []⟩).memory :=
  laidMet_of_run' 8 (by kernel_rfl) (by kernel_rfl)
theorem reads (os : Os) {H : Type} (enc : TypeId × Value → H) : ∃ places, DataW.whole enc Tryd.prog ((laidWorld os).forCall (fun _ _ => 0) ⟨#[], #[.slice none 0 0, .int .i64 0], []⟩).memory Tryd.f6.params.toList Rows.historyTurnsSpec.vars false (#[.slice none 0 0, .int .i64 0] : Array Value).toList 8 = some ([.nil, .lit (.int .i64 0)], [], places) :=
  ⟨[], by kernel_rfl⟩
theorem lifted (os : Os) (started : os.Started) (H : Type) (enc : TypeId × Value → H) (F : Stop.Interp) :
    ReturnsInHanded {} Tryd.checked os 6 .any ((OpenSpec.ofChange Rows.historyTurnsSpec).preRow enc Tryd.prog Tryd.f6 Rows.historyTurnsRow.domain false Rows.historyTurnsRow.laid) (((OpenSpec.ofChange Rows.historyTurnsSpec).at F).post enc Tryd.prog Tryd.f6 false true false false) := by
  obtain ⟨places, hx⟩ := reads os enc
  refine returnsInHanded_of_row (C := Tryd.checked) (s := OpenSpec.ofChange Rows.historyTurnsSpec) own started (by kernel_rfl) Tryd.func6
    (witness_row_at (enc := enc) (C := Tryd.checked) false (laidWorld os) #[.slice none 0 0, .int .i64 0] rfl (by kernel_rfl) (by kernel_rfl) (by kernel_rfl)
      (OpenSpec.preRow_of_cond 8 hx (by kernel_rfl) (fun k hk => by cases hk) (by kernel_rfl) (laid_met os))) ?_
  intro W base args ds gs before hval hW _ _ _ hL _ _
  exact contract H enc W base args ds gs before hval hW hL
theorem said : Rows.HistoryTurnsSaid :=
  OpenClaim.holds_of_cond 6 Tryd.f6 rfl rfl rfl rfl rfl rfl rfl ⟨rfl, rfl, rfl, rfl, rfl⟩ rfl rfl rfl rfl rfl (by kernel_rfl) Tryd.func6 (by kernel_rfl)
    (of_decide_eq_true (by kernel_rfl)) (by unfold Func.isWrapper; first | (rw [if_pos (by decide +kernel)]; kernel_rfl) | (rw [if_neg (by decide +kernel)]; exact ⟨rfl, rfl⟩))
    (fun os started H enc _ F => by rw [OpenClaim.pre_eq_preRow]; exact lifted os started H enc F)
theorem plain (f : FuncId) (fn : Func) (hf : Tryd.pinned.checked.prog.funcNamed "redraft/redraftlaw06.HistoryTurns" = some f) (hfn : Tryd.pinned.checked.prog.funcs[f]? = some fn) :
    false = Tryd.pinned.checked.prog.looks [] ∧ ∀ (j : Nat) t, fn.params[j]? = some t → Tryd.pinned.checked.prog.wantsStandIn t = false := by
  obtain rfl : f = 6 := Option.some.inj ((show Tryd.prog.funcNamed "redraft/redraftlaw06.HistoryTurns" = some 6 by kernel_rfl).symm.trans hf) |>.symm
  obtain rfl : fn = Tryd.f6 := (Option.some.inj (Tryd.func6.symm.trans hfn)).symm
  refine ⟨by kernel_rfl, fun j t ht => ?_⟩
  rw [Tryd.params6] at ht
  rcases j with _ | _ | j
  · simp at ht; subst ht; kernel_rfl
  · simp at ht; subst ht; kernel_rfl
  · simp at ht
theorem card : Rows.HistoryTurnsCardSaid :=
  Claim7.holds_tied_plain_at .later [] _ _ _ _ said (fun _ h => by cases h) (by kernel_rfl) (fun _ h => by cases h) historyTurns_row_tie rfl ⟨rfl, rfl⟩ (by kernel_rfl) rfl plain (by kernel_rfl)
#print axioms card
end Go.Proofs.YtggdddkbhigjoaaDoor.historyTurns
