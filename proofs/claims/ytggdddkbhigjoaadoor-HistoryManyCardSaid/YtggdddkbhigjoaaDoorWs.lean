/- Walks: the law's words. -/
import Derived.Test.YtggdddkbhigjoaaDoorWr
import Derived.Test.YtggdddkbhigjoaaDoorTx
set_option linter.unusedVariables false
set_option linter.unusedSimpArgs false
namespace Go.Proofs.YtggdddkbhigjoaaDoor
open Go Go.GW
theorem tmod_nat (a m : Nat) : ((a : Int).tmod (m : Int)) = ((a % m : Nat) : Int) := by
  rw [Int.tmod_eq_emod_of_nonneg (by omega)]; exact (Int.natCast_emod a m).symm
theorem conv_rune (x : Int) (h : 0 ≤ x ∧ x ≤ 2147483647) (w : World) : (convert 3 21 (.int .i64 x)).run Tryd.prog w = .ok (.int .i32 x) w := by
  have h1 : (convert 3 21 (.int .i64 x)).run Tryd.prog w = .ok (.int .i32 (IntKind.i32.wrap x)) w := by kernel_rfl
  have h2 : (x + 2147483648) % 4294967296 - 2147483648 = x := by omega
  rw [h1, IntKind.wrap_i32, h2]
theorem conv_text (x : Int) (w : World) : (convert 21 9 (.int .i32 x)).run Tryd.prog w = .ok (.string (Utf8.encode x)) w := by kernel_rfl
theorem encode_wide : Utf8.encode 8364 = mkB [0xE2, 0x82, 0xAC] := by decide
theorem encode_one (c : Nat) (h : c < 128) : Utf8.encode (c : Int) = mkB [UInt8.ofNat c] := by
  unfold Utf8.encode
  have hv : Utf8.valid (c : Int) = true := by unfold Utf8.valid; simp; omega
  simp only [hv, if_true, Int.toNat_natCast, if_pos h]; rfl
theorem encode_of (j : Nat) : Utf8.encode (if wide j = true then 8364 else ((97 + j % 26 : Nat) : Int)) = mkB (bytesOf j) := by
  unfold bytesOf
  split
  · exact encode_wide
  · exact encode_one _ (by have := Nat.mod_lt j (show 0 < 26 by decide); omega)

set_option maxRecDepth 10000 in
theorem rest_s (a m : Nat) (ha : a ≤ 4611686018427387904) (hm : 0 < m ∧ m ≤ 4611686018427387904) : Sp Tryd.prog 19 [.int .i64 a, .int .i64 m] [] [] (Is (.int .i64 ((a % m : Nat) : Int))) := by
  refine Sp.of (n := 12) ⟨_, Tryd.func19, rfl, rfl, rfl, rfl⟩ (Nat.le_of_ble_eq_true rfl) fun Ps As => ?_
  refine WC_seq ?_
  refine WC_region ?_
  refine WL_q (q_assign rfl) (by decide) ?_
  refine WL_nil ?_
  refine thenN ?_
  refine WC_seq ?_
  refine WC_region ?_
  refine WL_q (q_move rfl) (by decide) ?_
  refine WL_q (q_move rfl) (by decide) ?_
  refine WL_q (q_rem rfl rfl (by omega) (tmod_nat a m)) (by decide) ?_
  refine WL_q (q_move rfl) (by decide) ?_
  refine WL_q (q_add rfl rfl (wr64 (by have := Nat.mod_lt a hm.1; omega)) (c := ((a % m + m : Nat) : Int))) (by decide) ?_
  refine WL_q (q_move rfl) (by decide) ?_
  refine WL_q (q_rem rfl rfl (by omega) (tmod_nat (a % m + m) m)) (by decide) ?_
  refine WL_q (q_assign rfl) (by decide) ?_
  refine WL_nil ?_
  refine thenN ?_
  refine WC_ret ?_
  refine ⟨_, [], [], fun Z w hs => .tmp rfl (.nil), ?_, fun Z w hs => hs.out (List.Sublist.refl _) (fun _ h => h)⟩
  exact ⟨by rw [show (a % m + m) % m = a % m from by rw [Nat.add_mod_right, Nat.mod_mod]]; rfl, rfl, rfl⟩


set_option maxRecDepth 10000 in
theorem words_s (n k : Nat) (hn : n ≤ 1000000) (hk : k ≤ 1000000) : Sp Tryd.prog 10 [.int .i64 n, .int .i64 k] [] [] (Is (.string (textB k n))) := by
  refine Sp.of (n := 29) ⟨_, Tryd.func10, rfl, rfl, rfl, rfl⟩ (Nat.le_of_ble_eq_true rfl) fun Ps As => ?_
  refine WC_seq ?_
  refine WC_region ?_
  refine WL_q (q_assign rfl) (by decide) ?_
  refine WL_nil ?_
  refine thenN ?_
  refine WC_seq ?_
  refine WC_region ?_
  refine WL_q (q_assign rfl) (by decide) ?_
  refine WL_nil ?_
  refine thenN ?_
  refine WC_seq ?_
  refine WC_seq ?_
  refine WC_region ?_
  refine WL_q (q_assign rfl) (by decide) ?_
  refine WL_nil ?_
  refine thenN ?_
  refine WC_block ?_
  refine WC_loopE (α := Nat) (fun i => n - i)
    (fun i => [(0, .int .i64 n), (1, .int .i64 k), (5, .string (textB k i)), (6, .int .i64 i)])
    (fun i => Ps)
    (fun i => As)
    (fun i => i ≤ n)
    0 ?_ (.cons rfl (.cons rfl (.cons rfl (.cons rfl (.nil _))))) (List.Sublist.refl _) (fun _ h => h) ?_
  · exact Nat.zero_le _
  · rintro i hI
    refine WC_seq ?_
    refine WC_seq ?_
    refine WC_region ?_
    refine WL_q (q_move rfl) (by decide) ?_
    refine WL_q (q_move rfl) (by decide) ?_
    refine WL_q (q_lss rfl rfl) (by decide) ?_
    refine WL_nil ?_
    refine thenN ?_
    refine WC_cond rfl (fun h10 => ?_) (fun h10 => ?_)
    · refine WC_skip ?_
      refine thenN ?_
      refine WC_seq ?_
      refine WC_block ?_
      refine WC_seq ?_
      refine WC_region ?_
      refine WL_q (q_move rfl) (by decide) ?_
      refine WL_q (q_move rfl) (by decide) ?_
      refine WL_q (q_add rfl rfl (wr64 (by omega)) (c := ((k + i : Nat) : Int))) (by decide) ?_
      refine WL_main rfl (OW_call0 (rest_s (k + i) 26 (by omega) (by omega)) (.cons (by simp only [Int.natCast_add]; rfl) (.cons rfl (.nil))) (by decide) mem0 fun u5_3 Lo fs hres => ?_)
      obtain ⟨rfl, rfl, rfl⟩ := hres
      refine WL_q (q_add rfl rfl (wr64 (by omega))) (by decide) ?_
      refine WL_q (q_conv rfl (conv_rune _ (by omega))) (by decide) ?_
      refine WL_q (q_assign rfl) (by decide) ?_
      refine WL_nil ?_
      refine thenN ?_
      refine WC_seq ?_
      refine WC_seq ?_
      refine WC_region ?_
      refine WL_q (q_move rfl) (by decide) ?_
      refine WL_q (q_move rfl) (by decide) ?_
      refine WL_q (q_add rfl rfl (wr64 (by omega)) (c := ((k + i : Nat) : Int))) (by decide) ?_
      refine WL_main rfl (OW_call0 (rest_s (k + i) 7 (by omega) (by omega)) (.cons (by simp only [Int.natCast_add]; rfl) (.cons rfl (.nil))) (by decide) mem0 fun u6_3 Lo fs hres => ?_)
      obtain ⟨rfl, rfl, rfl⟩ := hres
      refine WL_q (q_eql rfl rfl) (by decide) ?_
      refine WL_nil ?_
      refine thenN ?_
      refine WC_cond rfl (fun h23 => ?_) (fun h23 => ?_)
      · refine WC_region ?_
        refine WL_q (q_assign rfl) (by decide) ?_
        refine WL_nil ?_
        refine thenN ?_
        try simp only [decide_eq_true_eq, decide_eq_false_iff_not, beq_iff_eq, bne_iff_ne, beq_eq_false_iff_ne, ne_eq, Bool.and_eq_true, Bool.not_eq_true', Bool.not_eq_false', Bool.not_eq_true, Bool.not_eq_false, bne_eq_false_iff_eq, Bool.and_eq_false_iff] at *
        have hwd : wide (k + i) = true := by unfold wide; simp only [decide_eq_true_eq, decide_eq_false_iff_not]; omega
        have henc : Utf8.encode 8364 = mkB (bytesOf (k + i)) := by have h1 := encode_of (k + i); rw [hwd] at h1; simpa using h1
        have hsz : (textB k i).size + (mkB (bytesOf (k + i))).size ≤ 9223372036854775807 := by rw [mkB_size, show (textB k i).size = (textL k i).length from mkB_size _]; have h2 := textL_len i k; have h3 := bytesOf_len (k + i); omega
        refine WC_region ?_
        refine WL_q (q_move rfl) (by decide) ?_
        refine WL_q (q_move rfl) (by decide) ?_
        refine WL_q (q_conv rfl (fun w => (conv_text _ w).trans (by rw [henc]))) (by decide) ?_
        refine WL_q (q_cat rfl rfl hsz) (by decide) ?_
        refine WL_q (q_assign rfl) (by decide) ?_
        refine WL_nil ?_
        refine blockN ?_
        refine thenN ?_
        refine WC_region ?_
        refine WL_q (q_move rfl) (by decide) ?_
        refine WL_q (q_add rfl rfl (wr64 (by omega))) (by decide) ?_
        refine WL_q (q_assign rfl) (by decide) ?_
        refine WL_nil ?_
        refine thenK ?_
        have htx : textB k i ++ mkB (bytesOf (k + i)) = textB k (i + 1) := by unfold textB; rw [mkB_append, textL_snoc]
        refine ⟨i + 1, ?_, (.cons rfl (.cons rfl (.cons (congrArg (fun z => some (Value.string z)) htx) (.cons rfl (.nil _))))), (List.Sublist.refl _), (fun _ h => h)⟩
        exact ⟨by omega, by omega⟩
      · refine WC_skip ?_
        refine thenN ?_
        try simp only [decide_eq_true_eq, decide_eq_false_iff_not, beq_iff_eq, bne_iff_ne, beq_eq_false_iff_ne, ne_eq, Bool.and_eq_true, Bool.not_eq_true', Bool.not_eq_false', Bool.not_eq_true, Bool.not_eq_false, bne_eq_false_iff_eq, Bool.and_eq_false_iff] at *
        have hwd : wide (k + i) = false := by unfold wide; simp only [decide_eq_true_eq, decide_eq_false_iff_not]; omega
        have henc : Utf8.encode (97 + ((k + i) % 26 : Nat) : Int) = mkB (bytesOf (k + i)) := by have h1 := encode_of (k + i); rw [hwd] at h1; simpa using h1
        have hsz : (textB k i).size + (mkB (bytesOf (k + i))).size ≤ 9223372036854775807 := by rw [mkB_size, show (textB k i).size = (textL k i).length from mkB_size _]; have h2 := textL_len i k; have h3 := bytesOf_len (k + i); omega
        refine WC_region ?_
        refine WL_q (q_move rfl) (by decide) ?_
        refine WL_q (q_move rfl) (by decide) ?_
        refine WL_q (q_conv rfl (fun w => (conv_text _ w).trans (by rw [henc]))) (by decide) ?_
        refine WL_q (q_cat rfl rfl hsz) (by decide) ?_
        refine WL_q (q_assign rfl) (by decide) ?_
        refine WL_nil ?_
        refine blockN ?_
        refine thenN ?_
        refine WC_region ?_
        refine WL_q (q_move rfl) (by decide) ?_
        refine WL_q (q_add rfl rfl (wr64 (by omega))) (by decide) ?_
        refine WL_q (q_assign rfl) (by decide) ?_
        refine WL_nil ?_
        refine thenK ?_
        have htx : textB k i ++ mkB (bytesOf (k + i)) = textB k (i + 1) := by unfold textB; rw [mkB_append, textL_snoc]
        refine ⟨i + 1, ?_, (.cons rfl (.cons rfl (.cons (congrArg (fun z => some (Value.string z)) htx) (.cons rfl (.nil _))))), (List.Sublist.refl _), (fun _ h => h)⟩
        exact ⟨by omega, by omega⟩
    · refine WC_exit ?_
      refine thenExit ?_
      refine thenExit ?_
      refine blockHit ?_
      refine thenN ?_
      refine WC_seq ?_
      refine WC_region ?_
      refine WL_q (q_move rfl) (by decide) ?_
      refine WL_q (q_assign rfl) (by decide) ?_
      refine WL_nil ?_
      refine thenN ?_
      refine WC_ret ?_
      try simp only [decide_eq_true_eq, decide_eq_false_iff_not, beq_iff_eq, bne_iff_ne, beq_eq_false_iff_ne, ne_eq, Bool.and_eq_true, Bool.not_eq_true', Bool.not_eq_false', Bool.not_eq_true, Bool.not_eq_false, bne_eq_false_iff_eq, Bool.and_eq_false_iff] at *
      obtain rfl : i = n := by omega
      refine ⟨_, [], [], fun Z w hs => .tmp rfl (.nil), ?_, fun Z w hs => hs.out (List.Sublist.refl _) (fun _ h => h)⟩
      exact ⟨rfl, rfl, rfl⟩


set_option maxRecDepth 10000 in
theorem lown_s (o : GOp) (A : Option Addr) (c : Nat) (hl : o.rs.length ≤ 4398046511104) : Sp Tryd.prog 12 [opV o A c] [] [RdF rgD A c o.rs] (fun v Lo fs => ∃ A' c', v = opV o A' c' ∧ Lo = [] ∧ fs = [RdF rgD A' c' o.rs]) := by
  refine Sp.of (n := 8) ⟨_, Tryd.func12, rfl, rfl, rfl, rfl⟩ (Nat.le_of_ble_eq_true rfl) fun Ps As => ?_
  refine WC_seq ?_
  refine WC_region ?_
  refine WL_main rfl (OW_box (cs := [_, _, _, _, _, _, _, _, _]) rfl rfl (by decide) fun b1 => ?_)
  refine WL_main rfl (OW_alloc (cs := [_, _, _, _, _, _, _, _, _]) ti31 rfl (by decide) fun b2 => ?_)
  refine WL_nil ?_
  refine thenN ?_
  refine WC_seq ?_
  refine WC_region ?_
  refine WL_q (q_field (o' := 5) Tryd.underlying31 rfl ti29 rfl rfl) (by decide) ?_
  refine WL_q (q_load1 Tryd.underlying29 rfl rfl (ownS (own0)) rfl) (by decide) ?_
  refine WL_nilPart ?_
  refine WL_main rfl (OW_appendS (e := rgD) (ys := o.rs) Tryd.underlying29 ti37 rfl (by decide) rfl rfl (Row.nil _ _) (.head _) (by simp only [Nat.zero_add]; omega) (by unfold maxLen; omega) (by decide) (List.Perm.refl _) fun v5 p5 cs5 hr5 => ?_)
  refine WL_freeze (e := rgD) (css := cs5) hr5 (.z) (by simp) (.head _) fun A5 c5 e5 => ?_
  subst e5
  refine WL_q (q_field (o' := 5) Tryd.underlying31 rfl ti29 rfl rfl) (by decide) ?_
  refine WL_main rfl (OW_store1 ti29 rfl rfl rfl (.s (.s (.s (.s (.s (.z)))))) (.s (.z)) ?_)
  refine WL_nil ?_
  refine thenN ?_
  refine WC_seq ?_
  refine WC_region ?_
  refine WL_q (q_loadN (vs := [_, _, _, _, _, _, _, _, _]) Tryd.underlying31 rfl ti31 rfl (ownS (own0)) rfl rfl) (by decide) ?_
  refine WL_main rfl (OW_storeN (cs' := [_, _, _, _, _, _, _, _, _]) (vs := [_, _, _, _, _, _, _, _, _]) ti31 rfl rfl rfl rfl rfl (Nat.le_of_ble_eq_true rfl) (.z) ?_)
  refine WL_nil ?_
  refine thenN ?_
  refine WC_ret ?_
  refine ⟨_, [], [RdF rgD A5 c5 o.rs], fun Z w hs => RV_ownN hs Tryd.underlying31 rfl ti31 rfl own0 rfl (.nil), ?_, fun Z w hs => hs.out (List.Sublist.cons _ (List.Sublist.cons _ (List.Sublist.refl _))) (memc (.head _) (fun _ h => .tail _ (.tail _ h)))⟩
  exact ⟨A5, c5, rfl, rfl, rfl⟩

end Go.Proofs.YtggdddkbhigjoaaDoor
