/- Walks: begins. -/
import Derived.Test.YtggdddkbhigjoaaDoorWe
import Derived.Test.YtggdddkbhigjoaaDoorUt
set_option linter.unusedVariables false
set_option linter.unusedSimpArgs false
namespace Go.Proofs.YtggdddkbhigjoaaDoor
open Go Go.GW

set_option maxRecDepth 10000 in
theorem prefix_s (s t : ByteArray) : Sp Tryd.prog 110 [.string s, .string t] [] [] (Is (.bool (prefF s t))) := by
  refine Sp.of (n := 18) ⟨_, Tryd.func110, rfl, rfl, rfl, rfl⟩ (Nat.le_of_ble_eq_true rfl) fun Ps As => ?_
  refine WC_seq ?_
  refine WC_region ?_
  refine WL_q (q_assign rfl) (by decide) ?_
  refine WL_nil ?_
  refine thenN ?_
  refine WC_seq ?_
  refine WC_region ?_
  refine WL_q (q_move rfl) (by decide) ?_
  refine WL_q (q_lenS Tryd.underlying9 rfl) (by decide) ?_
  refine WL_q (q_move rfl) (by decide) ?_
  refine WL_q (q_lenS Tryd.underlying9 rfl) (by decide) ?_
  refine WL_q (q_geq rfl rfl) (by decide) ?_
  refine WL_q (q_move rfl) (by decide) ?_
  refine WL_guard (t := 10) rfl (fun g10 => ?_) (fun g10 => ?_)
  · refine WL_gq rfl rfl rfl g10 (q_move rfl) (by decide) ?_
    refine WL_gq rfl rfl rfl g10 (q_move rfl) (by decide) ?_
    refine WL_gq rfl rfl rfl g10 (q_lenS Tryd.underlying9 rfl) (by decide) ?_
    refine WL_gq rfl rfl rfl g10 (q_sliceShi Tryd.underlying9 rfl rfl (by omega) (by simpa using g10)) (by decide) ?_
    refine WL_gq rfl rfl rfl g10 (q_move rfl) (by decide) ?_
    refine WL_gq rfl rfl rfl g10 (q_seql rfl rfl) (by decide) ?_
    refine WL_q (q_pickT rfl g10 rfl) (by decide) ?_
    refine WL_q (q_assign rfl) (by decide) ?_
    refine WL_nil ?_
    refine thenN ?_
    refine WC_fr [(4, _)] (.cons rfl (.nil _)) ?_
    refine WC_ret ?_
    refine ⟨_, [], [], fun Z w hs => .tmp rfl (.nil), ?_, fun Z w hs => hs.out (List.Sublist.refl _) (fun _ h => h)⟩
    exact ⟨by unfold prefF; simp at g10; simp [tup, g10] <;> omega, rfl, rfl⟩
  · refine WL_gno rfl rfl rfl g10 (by decide) ?_
    refine WL_gno rfl rfl rfl g10 (by decide) ?_
    refine WL_gno rfl rfl rfl g10 (by decide) ?_
    refine WL_gno rfl rfl rfl g10 (by decide) ?_
    refine WL_gno rfl rfl rfl g10 (by decide) ?_
    refine WL_gno rfl rfl rfl g10 (by decide) ?_
    refine WL_q (q_pickF rfl g10 rfl) (by decide) ?_
    refine WL_q (q_assign rfl) (by decide) ?_
    refine WL_nil ?_
    refine thenN ?_
    refine WC_fr [(4, _)] (.cons rfl (.nil _)) ?_
    refine WC_ret ?_
    refine ⟨_, [], [], fun Z w hs => .tmp rfl (.nil), ?_, fun Z w hs => hs.out (List.Sublist.refl _) (fun _ h => h)⟩
    exact ⟨by unfold prefF; simp at g10; simp [tup, g10] <;> omega, rfl, rfl⟩


set_option maxRecDepth 10000 in
theorem sprefix_s (s t : ByteArray) : Sp Tryd.prog 105 [.string s, .string t] [] [] (Is (.bool (prefF s t))) := by
  refine Sp.of (n := 8) ⟨_, Tryd.func105, rfl, rfl, rfl, rfl⟩ (Nat.le_of_ble_eq_true rfl) fun Ps As => ?_
  refine WC_seq ?_
  refine WC_region ?_
  refine WL_q (q_assign rfl) (by decide) ?_
  refine WL_nil ?_
  refine thenN ?_
  refine WC_seq ?_
  refine WC_region ?_
  refine WL_q (q_move rfl) (by decide) ?_
  refine WL_q (q_move rfl) (by decide) ?_
  refine WL_main rfl (OW_call0 (prefix_s s t) (.cons rfl (.cons rfl (.nil))) (by decide) mem0 fun u1_2 Lo fs hres => ?_)
  obtain ⟨rfl, rfl, rfl⟩ := hres
  refine WL_q (q_assign rfl) (by decide) ?_
  refine WL_nil ?_
  refine thenN ?_
  refine WC_ret ?_
  refine ⟨_, [], [], fun Z w hs => .tmp rfl (.nil), ?_, fun Z w hs => hs.out (List.Sublist.refl _) (fun _ h => h)⟩
  exact ⟨rfl, rfl, rfl⟩


set_option maxRecDepth 10000 in
theorem begins_s (s : ByteArray) (p : Nat) (c : Int) (hp : p ≤ s.size) : Sp Tryd.prog 92 [.string s, .int .i64 p, .int .i32 c] [] [] (Is (.bool (begF s p c))) := by
  refine Sp.of (n := 15) ⟨_, Tryd.func92, rfl, rfl, rfl, rfl⟩ (Nat.le_of_ble_eq_true rfl) fun Ps As => ?_
  refine WC_seq ?_
  refine WC_region ?_
  refine WL_q (q_assign rfl) (by decide) ?_
  refine WL_nil ?_
  refine thenN ?_
  refine WC_seq ?_
  refine WC_region ?_
  refine WL_q (q_move rfl) (by decide) ?_
  refine WL_q (q_neq rfl rfl) (by decide) ?_
  refine WL_q (q_move rfl) (by decide) ?_
  refine WL_guard (t := 9) rfl (fun g9 => ?_) (fun g9 => ?_)
  · refine WL_gno rfl rfl rfl g9 (by decide) ?_
    refine WL_gno rfl rfl rfl g9 (by decide) ?_
    refine WL_gno rfl rfl rfl g9 (by decide) ?_
    refine WL_gno rfl rfl rfl g9 (by decide) ?_
    refine WL_q (q_pickT rfl g9 rfl) (by decide) ?_
    refine WL_q (q_assign rfl) (by decide) ?_
    refine WL_nil ?_
    refine thenN ?_
    refine WC_ret ?_
    refine ⟨_, [], [], fun Z w hs => .tmp rfl (.nil), ?_, fun Z w hs => hs.out (List.Sublist.refl _) (fun _ h => h)⟩
    exact ⟨by unfold begF; simp at g9; simp [tup, g9], rfl, rfl⟩
  · refine WL_gq rfl rfl rfl g9 (q_move rfl) (by decide) ?_
    refine WL_gq rfl rfl rfl g9 (q_move rfl) (by decide) ?_
    refine WL_gq rfl rfl rfl g9 (q_sliceSlo Tryd.underlying9 rfl rfl (by omega) (by omega)) (by decide) ?_
    refine WL_gmain rfl rfl rfl g9 (OW_call0 (sprefix_s (s.extract p s.size) fffd) (.cons rfl (.cons rfl (.nil))) (by decide) mem0 fun u1_6 Lo fs hres => ?_)
    obtain ⟨rfl, rfl, rfl⟩ := hres
    refine WL_q (q_pickF rfl g9 rfl) (by decide) ?_
    refine WL_q (q_assign rfl) (by decide) ?_
    refine WL_nil ?_
    refine thenN ?_
    refine WC_ret ?_
    refine ⟨_, [], [], fun Z w hs => .tmp rfl (.nil), ?_, fun Z w hs => hs.out (List.Sublist.refl _) (fun _ h => h)⟩
    exact ⟨by unfold begF; simp at g9; simp [tup, g9], rfl, rfl⟩

def LetI (c : Int) (k : Nat) : Prop := k ≤ 5 ∧ ∀ (j : Nat) (h : j < barL.length), j < k → ¬ (barL[j].1 ≤ c ∧ c ≤ barL[j].2)
theorem LetI.hit {c : Int} {k : Nat} (hk : k < barL.length) (h : barL[k].1 ≤ c ∧ c ≤ barL[k].2) : letF c = false := by
  unfold letF
  have : (barL.all fun b => !(decide (b.1 ≤ c) && decide (c ≤ b.2))) = false := by
    rw [List.all_eq_false]
    exact ⟨_, List.getElem_mem hk, by simp [h]⟩
  rw [this]; rfl
theorem LetI.next {c : Int} {k : Nat} (h : LetI c k) (hk : k < barL.length) (hn : ¬ (barL[k].1 ≤ c ∧ c ≤ barL[k].2)) : LetI c (k + 1) := by
  refine ⟨hk, fun j hj hjk => ?_⟩
  by_cases e : j = k
  · subst e; exact hn
  · exact h.2 j hj (by omega)
theorem LetI.done {c : Int} {k : Nat} (h : LetI c k) (hk : ¬ (k : Int) < 5) : letF c = decide (c % 65536 < 65534) := by
  unfold letF
  have : (barL.all fun b => !(decide (b.1 ≤ c) && decide (c ≤ b.2))) = true := by
    rw [List.all_eq_true]
    intro b hb
    obtain ⟨j, hj, rfl⟩ := List.mem_iff_getElem.1 hb
    have hj5 : j < 5 := hj
    have := h.2 j hj (by omega)
    simpa [-not_and, Decidable.not_and_iff_not_or_not] using this
  rw [this]; rfl

set_option maxRecDepth 10000 in
theorem letIn_s (c : Int) : Sp Tryd.prog 93 [.int .i32 c] [] [barF] (Is (.bool (letF c))) := by
  refine Sp.of (n := 23) ⟨_, Tryd.func93, rfl, rfl, rfl, rfl⟩ (Nat.le_of_ble_eq_true rfl) fun Ps As => ?_
  refine WC_seq ?_
  refine WC_region ?_
  refine WL_q (q_assign rfl) (by decide) ?_
  refine WL_nil ?_
  refine thenN ?_
  refine WC_seq ?_
  refine WC_seq ?_
  refine WC_region ?_
  refine WL_q (q_loadFN (k := 0) (vs := barC) Tryd.underlying187 rfl ti187 rfl (.head _) rfl rfl rfl) (by decide) ?_
  refine WL_q (q_move rfl) (by decide) ?_
  refine WL_nil ?_
  refine thenN ?_
  refine WC_block ?_
  refine WC_loopE (α := Nat) (fun k => 5 - k)
    (fun k => [(0, .int .i32 c), (5, .agg barC.toArray), (6, .int .i64 k)])
    (fun k => Ps)
    (fun k => (barF :: As))
    (fun k => LetI c k)
    0 ?_ (.cons rfl (.cons rfl (.cons rfl (.nil _)))) (List.Sublist.refl _) (fun _ h => h) ?_
  · exact ⟨Nat.zero_le _, fun j hj hjk => absurd hjk (by omega)⟩
  · rintro k hI
    refine WC_seq ?_
    refine WC_region ?_
    refine WL_q (q_lss rfl rfl) (by decide) ?_
    refine WL_nil ?_
    refine thenN ?_
    refine WC_seq ?_
    refine WC_cond rfl (fun h7 => ?_) (fun h7 => ?_)
    · refine WC_skip ?_
      refine thenN ?_
      refine WC_seq ?_
      refine WC_block ?_
      refine WC_seq ?_
      try simp only [decide_eq_true_eq, decide_eq_false_iff_not, beq_iff_eq, bne_iff_ne, beq_eq_false_iff_ne, ne_eq, Bool.and_eq_true, Bool.not_eq_true', Bool.not_eq_false', Bool.not_eq_true, Bool.not_eq_false, bne_eq_false_iff_eq, Bool.and_eq_false_iff] at *
      have hk : k < barL.length := by show k < 5; omega
      refine WC_region ?_
      refine WL_q (q_index2 Tryd.underlying187 Tryd.underlying186 rfl ti186 rfl rfl (by omega) (by omega) (bar_at k hk)) (by decide) ?_
      refine WL_main rfl (OW_alloc (cs := [_, _]) ti186 rfl (by decide) fun b4 => ?_)
      refine WL_main rfl (OW_storeN (cs' := [_, _]) (vs := [_, _]) ti186 rfl rfl rfl rfl rfl (Nat.le_of_ble_eq_true rfl) (.z) ?_)
      refine WL_nil ?_
      refine thenN ?_
      refine WC_seq ?_
      refine WC_region ?_
      refine WL_q (q_field (o' := 0) Tryd.underlying186 rfl ti21 rfl rfl) (by decide) ?_
      refine WL_q (q_load1 Tryd.underlying21 rfl rfl own0 rfl) (by decide) ?_
      refine WL_q (q_move rfl) (by decide) ?_
      refine WL_q (q_leq rfl rfl) (by decide) ?_
      refine WL_q (q_move rfl) (by decide) ?_
      refine WL_guard (t := 13) rfl (fun g13 => ?_) (fun g13 => ?_)
      · refine WL_gq rfl rfl rfl g13 (q_move rfl) (by decide) ?_
        refine WL_gq rfl rfl rfl g13 (q_field (o' := 1) Tryd.underlying186 rfl ti21 rfl rfl) (by decide) ?_
        refine WL_gq rfl rfl rfl g13 (q_load1 Tryd.underlying21 rfl rfl own0 rfl) (by decide) ?_
        refine WL_gq rfl rfl rfl g13 (q_leq rfl rfl) (by decide) ?_
        refine WL_q (q_pickT rfl g13 rfl) (by decide) ?_
        refine WL_nil ?_
        refine thenN ?_
        refine WC_cond rfl (fun h18 => ?_) (fun h18 => ?_)
        · refine WC_seq ?_
          refine WC_region ?_
          refine WL_q (q_assign rfl) (by decide) ?_
          refine WL_nil ?_
          refine thenN ?_
          refine WC_ret ?_
          refine blockRet ?_
          refine thenRet ?_
          refine thenRet ?_
          refine blockRet ?_
          refine thenRet ?_
          refine ⟨_, [], [], fun Z w hs => .tmp rfl (.nil), ?_, fun Z w hs => hs.out (List.Sublist.cons _ (List.Sublist.refl _)) (fun _ h => h)⟩
          try simp only [decide_eq_true_eq, decide_eq_false_iff_not, beq_iff_eq, bne_iff_ne, beq_eq_false_iff_ne, ne_eq, Bool.and_eq_true, Bool.not_eq_true', Bool.not_eq_false', Bool.not_eq_true, Bool.not_eq_false, bne_eq_false_iff_eq, Bool.and_eq_false_iff] at *
          first
            | exact ⟨by rw [hI.done (by omega)]; rfl, rfl, rfl⟩
            | exact ⟨by rw [LetI.hit hk (by omega)]; rfl, rfl, rfl⟩
        · refine WC_skip ?_
          refine blockN ?_
          refine thenN ?_
          refine WC_region ?_
          refine WL_q (q_add rfl rfl (wr64 (by omega))) (by decide) ?_
          refine WL_q (q_move rfl) (by decide) ?_
          refine WL_nil ?_
          refine thenK ?_
          refine ⟨k + 1, ?_, (.cons rfl (.cons rfl (.cons rfl (.nil _)))), (List.Sublist.cons _ (List.Sublist.refl _)), (fun _ h => h)⟩
          try simp only [decide_eq_true_eq, decide_eq_false_iff_not, beq_iff_eq, bne_iff_ne, beq_eq_false_iff_ne, ne_eq, Bool.and_eq_true, Bool.not_eq_true', Bool.not_eq_false', Bool.not_eq_true, Bool.not_eq_false, bne_eq_false_iff_eq, Bool.and_eq_false_iff] at *
          exact ⟨by omega, hI.next hk (by omega)⟩
      · refine WL_gno rfl rfl rfl g13 (by decide) ?_
        refine WL_gno rfl rfl rfl g13 (by decide) ?_
        refine WL_gno rfl rfl rfl g13 (by decide) ?_
        refine WL_gno rfl rfl rfl g13 (by decide) ?_
        refine WL_q (q_pickF rfl g13 rfl) (by decide) ?_
        refine WL_nil ?_
        refine thenN ?_
        refine WC_false rfl rfl ?_
        refine WC_skip ?_
        refine blockN ?_
        refine thenN ?_
        refine WC_region ?_
        refine WL_q (q_add rfl rfl (wr64 (by omega))) (by decide) ?_
        refine WL_q (q_move rfl) (by decide) ?_
        refine WL_nil ?_
        refine thenK ?_
        refine ⟨k + 1, ?_, (.cons rfl (.cons rfl (.cons rfl (.nil _)))), (List.Sublist.cons _ (List.Sublist.refl _)), (fun _ h => h)⟩
        try simp only [decide_eq_true_eq, decide_eq_false_iff_not, beq_iff_eq, bne_iff_ne, beq_eq_false_iff_ne, ne_eq, Bool.and_eq_true, Bool.not_eq_true', Bool.not_eq_false', Bool.not_eq_true, Bool.not_eq_false, bne_eq_false_iff_eq, Bool.and_eq_false_iff] at *
        exact ⟨by omega, hI.next hk (by omega)⟩
    · refine WC_exit ?_
      refine thenExit ?_
      refine thenExit ?_
      refine blockHit ?_
      refine thenN ?_
      refine WC_seq ?_
      refine WC_region ?_
      refine WL_q (q_move rfl) (by decide) ?_
      refine WL_q (q_and rfl rfl (i32_and65535 _)) (by decide) ?_
      refine WL_q (q_lss rfl rfl) (by decide) ?_
      refine WL_q (q_assign rfl) (by decide) ?_
      refine WL_nil ?_
      refine thenN ?_
      refine WC_ret ?_
      refine ⟨_, [], [], fun Z w hs => .tmp rfl (.nil), ?_, fun Z w hs => hs.out (List.Sublist.refl _) (fun _ h => h)⟩
      try simp only [decide_eq_true_eq, decide_eq_false_iff_not, beq_iff_eq, bne_iff_ne, beq_eq_false_iff_ne, ne_eq, Bool.and_eq_true, Bool.not_eq_true', Bool.not_eq_false', Bool.not_eq_true, Bool.not_eq_false, bne_eq_false_iff_eq, Bool.and_eq_false_iff] at *
      first
        | exact ⟨by rw [hI.done (by omega)]; rfl, rfl, rfl⟩
        | exact ⟨by rw [LetI.hit hk (by omega)]; rfl, rfl, rfl⟩

end Go.Proofs.YtggdddkbhigjoaaDoor
