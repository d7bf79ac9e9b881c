/- Walks: utext.Check. -/
import Derived.Test.YtggdddkbhigjoaaDoorWf
set_option linter.unusedVariables false
set_option linter.unusedSimpArgs false
namespace Go.Proofs.YtggdddkbhigjoaaDoor
open Go Go.GW
structure UtI (s : ByteArray) (p k : Nat) : Prop where
  le : p ≤ s.size
  kp : k ≤ p
  eq : utF s = utAt s p k

set_option maxRecDepth 10000 in
theorem utCheck_s (s : ByteArray) (hs : s.size ≤ 4611686018427387904) : Sp Tryd.prog 68 [.string s] [] [barF] (Is (.tuple #[.int .i64 (utF s).1, .int .i64 (utF s).2.1, .int .i64 (utF s).2.2])) := by
  refine Sp.of (n := 27) ⟨_, Tryd.func68, rfl, rfl, rfl, rfl⟩ (Nat.le_of_ble_eq_true rfl) fun Ps As => ?_
  refine WC_seq ?_
  refine WC_region ?_
  refine WL_q (q_assign rfl) (by decide) ?_
  refine WL_q (q_assign rfl) (by decide) ?_
  refine WL_q (q_assign rfl) (by decide) ?_
  refine WL_nil ?_
  refine thenN ?_
  refine WC_seq ?_
  refine WC_region ?_
  refine WL_q (q_assign rfl) (by decide) ?_
  refine WL_nil ?_
  refine thenN ?_
  refine WC_seq ?_
  refine WC_seq ?_
  refine WC_region ?_
  refine WL_q (q_move rfl) (by decide) ?_
  refine WL_main rfl (OW_rangeS Tryd.underlying9 rfl (by decide) fun b9 => ?_)
  refine WL_nil ?_
  refine thenN ?_
  refine WC_block ?_
  refine WC_loopE (α := Nat × Nat) (fun (p, k) => s.size - p)
    (fun (p, k) => [(0, .string s), (9, .pointer (some ⟨b9, 0, none⟩)), (5, .int .i64 k)])
    (fun (p, k) => ([(b9, .stringIter s p)] :: Ps))
    (fun (p, k) => (barF :: As))
    (fun (p, k) => UtI s p k)
    (0, 0) ?_ (.cons rfl (.cons rfl (.cons rfl (.nil _)))) (List.Sublist.cons_cons _ (List.Sublist.refl _)) (fun _ h => h) ?_
  · exact ⟨Nat.zero_le _, Nat.le_refl _, rfl⟩
  · rintro ⟨p, k⟩ hI
    have hle := hI.le
    have hkp := hI.kp
    refine WC_seq ?_
    by_cases hp : p < s.size
    · refine WC_region ?_
      refine WL_main rfl (OW_nextS1 rfl hp (.z) (by decide) ?_)
      refine WL_q (q_extract (vs := [_, _, _]) rfl rfl) (by decide) ?_
      refine WL_nil ?_
      refine thenN ?_
      refine WC_seq ?_
      refine WC_true rfl rfl ?_
      refine WC_skip ?_
      refine thenN ?_
      refine WC_block ?_
      refine WC_seq ?_
      refine WC_region ?_
      refine WL_q (q_extract (vs := [_, _, _]) rfl rfl) (by decide) ?_
      refine WL_q (q_extract (vs := [_, _, _]) rfl rfl) (by decide) ?_
      refine WL_q (q_assign rfl) (by decide) ?_
      refine WL_q (q_assign rfl) (by decide) ?_
      refine WL_nil ?_
      refine thenN ?_
      refine WC_seq ?_
      refine WC_seq ?_
      refine WC_region ?_
      refine WL_q (q_move rfl) (by decide) ?_
      refine WL_q (q_move rfl) (by decide) ?_
      refine WL_q (q_move rfl) (by decide) ?_
      refine WL_main rfl (OW_call0 (begins_s s p (Utf8.decode s p).1 (by omega)) (.cons rfl (.cons rfl (.cons rfl (.nil)))) (by decide) mem0 fun u5_3 Lo fs hres => ?_)
      obtain ⟨rfl, rfl, rfl⟩ := hres
      refine WL_q (q_not rfl) (by decide) ?_
      refine WL_nil ?_
      refine thenN ?_
      refine WC_cond rfl (fun h18 => ?_) (fun h18 => ?_)
      · refine WC_seq ?_
        refine WC_region ?_
        refine WL_q (q_move rfl) (by decide) ?_
        refine WL_q (q_assign rfl) (by decide) ?_
        refine WL_q (q_assign rfl) (by decide) ?_
        refine WL_q (q_assign rfl) (by decide) ?_
        refine WL_nil ?_
        refine thenN ?_
        refine WC_ret ?_
        refine thenRet ?_
        refine blockRet ?_
        refine thenRet ?_
        refine blockRet ?_
        refine thenRet ?_
        refine ⟨_, [], [], fun Z w hs => .tmp rfl (.tmp rfl (.tmp rfl (.nil))), ?_, fun Z w hs => hs.out (List.Sublist.cons _ (List.Sublist.refl _)) (fun _ h => h)⟩
        first
          | (have hF := hI.eq.trans (utAt_end hp); exact ⟨by rw [hF]; rfl, rfl, rfl⟩)
          | (have hF := hI.eq.trans (utAt_utf8 hp (by simp_all)); exact ⟨by rw [hF]; rfl, rfl, rfl⟩)
          | (have hF := hI.eq.trans (utAt_rune hp (by simp_all) (by simp_all)); exact ⟨by rw [hF]; rfl, rfl, rfl⟩)
      · refine WC_skip ?_
        refine thenN ?_
        refine WC_seq ?_
        refine WC_seq ?_
        refine WC_region ?_
        refine WL_q (q_move rfl) (by decide) ?_
        refine WL_main rfl (OW_call0 (letIn_s (Utf8.decode s p).1) (.cons rfl (.nil)) (by decide) (memc (.head _) mem0) fun u7_1 Lo fs hres => ?_)
        obtain ⟨rfl, rfl, rfl⟩ := hres
        refine WL_q (q_not rfl) (by decide) ?_
        refine WL_nil ?_
        refine thenN ?_
        refine WC_cond rfl (fun h22 => ?_) (fun h22 => ?_)
        · refine WC_seq ?_
          refine WC_region ?_
          refine WL_q (q_move rfl) (by decide) ?_
          refine WL_q (q_assign rfl) (by decide) ?_
          refine WL_q (q_assign rfl) (by decide) ?_
          refine WL_q (q_assign rfl) (by decide) ?_
          refine WL_nil ?_
          refine thenN ?_
          refine WC_ret ?_
          refine thenRet ?_
          refine blockRet ?_
          refine thenRet ?_
          refine blockRet ?_
          refine thenRet ?_
          refine ⟨_, [], [], fun Z w hs => .tmp rfl (.tmp rfl (.tmp rfl (.nil))), ?_, fun Z w hs => hs.out (List.Sublist.cons _ (List.Sublist.refl _)) (fun _ h => h)⟩
          first
            | (have hF := hI.eq.trans (utAt_end hp); exact ⟨by rw [hF]; rfl, rfl, rfl⟩)
            | (have hF := hI.eq.trans (utAt_utf8 hp (by simp_all)); exact ⟨by rw [hF]; rfl, rfl, rfl⟩)
            | (have hF := hI.eq.trans (utAt_rune hp (by simp_all) (by simp_all)); exact ⟨by rw [hF]; rfl, rfl, rfl⟩)
        · refine WC_skip ?_
          refine thenN ?_
          refine WC_region ?_
          refine WL_q (q_move rfl) (by decide) ?_
          refine WL_q (q_add rfl rfl (wr64 (by omega)) (c := ((k + 1 : Nat) : Int))) (by decide) ?_
          refine WL_q (q_assign rfl) (by decide) ?_
          refine WL_nil ?_
          refine blockN ?_
          refine thenK ?_
          have hd := decode_pos s p
          have hd2 := decode_leP hp
          refine ⟨(p + (Utf8.decode s p).2, k + 1), ?_, (.cons rfl (.cons rfl (.cons rfl (.nil _)))), (List.Sublist.cons_cons _ (List.Sublist.refl _)), (fun _ h => h)⟩
          try simp only [decide_eq_true_eq, decide_eq_false_iff_not, beq_iff_eq, bne_iff_ne, beq_eq_false_iff_ne, ne_eq, Bool.and_eq_true, Bool.not_eq_true', Bool.not_eq_false', Bool.not_eq_true, Bool.not_eq_false, bne_eq_false_iff_eq, Bool.and_eq_false_iff] at *
          exact ⟨by show s.size - (p + (Utf8.decode s p).2) < s.size - p; omega, by show p + (Utf8.decode s p).2 ≤ s.size; exact hd2, by show k + 1 ≤ p + (Utf8.decode s p).2; omega, by rw [hI.eq, utAt_next hp (by simp_all) (by simp_all)]⟩
    · refine WC_region ?_
      refine WL_main rfl (OW_nextS0 rfl own0 hp (by decide) ?_)
      refine WL_q (q_extract (vs := [_]) rfl rfl) (by decide) ?_
      refine WL_nil ?_
      refine thenN ?_
      refine WC_seq ?_
      refine WC_false rfl rfl ?_
      refine WC_exit ?_
      refine thenExit ?_
      refine thenExit ?_
      refine blockHit ?_
      refine thenN ?_
      refine WC_seq ?_
      refine WC_region ?_
      refine WL_q (q_move rfl) (by decide) ?_
      refine WL_q (q_assign rfl) (by decide) ?_
      refine WL_q (q_assign rfl) (by decide) ?_
      refine WL_q (q_assign rfl) (by decide) ?_
      refine WL_nil ?_
      refine thenN ?_
      refine WC_ret ?_
      refine ⟨_, [], [], fun Z w hs => .tmp rfl (.tmp rfl (.tmp rfl (.nil))), ?_, fun Z w hs => hs.out (List.Sublist.cons _ (List.Sublist.refl _)) (fun _ h => h)⟩
      first
        | (have hF := hI.eq.trans (utAt_end hp); exact ⟨by rw [hF]; rfl, rfl, rfl⟩)
        | (have hF := hI.eq.trans (utAt_utf8 hp (by simp_all)); exact ⟨by rw [hF]; rfl, rfl, rfl⟩)
        | (have hF := hI.eq.trans (utAt_rune hp (by simp_all) (by simp_all)); exact ⟨by rw [hF]; rfl, rfl, rfl⟩)

end Go.Proofs.YtggdddkbhigjoaaDoor
