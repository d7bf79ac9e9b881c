/- The walks and laws that this claim's card rests on, part 4. -/
import Derived.Laws.RangeString
import Derived.Laws.Concat
import Derived.Test.YtcjbjkbghgjmdaaGreatDoorQC
set_option linter.unusedVariables false
set_option linter.unusedSimpArgs false
open Go.Proofs.Tryz renaming underlying3 → Un3, underlying4 → Un4, underlying9 → Un9, underlying21 → Un21, underlying22 → Un22, underlying26 → Un26, underlying28 → Un28, underlying29 → Un29, underlying30 → Un30, underlying31 → Un31, underlying32 → Un32, underlying34 → Un34, underlying37 → Un37, underlying42 → Un42, underlying44 → Un44, underlying45 → Un45, underlying47 → Un47, underlying51 → Un51, underlying57 → Un57, underlying63 → Un63, underlying65 → Un65, underlying67 → Un67, underlying69 → Un69, underlying70 → Un70, underlying72 → Un72, underlying74 → Un74, underlying76 → Un76, underlying100 → Un100, underlying102 → Un102, underlying104 → Un104, underlying114 → Un114, underlying119 → Un119, underlying130 → Un130, underlying135 → Un135, underlying136 → Un136, underlying138 → Un138, underlying144 → Un144, underlying166 → Un166, underlying169 → Un169, underlying170 → Un170, underlying177 → Un177
/- Walks: begins. -/
namespace Go.Proofs.YtcjbjkbghgjmdaaGreatDoor
open Go Go.GW
set_option maxRecDepth 10000 in
theorem prefix_s (s t : ByteArray) : Sp Tryz.prog 105 [.string s, .string t] [] [] (Is (.bool (prefF s t))) := by
 refine Sp.of (n := 18) ⟨_, Tryz.func105, rfl, rfl, rfl, rfl⟩ (Nat.le_of_ble_eq_true rfl) fun Ps As => WC_seq (WC_region (Lq (q_assign rfl) (WL_nil (thenN (WC_seq (WC_region (Lq (q_move rfl) (Lq (q_lenS Un9 rfl) (Lq (q_move rfl) (Lq (q_lenS Un9 rfl) (Lq (q_geq rfl rfl) (Lq (q_move rfl) ?_))))))))))))
 refine WL_guard (t := 10) rfl (fun g10 => ?_) (fun g10 => ?_)
 ·refine Lg rfl rfl rfl g10 (q_move rfl) (Lg rfl rfl rfl g10 (q_move rfl) (Lg rfl rfl rfl g10 (q_lenS Un9 rfl) (Lg rfl rfl rfl g10 (q_sliceShi Un9 rfl rfl (by omega) (by simpa using g10)) (Lg rfl rfl rfl g10 (q_move rfl) (Lg rfl rfl rfl g10 (q_seql rfl rfl) (Lq (q_pickT rfl g10 rfl) (Lq (q_assign rfl) (WL_nil (thenN (WC_fr [(4, _)] (.cons rfl (.nil _)) ?_))))))))))
  refine WC_ret ?_
  refine ⟨_, [], [], fun Z w hs => .tmp rfl (.nil), ?_, fun Z w hs => hs.out (Sr) (fun _ h => h)⟩
  exact ⟨by unfold prefF; simp at g10; simp [tup, g10] <;> omega, rfl, rfl⟩
 ·refine Ln rfl rfl rfl g10 (Ln rfl rfl rfl g10 (Ln rfl rfl rfl g10 (Ln rfl rfl rfl g10 (Ln rfl rfl rfl g10 (Ln rfl rfl rfl g10 (Lq (q_pickF rfl g10 rfl) (Lq (q_assign rfl) (WL_nil (thenN (WC_fr [(4, _)] (.cons rfl (.nil _)) ?_))))))))))
  refine WC_ret ?_
  refine ⟨_, [], [], fun Z w hs => .tmp rfl (.nil), ?_, fun Z w hs => hs.out (Sr) (fun _ h => h)⟩
  exact ⟨by unfold prefF; simp at g10; simp [tup, g10] <;> omega, rfl, rfl⟩


set_option maxRecDepth 10000 in
theorem sprefix_s (s t : ByteArray) : Sp Tryz.prog 94 [.string s, .string t] [] [] (Is (.bool (prefF s t))) := by
 refine Sp.of (n := 8) ⟨_, Tryz.func94, rfl, rfl, rfl, rfl⟩ (Nat.le_of_ble_eq_true rfl) fun Ps As => WC_seq (WC_region (Lq (q_assign rfl) (WL_nil (thenN (WC_seq (WC_region (Lq (q_move rfl) (Lq (q_move rfl) (WL_main rfl (OW_call0 (prefix_s s t) (.cons rfl (.cons rfl (.nil))) (by decide) mem0 fun u1_2 Lo fs hres => ?_))))))))))
 obtain ⟨rfl, rfl, rfl⟩ := hres
 refine Lq (q_assign rfl) (WL_nil (thenN (WC_ret ?_)))
 refine ⟨_, [], [], fun Z w hs => .tmp rfl (.nil), ?_, fun Z w hs => hs.out (Sr) (fun _ h => h)⟩
 exact ⟨rfl, rfl, rfl⟩


set_option maxRecDepth 10000 in
theorem begins_s (s : ByteArray) (p : Nat) (c : Int) (hp : p ≤ s.size) : Sp Tryz.prog 73 [.string s, .int .i64 p, .int .i32 c] [] [] (Is (.bool (begF s p c))) := by
 refine Sp.of (n := 15) ⟨_, Tryz.func73, rfl, rfl, rfl, rfl⟩ (Nat.le_of_ble_eq_true rfl) fun Ps As => WC_seq (WC_region (Lq (q_assign rfl) (WL_nil (thenN (WC_seq (WC_region (Lq (q_move rfl) (Lq (q_neq rfl rfl) (Lq (q_move rfl) (WL_guard (t := 9) rfl (fun g9 => ?_) (fun g9 => ?_)))))))))))
 ·refine Ln rfl rfl rfl g9 (Ln rfl rfl rfl g9 (Ln rfl rfl rfl g9 (Ln rfl rfl rfl g9 (Lq (q_pickT rfl g9 rfl) (Lq (q_assign rfl) (WL_nil (thenN (WC_ret ?_))))))))
  refine ⟨_, [], [], fun Z w hs => .tmp rfl (.nil), ?_, fun Z w hs => hs.out (Sr) (fun _ h => h)⟩
  exact ⟨by unfold begF; simp at g9; simp [tup, g9], rfl, rfl⟩
 ·refine Lg rfl rfl rfl g9 (q_move rfl) (Lg rfl rfl rfl g9 (q_move rfl) (Lg rfl rfl rfl g9 (q_sliceSlo Un9 rfl rfl (by omega) (by omega)) (WL_gmain rfl rfl rfl g9 (OW_call0 (sprefix_s (s.extract p s.size) fffd) (.cons rfl (.cons rfl (.nil))) (by decide) mem0 fun u1_6 Lo fs hres => ?_))))
  obtain ⟨rfl, rfl, rfl⟩ := hres
  refine Lq (q_pickF rfl g9 rfl) (Lq (q_assign rfl) (WL_nil (thenN (WC_ret ?_))))
  refine ⟨_, [], [], fun Z w hs => .tmp rfl (.nil), ?_, fun Z w hs => hs.out (Sr) (fun _ h => h)⟩
  exact ⟨by unfold begF; simp at g9; simp [tup, g9], rfl, rfl⟩

def LetI (c : Int) (k : Nat) : Prop := k ≤ 5 ∧ ∀ (j : Nat) (h : j < barL.length), j < k → ¬ (barL[j].1 ≤ c ∧ c ≤ barL[j].2)
theorem LetI.hit {c : Int} {k : Nat} (hk : k < barL.length) (h : barL[k].1 ≤ c ∧ c ≤ barL[k].2) : letF c = false := by
 unfold letF
 have : (barL.all fun b => !(decide (b.1 ≤ c) && decide (c ≤ b.2))) = false := by
  rw [List.all_eq_false]
  exact ⟨_, List.getElem_mem hk, by simp [h]⟩
 rw [this]; rfl
theorem LetI.next {c : Int} {k : Nat} (h : LetI c k) (hk : k < barL.length) (hn : ¬ (barL[k].1 ≤ c ∧ c ≤ barL[k].2)) : LetI c (k + 1) := by
 refine ⟨hk, fun j hj hjk => ?_⟩
 by_cases e : j = k
 ·subst e; exact hn
 ·exact h.2 j hj (by omega)
theorem LetI.done {c : Int} {k : Nat} (h : LetI c k) (hk : ¬ (k : Int) < 5) : letF c = decide (c % 65536 < 65534) := by
 unfold letF
 have : (barL.all fun b => !(decide (b.1 ≤ c) && decide (c ≤ b.2))) = true := by
  rw [List.all_eq_true]
  intro b hb
  obtain ⟨j, hj, rfl⟩ := List.mem_iff_getElem.1 hb
  have hj5 : j < 5 := hj
  have := h.2 j hj (by omega)
  simpa [-not_and, Decidable.not_and_iff_not_or_not] using this
 rw [this]; rfl

set_option maxRecDepth 10000 in
theorem letIn_s (c : Int) : Sp Tryz.prog 74 [.int .i32 c] [] [barF] (Is (.bool (letF c))) := by
 refine Sp.of (n := 23) ⟨_, Tryz.func74, rfl, rfl, rfl, rfl⟩ (Nat.le_of_ble_eq_true rfl) fun Ps As => WC_seq (WC_region (Lq (q_assign rfl) (WL_nil (thenN (WC_seq (WC_seq (WC_region (Lq (q_loadFN (k := 0) (vs := barC) Un170 rfl ti170 rfl M0 rfl rfl rfl) (Lq (q_move rfl) (WL_nil (thenN (WC_block ?_))))))))))))
 refine WC_loopE (α := Nat) (fun k => 5 - k)
  (fun k => [(0, .int .i32 c), (5, .agg barC.toArray), (6, .int .i64 k)])
  (fun k => Ps)
  (fun k => (barF :: As))
  (fun k => LetI c k)
  0 ?_ (.cons rfl (.cons rfl (.cons rfl (.nil _)))) (Sr) (fun _ h => h) ?_
 ·exact ⟨Nat.zero_le _, fun j hj hjk => absurd hjk (by omega)⟩
 ·rintro k hI
  refine WC_seq (WC_region (Lq (q_lss rfl rfl) (WL_nil (thenN (WC_seq (WC_cond rfl (fun h7 => ?_) (fun h7 => ?_)))))))
  ·refine WC_skip (thenN (WC_seq (WC_block (WC_seq ?_))))
   try simp only [Bp, Bq] at *
   have hk : k < barL.length := by show k < 5; omega
   refine WC_region (Lq (q_index2 Un170 Un169 rfl ti169 rfl rfl (by omega) (by omega) (bar_at k hk)) (WL_main rfl (OW_alloc (cs := [_, _]) ti169 rfl (by decide) fun b4 => WL_main rfl (OW_storeN (cs' := [_, _]) (vs := [_, _]) ti169 rfl rfl rfl rfl rfl (Nat.le_of_ble_eq_true rfl) (.z) (WL_nil (thenN (WC_seq (WC_region (Lq (q_field (o' := 0) Un169 rfl ti21 rfl rfl) (Lq (q_load1 Un21 rfl rfl own0 rfl) (Lq (q_move rfl) (Lq (q_leq rfl rfl) (Lq (q_move rfl) ?_)))))))))))))
   refine WL_guard (t := 13) rfl (fun g13 => ?_) (fun g13 => ?_)
   ·refine Lg rfl rfl rfl g13 (q_move rfl) (Lg rfl rfl rfl g13 (q_field (o' := 1) Un169 rfl ti21 rfl rfl) (Lg rfl rfl rfl g13 (q_load1 Un21 rfl rfl own0 rfl) (Lg rfl rfl rfl g13 (q_leq rfl rfl) (Lq (q_pickT rfl g13 rfl) (WL_nil (thenN (WC_cond rfl (fun h18 => ?_) (fun h18 => ?_))))))))
    ·refine WC_seq (WC_region (Lq (q_assign rfl) (WL_nil (thenN (WC_ret (blockRet (thenRet (thenRet (blockRet (thenRet ?_))))))))))
     refine ⟨_, [], [], fun Z w hs => .tmp rfl (.nil), ?_, fun Z w hs => hs.out (Sd (Sr)) (fun _ h => h)⟩
     try simp only [Bp, Bq] at *
     first
      | exact ⟨by rw [hI.done (by omega)]; rfl, rfl, rfl⟩
      | exact ⟨by rw [LetI.hit hk (by omega)]; rfl, rfl, rfl⟩
    ·refine WC_skip (blockN (thenN (WC_region (Lq (q_add rfl rfl (wr64 (by omega))) (Lq (q_move rfl) (WL_nil (thenK ?_)))))))
     refine ⟨k + 1, ?_, (.cons rfl (.cons rfl (.cons rfl (.nil _)))), (Sd (Sr)), (fun _ h => h)⟩
     try simp only [Bp, Bq] at *
     exact ⟨by omega, hI.next hk (by omega)⟩
   ·refine Ln rfl rfl rfl g13 (Ln rfl rfl rfl g13 (Ln rfl rfl rfl g13 (Ln rfl rfl rfl g13 (Lq (q_pickF rfl g13 rfl) (WL_nil (thenN (WC_false rfl rfl (WC_skip (blockN (thenN (WC_region (Lq (q_add rfl rfl (wr64 (by omega))) (Lq (q_move rfl) (WL_nil (thenK ?_)))))))))))))))
    refine ⟨k + 1, ?_, (.cons rfl (.cons rfl (.cons rfl (.nil _)))), (Sd (Sr)), (fun _ h => h)⟩
    try simp only [Bp, Bq] at *
    exact ⟨by omega, hI.next hk (by omega)⟩
  ·refine WC_exit (thenExit (thenExit (blockHit (thenN (WC_seq (WC_region (Lq (q_move rfl) (Lq (q_and rfl rfl (i32_and65535 _)) (Lq (q_lss rfl rfl) (Lq (q_assign rfl) (WL_nil (thenN (WC_ret ?_)))))))))))))
   refine ⟨_, [], [], fun Z w hs => .tmp rfl (.nil), ?_, fun Z w hs => hs.out (Sr) (fun _ h => h)⟩
   try simp only [Bp, Bq] at *
   first
    | exact ⟨by rw [hI.done (by omega)]; rfl, rfl, rfl⟩
    | exact ⟨by rw [LetI.hit hk (by omega)]; rfl, rfl, rfl⟩

end Go.Proofs.YtcjbjkbghgjmdaaGreatDoor
/- Walks: utext.Check. -/
namespace Go.Proofs.YtcjbjkbghgjmdaaGreatDoor
open Go Go.GW
structure UtI (s : ByteArray) (p k : Nat) : Prop where
 le : p ≤ s.size
 kp : k ≤ p
 eq : utF s = utAt s p k

set_option maxRecDepth 10000 in
theorem utCheck_s (s : ByteArray) (hs : s.size ≤ 4611686018427387904) : Sp Tryz.prog 46 [.string s] [] [barF] (Is (.tuple #[.int .i64 (utF s).1, .int .i64 (utF s).2.1, .int .i64 (utF s).2.2])) := by
 refine Sp.of (n := 27) ⟨_, Tryz.func46, rfl, rfl, rfl, rfl⟩ (Nat.le_of_ble_eq_true rfl) fun Ps As => WC_seq (WC_region (Lq (q_assign rfl) (Lq (q_assign rfl) (Lq (q_assign rfl) (WL_nil (thenN (WC_seq (WC_region (Lq (q_assign rfl) (WL_nil (thenN (WC_seq (WC_seq (WC_region (Lq (q_move rfl) (WL_main rfl (OW_rangeS Un9 rfl (by decide) fun b9 => ?_)))))))))))))))))
 refine WL_nil (thenN (WC_block ?_))
 refine WC_loopE (α := Nat × Nat) (fun (p, k) => s.size - p)
  (fun (p, k) => [(0, .string s), (9, .pointer (some ⟨b9, 0, none⟩)), (5, .int .i64 k)])
  (fun (p, k) => ([(b9, .stringIter s p)] :: Ps))
  (fun (p, k) => (barF :: As))
  (fun (p, k) => UtI s p k)
  (0, 0) ?_ (.cons rfl (.cons rfl (.cons rfl (.nil _)))) (Sk (Sr)) (fun _ h => h) ?_
 ·exact ⟨Nat.zero_le _, Nat.le_refl _, rfl⟩
 ·rintro ⟨p, k⟩ hI
  have hle := hI.le
  have hkp := hI.kp
  refine WC_seq ?_
  by_cases hp : p < s.size
  ·refine WC_region (WL_main rfl (OW_nextS1 rfl hp (.z) (by decide) (Lq (q_extract (vs := [_, _, _]) rfl rfl) (WL_nil (thenN (WC_seq (WC_true rfl rfl (WC_skip (thenN (WC_block (WC_seq (WC_region (Lq (q_extract (vs := [_, _, _]) rfl rfl) (Lq (q_extract (vs := [_, _, _]) rfl rfl) (Lq (q_assign rfl) (Lq (q_assign rfl) (WL_nil (thenN (WC_seq (WC_seq (WC_region ?_)))))))))))))))))))))
   refine Lq (q_move rfl) (Lq (q_move rfl) (Lq (q_move rfl) (WL_main rfl (OW_call0 (begins_s s p (Utf8.decode s p).1 (by omega)) (.cons rfl (.cons rfl (.cons rfl (.nil)))) (by decide) mem0 fun u5_3 Lo fs hres => ?_))))
   obtain ⟨rfl, rfl, rfl⟩ := hres
   refine Lq (q_not rfl) (WL_nil (thenN (WC_cond rfl (fun h18 => ?_) (fun h18 => ?_))))
   ·refine WC_seq (WC_region (Lq (q_move rfl) (Lq (q_assign rfl) (Lq (q_assign rfl) (Lq (q_assign rfl) (WL_nil (thenN (WC_ret (thenRet (blockRet (thenRet (blockRet (thenRet ?_)))))))))))))
    refine ⟨_, [], [], fun Z w hs => .tmp rfl (.tmp rfl (.tmp rfl (.nil))), ?_, fun Z w hs => hs.out (Sd (Sr)) (fun _ h => h)⟩
    first
     | (have hF := hI.eq.trans (utAt_end hp); exact ⟨by rw [hF]; rfl, rfl, rfl⟩)
     | (have hF := hI.eq.trans (utAt_utf8 hp (by simp_all)); exact ⟨by rw [hF]; rfl, rfl, rfl⟩)
     | (have hF := hI.eq.trans (utAt_rune hp (by simp_all) (by simp_all)); exact ⟨by rw [hF]; rfl, rfl, rfl⟩)
   ·refine WC_skip (thenN (WC_seq (WC_seq (WC_region (Lq (q_move rfl) (WL_main rfl (OW_call0 (letIn_s (Utf8.decode s p).1) (.cons rfl (.nil)) (by decide) (memc M0 mem0) fun u7_1 Lo fs hres => ?_)))))))
    obtain ⟨rfl, rfl, rfl⟩ := hres
    refine Lq (q_not rfl) (WL_nil (thenN (WC_cond rfl (fun h22 => ?_) (fun h22 => ?_))))
    ·refine WC_seq (WC_region (Lq (q_move rfl) (Lq (q_assign rfl) (Lq (q_assign rfl) (Lq (q_assign rfl) (WL_nil (thenN (WC_ret (thenRet (blockRet (thenRet (blockRet (thenRet ?_)))))))))))))
     refine ⟨_, [], [], fun Z w hs => .tmp rfl (.tmp rfl (.tmp rfl (.nil))), ?_, fun Z w hs => hs.out (Sd (Sr)) (fun _ h => h)⟩
     first
      | (have hF := hI.eq.trans (utAt_end hp); exact ⟨by rw [hF]; rfl, rfl, rfl⟩)
      | (have hF := hI.eq.trans (utAt_utf8 hp (by simp_all)); exact ⟨by rw [hF]; rfl, rfl, rfl⟩)
      | (have hF := hI.eq.trans (utAt_rune hp (by simp_all) (by simp_all)); exact ⟨by rw [hF]; rfl, rfl, rfl⟩)
    ·refine WC_skip (thenN (WC_region (Lq (q_move rfl) (Lq (q_add rfl rfl (wr64 (by omega)) (c := ((k + 1 : Nat) : Int))) (Lq (q_assign rfl) (WL_nil (blockN (thenK ?_))))))))
     have hd := decode_pos s p
     have hd2 := decode_leP hp
     refine ⟨(p + (Utf8.decode s p).2, k + 1), ?_, (.cons rfl (.cons rfl (.cons rfl (.nil _)))), (Sk (Sr)), (fun _ h => h)⟩
     try simp only [Bp, Bq] at *
     exact ⟨by show s.size - (p + (Utf8.decode s p).2) < s.size - p; omega, by show p + (Utf8.decode s p).2 ≤ s.size; exact hd2, by show k + 1 ≤ p + (Utf8.decode s p).2; omega, by rw [hI.eq, utAt_next hp (by simp_all) (by simp_all)]⟩
  ·refine WC_region (WL_main rfl (OW_nextS0 rfl own0 hp (by decide) (Lq (q_extract (vs := [_]) rfl rfl) (WL_nil (thenN (WC_seq (WC_false rfl rfl (WC_exit (thenExit (thenExit (blockHit (thenN (WC_seq (WC_region (Lq (q_move rfl) (Lq (q_assign rfl) (Lq (q_assign rfl) (Lq (q_assign rfl) (WL_nil (thenN (WC_ret ?_)))))))))))))))))))))
   refine ⟨_, [], [], fun Z w hs => .tmp rfl (.tmp rfl (.tmp rfl (.nil))), ?_, fun Z w hs => hs.out (Sd (Sr)) (fun _ h => h)⟩
   first
    | (have hF := hI.eq.trans (utAt_end hp); exact ⟨by rw [hF]; rfl, rfl, rfl⟩)
    | (have hF := hI.eq.trans (utAt_utf8 hp (by simp_all)); exact ⟨by rw [hF]; rfl, rfl, rfl⟩)
    | (have hF := hI.eq.trans (utAt_rune hp (by simp_all) (by simp_all)); exact ⟨by rw [hF]; rfl, rfl, rfl⟩)

end Go.Proofs.YtcjbjkbghgjmdaaGreatDoor
/- Walks: rope.New, Total, Insert, Bump. -/
namespace Go.Proofs.YtcjbjkbghgjmdaaGreatDoor
open Go Go.GW
theorem bd115Xw32  (w : World) : (Instr.build 72 #[]).run Tryz.prog w = .ok (.agg #[.pointer none]) w := by kernel_rfl

set_option maxRecDepth 10000 in
theorem rnew_s : Sp Tryz.prog 31 [] [] [] (fun v Lo fs => ∃ b : Nat, v = .pointer (some ⟨b, 0, none⟩) ∧ Lo = [rpP b none] ∧ fs = []) := by
 refine Sp.of (n := 3) ⟨_, Tryz.func31, rfl, rfl, rfl, rfl⟩ (Nat.le_of_ble_eq_true rfl) fun Ps As => WC_seq (WC_region (Lq (q_assign rfl) (WL_nil (thenN (WC_seq (WC_region (Lq (q_build (.nil) (bd115Xw32)) (WL_main rfl (OW_box (cs := [_]) rfl rfl (by decide) fun b2 => Lq (q_assign rfl) (WL_nil (thenN (WC_ret ?_))))))))))))
 refine ⟨_, [_], [], fun Z w hs => .tmp rfl (.nil), ?_, fun Z w hs => hs.out (Sk (Sr)) (fun _ h => h)⟩
 exact ⟨_, rfl, rfl, rfl⟩

theorem fd112_0Xw32 (x0 : Int) (x1 : Int) (x2 : Int) (x3 : Int) (x4 : Int) (x5 : Int) (w : World) : (Instr.field 69 (.agg #[.int .i64 x0, .int .i64 x1, .int .i64 x2, .int .i64 x3, .int .i64 x4, .int .i64 x5]) 0).run Tryz.prog w = .ok (.int .i64 x0) w := by kernel_rfl

set_option maxRecDepth 10000 in
theorem rtotal_s (b : Nat) (A : Option Addr) (t : Tr) (wt : Wf t) : Sp Tryz.prog 7 [.pointer (some ⟨b, 0, none⟩)] [rpP b A] [TrF A t] (fun v Lo fs => v = .int .i64 t.row.length ∧ Lo = [rpP b A] ∧ fs = []) := by
 refine Sp.of (n := 9) ⟨_, Tryz.func7, rfl, rfl, rfl, rfl⟩ (Nat.le_of_ble_eq_true rfl) fun Ps As => WC_seq (WC_region (Lq (q_assign rfl) (WL_nil (thenN (WC_seq (WC_region (Lq (q_move rfl) (Lq (q_nil rfl) (Lq (q_field (o' := 0) Un72 rfl ti70 rfl rfl) (Lq (q_load1 Un70 rfl rfl own0 rfl) (WL_main rfl (OW_call0 (all_s A t) (.cons rfl (.nil)) (by decide) (memc M0 mem0) fun u1_4 Lo fs hres => ?_))))))))))))
 obtain ⟨rfl, rfl, rfl⟩ := hres
 refine Lq (q_part rfl (fd112_0Xw32 _ _ _ _ _ _)) (Lq (q_assign rfl) (WL_nil (thenN (WC_ret ?_))))
 refine ⟨_, [_], [], fun Z w hs => .tmp rfl (.nil), ?_, fun Z w hs => hs.out (Sk (Sr)) (fun _ h => h)⟩
 exact ⟨congrArg (Value.int .i64) wt.tot, rfl, rfl⟩

theorem counter_0 (x : Int) (h : 0 ≤ x ∧ x ≤ 1048576) : Sp Tryz.prog 47 [.int .i64 x] [] [] (Is (.int .i64 0)) := by
 have := counter_s x
 rwa [if_neg (by omega), if_neg (by omega)] at this

set_option maxRecDepth 10000 in
theorem rinsert_s (b : Nat) (A : Option Addr) (t : Tr) (x : Int) (s : ByteArray) (hid : Int) (wt : Wf t) (hx : 0 ≤ x ∧ x ≤ t.row.length) (hs : s.size ≤ 1073741824) (hu : (utF s).2.2 = 0) (hne : 0 < (runesF s).length) (hh : 0 ≤ hid ∧ hid ≤ 1048576) (hb : t.row.length + (runesF s).length ≤ 1048576) : Sp Tryz.prog 22 [.pointer (some ⟨b, 0, none⟩), .int .i64 x, .string s, .int .i64 hid] [rpP b A] [barF, TrF A t] (RpP b (t.row.take x.toNat ++ (cellsOf (runesF s) hid ++ t.row.drop x.toNat))) := by
 have hru := utF_runes hu
 refine Sp.of (n := 64) ⟨_, Tryz.func22, rfl, rfl, rfl, rfl⟩ (Nat.le_of_ble_eq_true rfl) fun Ps As => WC_seq (WC_region (Lq (q_assign rfl) (WL_nil (thenN (WC_seq (WC_seq (WC_region (Lq (q_move rfl) (Lq (q_lss rfl rfl) (Lq (q_move rfl) (Lg rfl rfl rfl (by simp; omega) (q_move rfl) (Lg rfl rfl rfl (by simp; omega) (q_move rfl) (WL_gmain rfl rfl rfl (by simp; omega) (OW_call1 (rtotal_s b A t wt) (.cons rfl (.nil)) (by decide) (.z) (memc M1 mem0) fun u1_5 Lo fs hres => ?_))))))))))))))
 obtain ⟨rfl, rfl, rfl⟩ := hres
 refine Lg rfl rfl rfl (by simp; omega) (q_gtr rfl rfl) (Lq (q_pickF rfl (by simp; omega) rfl) (WL_nil (thenN (WC_false rfl (by simp; omega) (WC_skip (thenN (WC_seq (WC_region (Lq (q_move rfl) (WL_main rfl (OW_call0 (utCheck_s s (by omega)) (.cons rfl (.nil)) (by decide) (memc M0 mem0) fun u3_1 Lo fs hres => ?_)))))))))))
 obtain ⟨rfl, rfl, rfl⟩ := hres
 refine Lq (q_move rfl) (Lq (q_extract (vs := [_, _, _]) rfl rfl) (Lq (q_extract (vs := [_, _, _]) rfl rfl) (Lq (q_extract (vs := [_, _, _]) rfl rfl) (Lq (q_assign rfl) (Lq (q_assign rfl) (Lq (q_assign rfl) (WL_nil (thenN (WC_fr [(11, _), (9, _), (8, _), (0, _), (1, _), (2, _), (3, _)] (.cons rfl (.cons rfl (.cons rfl (.cons rfl (.cons rfl (.cons rfl (.cons rfl (.nil _)))))))) (WC_seq (WC_seq (WC_region ?_))))))))))))
 refine Lq (q_move rfl) (Lq (q_neq rfl rfl) (WL_nil (thenN (WC_false rfl (by rw [hu]; rfl) (WC_skip (thenN (WC_seq (WC_seq (WC_region (Lq (q_move rfl) (WL_main rfl (OW_call0 (counter_0 hid hh) (.cons rfl (.nil)) (by decide) mem0 fun u6_1 Lo fs hres => ?_))))))))))))
 obtain ⟨rfl, rfl, rfl⟩ := hres
 refine Lq (q_assign rfl) (WL_nil (thenN (WC_seq (WC_region (Lq (q_move rfl) (Lq (q_neq rfl rfl) (WL_nil (thenN (WC_false rfl rfl (WC_skip (thenN (WC_seq (WC_seq (WC_region (Lq (q_move rfl) (WL_main rfl (OW_call1 (rtotal_s b A t wt) (.cons rfl (.nil)) (by decide) (.z) (memc M1 mem0) fun u9_1 Lo fs hres => ?_)))))))))))))))))
 obtain ⟨rfl, rfl, rfl⟩ := hres
 refine Lq (q_move rfl) (Lq (q_add rfl rfl (wr64 (by omega))) (Lq (q_gtr rfl rfl) (WL_nil (thenN (WC_fr [(40, _), (9, _), (8, _), (0, _), (1, _), (2, _), (3, _)] (.cons rfl (.cons rfl (.cons rfl (.cons rfl (.cons rfl (.cons rfl (.cons rfl (.nil _)))))))) (WC_false rfl (by simp; omega) (WC_skip (thenN (WC_seq (WC_seq (WC_region (Lq (q_move rfl) (Lq (q_eql rfl rfl) (WL_nil (thenN ?_)))))))))))))))
 refine WC_false rfl (beq_eq_false_iff_ne.2 (by omega)) (WC_skip (thenN (WC_seq (WC_region (Lq (q_move rfl) (Lq (q_nil rfl) (Lq (q_field (o' := 0) Un72 rfl ti70 rfl rfl) (Lq (q_load1 Un70 rfl rfl own0 rfl) (Lq (q_move rfl) (WL_main rfl (OW_call0 (split_r A t x wt (by omega) (by omega) (by omega)) (.cons rfl (.cons rfl (.nil))) (by decide) (memc M1 mem0) fun u13_5 Lo fs hres => ?_)))))))))))
 obtain ⟨A1, t1, E1, q1, rfl, rfl, rfl, wt1, wq1, r1, rq1⟩ := hres
 have e1 := congrArg List.length r1
 have eq1 := congrArg List.length rq1
 simp only [List.length_take, List.length_drop] at e1 eq1
 refine Lq (q_move rfl) (Lq (q_extract (vs := [_, _]) rfl rfl) (Lq (q_extract (vs := [_, _]) rfl rfl) (Lq (q_assign rfl) (Lq (q_assign rfl) (WL_nil (thenN (WC_fr [(13, _), (12, _), (8, _), (0, _), (2, _), (3, _)] (.cons rfl (.cons rfl (.cons rfl (.cons rfl (.cons rfl (.cons rfl (.nil _))))))) (WC_seq (WC_region (Lq (q_move rfl) (Lq (q_move rfl) ?_)))))))))))
 refine Lq (q_move rfl) (WL_main rfl (OW_call0 (runesOf_s s hs) (.cons rfl (.nil)) (by decide) mem0 fun u14_3 Lo fs hres => ?_))
 obtain ⟨Ar, cr, rfl, rfl, rfl⟩ := hres
 refine Lq (q_move rfl) (WL_main rfl (OW_call0 (cutUp_s Ar cr (runesF s) hid (by omega) hh) (.cons rfl (.cons rfl (.nil))) (by decide) (memc M0 mem0) fun u14_5 Lo fs hres => ?_))
 obtain ⟨Ap, cp, ps, rfl, rfl, rfl, hpk, hps⟩ := hres
 have eps := congrArg List.length hps
 rw [cellsOf_length] at eps
 refine WL_main rfl (OW_call0 (build_r Ap cp ps hpk (by omega)) (.cons rfl (.nil)) (by decide) (memc M0 mem0) fun u14_6 Lo fs hres => ?_)
 obtain ⟨T2, t2, rfl, rfl, rfl, wt2, r2⟩ := hres
 have e2 := congrArg List.length r2
 refine WL_main rfl (OW_call0 (mend_r A1 T2 t1 t2 wt1 wt2 (by omega)) (.cons rfl (.cons rfl (.nil))) (by decide) (memc M3 (memc M0 mem0)) fun u14_7 Lo fs hres => ?_)
 obtain ⟨T3, t3, rfl, rfl, rfl, wt3, r3⟩ := hres
 have e3 := congrArg List.length r3
 simp only [List.length_append] at e3
 refine Lq (q_move rfl) (WL_main rfl (OW_call0 (mend_r T3 E1 t3 q1 wt3 wq1 (by omega)) (.cons rfl (.cons rfl (.nil))) (by decide) (memc M0 (memc M5 mem0)) fun u14_9 Lo fs hres => ?_))
 obtain ⟨T4, t4, rfl, rfl, rfl, wt4, r4⟩ := hres
 have e4 := congrArg List.length r4
 simp only [List.length_append] at e4
 refine Lq (q_nil rfl) (Lq (q_field (o' := 0) Un72 rfl ti70 rfl rfl) (WL_main rfl (OW_store1 ti70 rfl rfl rfl (.z) (.z) (WL_nil (thenN (WC_fr [(8, _)] (.cons rfl (.nil _)) (WC_seq (WC_region (Lq (q_assign rfl) (WL_nil (thenN (WC_ret ?_))))))))))))
 refine ⟨_, [_], [_], fun Z w hs => .tmp rfl (.nil), ?_, fun Z w hs => hs.out (Sk (Sr)) (memc M0 T7)⟩
 exact ⟨_, _, rfl, rfl, rfl, wt4, by simp only [r1, r2, r3, r4, rq1, hps, List.append_assoc]⟩

theorem fd112_5Xw32 (x0 : Int) (x1 : Int) (x2 : Int) (x3 : Int) (x4 : Int) (x5 : Int) (w : World) : (Instr.field 69 (.agg #[.int .i64 x0, .int .i64 x1, .int .i64 x2, .int .i64 x3, .int .i64 x4, .int .i64 x5]) 5).run Tryz.prog w = .ok (.int .i64 x5) w := by kernel_rfl

set_option maxRecDepth 10000 in
theorem bumpUp_s (b : Nat) (A Ar : Option Addr) (cr : Nat) (t : Tr) (rs : List Rg) (wt : Wf t) (hb : t.row.length ≤ 1048576) (ho : BuOk rs 1 t.row) (hne : rs ≠ []) : Sp Tryz.prog 23 [.pointer (some ⟨b, 0, none⟩), .slice Ar rs.length cr, .int .i64 1] [rpP b A] [TrF A t, RdF rgD Ar cr rs] (RpP b (bumpL rs 1 t.row)) := by
 have hrs := (ckF_good ho.ck).1
 refine Sp.of (n := 100) ⟨_, Tryz.func23, rfl, rfl, rfl, rfl⟩ (Nat.le_of_ble_eq_true rfl) fun Ps As => WC_seq (WC_region (Lq (q_assign rfl) (WL_nil (thenN (WC_seq (WC_seq ?_))))))
 have hz1 : rs.length - 1 < rs.length := by have := List.length_pos_iff.2 hne; omega
 have hlast := ho.below _ (List.getElem_mem hz1)
 refine WC_elem (k := (rs.length - 1)) M1 (List.getElem?_eq_getElem hz1) (rg_open _) fun b6 q6 y6 e6 => ?_
 cases e6
 refine WC_region (Lq (q_move rfl) (Lq (q_neq rfl rfl) (Lq (q_move rfl) (Ln rfl rfl rfl rfl (Ln rfl rfl rfl rfl (Lq (q_pickF rfl rfl rfl) (WL_nil (thenN (WC_false rfl rfl (WC_skip (thenN (WC_seq (WC_seq (WC_region (Lq (q_move rfl) (WL_main rfl (OW_call0 (check_s (some ⟨b6, q6, none⟩) cr rs (by omega)) (.cons rfl (.nil)) (by decide) (memc M2 mem0) fun u3_1 Lo fs hres => ?_)))))))))))))))))
 obtain ⟨rfl, rfl, rfl⟩ := hres
 refine Lq (q_move rfl) (Lq (q_extract (vs := [_, _]) rfl rfl) (Lq (q_extract (vs := [_, _]) rfl rfl) (Lq (q_assign rfl) (Lq (q_assign rfl) (WL_nil (thenN (WC_fr [(8, _), (6, _), (0, _), (1, _), (2, _)] (.cons rfl (.cons rfl (.cons rfl (.cons rfl (.cons rfl (.nil _)))))) (WC_seq (WC_region (Lq (q_move rfl) (Lq (q_neq rfl rfl) ?_)))))))))))
 refine WL_nil (thenN (WC_false rfl (by rw [ho.ck]; rfl) (WC_skip (thenN (WC_seq (WC_seq (WC_draw _ _ [] (.c 0 0 (.c 1 0 (.c 2 0 (.c 3 0 (.c 4 0 (.c 5 0 (.c 6 0 (.c 7 0 (.c 8 0 (.c 9 0 (.c 10 0 (.c 11 0 (.c 12 2 (.c 13 0 (.c 14 0 .nil))))))))))))))) mixed (fun _ _ _ _ h => h) (Sk (Sr)) (fun _ h => h) (by kernel_rfl) (by decide) fun ws Z0 => Qe rfl (q_move rfl) (Qe rfl (q_len Un45 rfl) (Qe rfl (q_gtr rfl rfl) (Qe rfl (q_move rfl) (WE_gq rfl rfl rfl rfl (by simp; omega) (q_move rfl) (by decide) (WE_gq rfl rfl rfl rfl (by simp; omega) (q_move rfl) (by decide) ?_))))))))))))
 refine WE_gq rfl rfl rfl rfl (by simp; omega) (q_len Un45 rfl) (by decide) (WE_gq rfl rfl rfl rfl (by simp; omega) (q_sub rfl rfl (by rw [wr64 (by omega)]; omega) (c := ((rs.length - 1 : Nat) : Int))) (by decide) (WE_gq rfl rfl rfl rfl (by simp; omega) (q_idxRd Un45 ti119 rfl rfl (by omega) (by omega)) (by decide) (WE_gq rfl rfl rfl rfl (by simp; omega) (q_field (o' := _ + 1) Un119 rfl ti3 rfl rfl) (by decide) (WE_gq rfl rfl rfl rfl (by simp; omega) (q_loadF1 (j := 1) Un3 rfl rfl M0 rfl rfl) (by decide) (WE_gq rfl rfl rfl rfl (by simp; omega) (q_move rfl) (by decide) (WE_gmain rfl rfl rfl rfl rfl (by simp; omega) (OW_call1 (rtotal_s b A t wt) (.cons rfl (.nil)) (by decide) (.z) (memc M2 mem0) fun u6_12 Lo fs hres => ?_)))))))
 obtain ⟨rfl, rfl, rfl⟩ := hres
 refine ⟨⟨(Sk (Sr)), M0⟩, ?_⟩
 refine WE_gq rfl rfl rfl rfl (by simp; omega) (q_gtr rfl rfl) (by decide) (Qe rfl (q_pickT rfl (by simp; omega) rfl) (WE_end (WF_nil (thenN (WC_fr [(44, _), (6, _), (0, _), (1, _), (2, _)] (.cons rfl (.cons rfl (.cons rfl (.cons rfl (.cons rfl (.nil _)))))) (WC_false rfl (by simp; omega) (WC_skip (thenN (WC_seq (WC_region (Lq (q_move rfl) (Lq (q_nil rfl) (Lq (q_field (o' := 0) Un72 rfl ti70 rfl rfl) ?_)))))))))))))
 refine Lq (q_load1 Un70 rfl rfl own0 rfl) (Lq (q_assign rfl) (WL_nil (thenN (WC_seq (WC_seq (WC_region (Lq (q_move rfl) (Lq (q_len Un45 rfl) (Lq (q_move rfl) (WL_nil (thenN (WC_block ?_))))))))))))
 refine WC_loopE (α := Nat × Option Addr × Tr) (fun (i, B, u) => rs.length - i)
  (fun (i, B, u) => [(0, .pointer (some ⟨b, 0, none⟩)), (2, .int .i64 1), (9, .pointer B), (49, .slice (some ⟨b6, q6, none⟩) rs.length cr), (50, .int .i64 rs.length), (51, .int .i64 i)])
  (fun (i, B, u) => (rpP b A :: Ps))
  (fun (i, B, u) => (TrF B u :: TrF A t :: RdF rgD (some ⟨b6, q6, none⟩) cr rs :: As))
  (fun (i, B, u) => BuI rs 1 t.row i u)
  (0, A, t) ?_ (.cons rfl (.cons rfl (.cons rfl (.cons rfl (.cons rfl (.cons rfl (.nil _))))))) (Sk (Sr)) (memc M2 T2) ?_
 ·exact ⟨Nat.zero_le _, wt, rfl⟩
 ·rintro ⟨i, AJ, tJ⟩ hI
  have wtJ := hI.wf
  refine WC_seq (WC_region (Lq (q_lss rfl rfl) (WL_nil (thenN (WC_seq (WC_cond rfl (fun h52 => ?_) (fun h52 => ?_)))))))
  ·refine WC_skip (thenN (WC_seq (WC_block (WC_seq ?_))))
   try simp only [Bp, Bq] at *
   have hil : i < rs.length := by omega
   have hm := ho.norm.mem _ (List.getElem_mem hil)
   have hbl := ho.below _ (List.getElem_mem hil)
   have hrl := hI.len ho
   have hsl := hI.slice ho hil
   refine WC_elemK (k := i) M2 (List.getElem?_eq_getElem hil) (rg_open _) fun yk => ?_
   refine WC_region (Lq (q_idxRd Un45 ti119 rfl rfl (by omega) (by omega)) (Lq (q_loadFN (k := 0) (vs := [_, _]) Un119 rfl ti119 rfl M0 rfl rfl rfl) (WL_main rfl (OW_alloc (cs := [_, _]) ti119 rfl (by decide) fun b11 => WL_main rfl (OW_storeN (cs' := [_, _]) (vs := [_, _]) ti119 rfl rfl rfl rfl rfl (Nat.le_of_ble_eq_true rfl) (.z) (WL_nil (thenN (WC_seq (WC_region (Lq (q_move rfl) (Lq (q_field (o' := 0) Un119 rfl ti3 rfl rfl) (Lq (q_load1 Un3 rfl rfl own0 rfl) (WL_main rfl (OW_call0 (split_r AJ tJ rs[i].lo wtJ (by omega) (by omega) (by omega)) (.cons rfl (.cons rfl (.nil))) (by decide) (memc M1 mem0) fun u12_3 Lo fs hres => ?_))))))))))))))
   obtain ⟨A1, t1, E1, q1, rfl, rfl, rfl, wt1, wq1, r1, rq1⟩ := hres
   have e1 := congrArg List.length r1
   have eq1 := congrArg List.length rq1
   simp only [List.length_take, List.length_drop] at e1 eq1
   refine Lq (q_move rfl) (Lq (q_extract (vs := [_, _]) rfl rfl) (Lq (q_extract (vs := [_, _]) rfl rfl) (Lq (q_assign rfl) (Lq (q_assign rfl) (WL_nil (thenN (WC_seq (WC_region (Lq (q_move rfl) (Lq (q_field (o' := 1) Un119 rfl ti3 rfl rfl) (Lq (q_load1 Un3 rfl rfl own0 rfl) (Lq (q_field (o' := 0) Un119 rfl ti3 rfl rfl) ?_))))))))))))
   refine Lq (q_load1 Un3 rfl rfl own0 rfl) (Lq (q_sub rfl rfl (wr64 (by omega))) (WL_main rfl (OW_call0 (split_r E1 q1 (rs[i].hi - rs[i].lo) wq1 (by omega) (by omega) (by omega)) (.cons rfl (.cons rfl (.nil))) (by decide) (memc M1 mem0) fun u13_6 Lo fs hres => ?_)))
   obtain ⟨A2, t2, E2, q2, rfl, rfl, rfl, wt2, wq2, r2, rq2⟩ := hres
   have e2 := congrArg List.length r2
   have eq2 := congrArg List.length rq2
   simp only [List.length_take, List.length_drop] at e2 eq2
   refine Lq (q_move rfl) (Lq (q_extract (vs := [_, _]) rfl rfl) (Lq (q_extract (vs := [_, _]) rfl rfl) (Lq (q_assign rfl) (Lq (q_assign rfl) (WL_nil (thenN (WC_seq (WC_seq ?_))))))))
   have hn2 : t2.row ≠ [] := fun e => by have h1 := congrArg List.length e; rw [List.length_nil] at h1; omega
   obtain ⟨⟨cm, hcm, em⟩, cx, hcx, ex⟩ := wf_mn wt2 hn2
   have hs1 : InR (up 1 t2.row) := by rw [r2, rq1]; exact hsl
   have hc1 := hs1 _ (mem_up.2 ⟨cm, hcm, rfl⟩)
   have hc2 := hs1 _ (mem_up.2 ⟨cx, hcx, rfl⟩)
   simp only at hc1 hc2
   have hwl := wf_lift wt2 hs1
   have hlr := row_lift t2 1
   have hll : (liftF t2 1).row.length = t2.row.length := by rw [hlr, up_length]
   refine WC_region (Lq (q_move rfl) (Lq (q_lss rfl rfl) (Lq (q_move rfl) (Ln rfl rfl rfl rfl (Ln rfl rfl rfl rfl (Ln rfl rfl rfl rfl (Ln rfl rfl rfl rfl (Lq (q_pickF rfl rfl rfl) (WL_nil (thenN (WC_false rfl rfl (WC_skip (thenN (WC_seq (WC_seq (WC_region ?_))))))))))))))))
   refine Lq (q_move rfl) (Lq (q_gtr rfl rfl) (Lq (q_move rfl) (Lg rfl rfl rfl rfl (q_move rfl) (WL_gmain rfl rfl rfl rfl (OW_call0 (all_s A2 t2) (.cons rfl (.nil)) (by decide) (memc M0 mem0) fun u16_4 Lo fs hres => ?_)))))
   obtain ⟨rfl, rfl, rfl⟩ := hres
   refine Lg rfl rfl rfl rfl (q_part rfl (fd112_5Xw32 _ _ _ _ _ _)) (Lg rfl rfl rfl rfl (q_eql rfl rfl) (Lq (q_pickT rfl rfl rfl) (WL_nil (thenN (WC_false rfl (by simp; omega) (WC_skip (thenN (WC_region (Lq (q_move rfl) (Lq (q_move rfl) (Lq (q_move rfl) (WL_main rfl (OW_call0 (lift_s A2 t2 1 wt2 (by omega)) (.cons rfl (.cons rfl (.nil))) (by decide) (memc M0 mem0) fun u18_3 Lo fs hres => ?_)))))))))))))
   obtain ⟨L9, rfl, rfl, rfl⟩ := hres
   obtain ⟨L9t, hL9⟩ : ∃ z, z = liftF t2 1 := ⟨_, rfl⟩
   rw [← hL9] at hwl hlr hll ⊢
   have wL9t := hwl
   refine WL_main rfl (OW_call0 (mend_r A1 L9 t1 L9t wt1 wL9t (by omega)) (.cons rfl (.cons rfl (.nil))) (by decide) (memc M3 (memc M0 mem0)) fun u18_4 Lo fs hres => ?_)
   obtain ⟨T3, t3, rfl, rfl, rfl, wt3, r3⟩ := hres
   have e3 := congrArg List.length r3
   simp only [List.length_append] at e3
   refine Lq (q_move rfl) (WL_main rfl (OW_call0 (mend_r T3 E2 t3 q2 wt3 wq2 (by omega)) (.cons rfl (.cons rfl (.nil))) (by decide) (memc M0 (memc M3 mem0)) fun u18_6 Lo fs hres => ?_))
   obtain ⟨T4, t4, rfl, rfl, rfl, wt4, r4⟩ := hres
   have e4 := congrArg List.length r4
   simp only [List.length_append] at e4
   refine Lq (q_assign rfl) (WL_nil (blockN (thenN (WC_region (Lq (q_add rfl rfl (wr64 (by omega)) (c := ((i + 1 : Nat) : Int))) (Lq (q_move rfl) (WL_nil (thenK ?_))))))))
   refine ⟨(i + 1, T4, t4), ?_, (.cons rfl (.cons rfl (.cons rfl (.cons rfl (.cons rfl (.cons rfl (.nil _))))))), (Sd (Sk (Sr))), (memc M0 T9)⟩
   refine ⟨by show rs.length - (i + 1) < rs.length - i; omega, hI.next hil wt4 ?_⟩
   have e8 : rs[i].lo.toNat + (rs[i].hi - rs[i].lo).toNat = rs[i].hi.toNat := by omega
   rw [r4, r3, hlr, r1, r2, rq2, rq1, List.drop_drop, e8, List.append_assoc]; rfl
  ·refine WC_exit (thenExit (thenExit (blockHit (thenN (WC_seq (WC_region (Lq (q_move rfl) (Lq (q_move rfl) (Lq (q_nil rfl) (Lq (q_field (o' := 0) Un72 rfl ti70 rfl rfl) (WL_main rfl (OW_store1 ti70 rfl rfl rfl (.z) (.z) (WL_nil (thenN (WC_seq (WC_region (Lq (q_assign rfl) (WL_nil (thenN (WC_ret ?_))))))))))))))))))))
   refine ⟨_, [_], [_], fun Z w hs => .tmp rfl (.nil), ?_, fun Z w hs => hs.out (Sk (Sr)) (fun _ h => h)⟩
   try simp only [Bp, Bq] at *
   exact ⟨_, _, rfl, rfl, rfl, wtJ, hI.done (by omega)⟩

theorem fd112_3Xw32 (x0 : Int) (x1 : Int) (x2 : Int) (x3 : Int) (x4 : Int) (x5 : Int) (w : World) : (Instr.field 69 (.agg #[.int .i64 x0, .int .i64 x1, .int .i64 x2, .int .i64 x3, .int .i64 x4, .int .i64 x5]) 3).run Tryz.prog w = .ok (.int .i64 x3) w := by kernel_rfl

set_option maxRecDepth 10000 in
theorem bumpDn_s (b : Nat) (A Ar : Option Addr) (cr : Nat) (t : Tr) (rs : List Rg) (wt : Wf t) (hb : t.row.length ≤ 1048576) (ho : BuOk rs (-1) t.row) (hne : rs ≠ []) : Sp Tryz.prog 23 [.pointer (some ⟨b, 0, none⟩), .slice Ar rs.length cr, .int .i64 (-1)] [rpP b A] [TrF A t, RdF rgD Ar cr rs] (RpP b (bumpL rs (-1) t.row)) := by
 have hrs := (ckF_good ho.ck).1
 refine Sp.of (n := 100) ⟨_, Tryz.func23, rfl, rfl, rfl, rfl⟩ (Nat.le_of_ble_eq_true rfl) fun Ps As => WC_seq (WC_region (Lq (q_assign rfl) (WL_nil (thenN (WC_seq (WC_seq ?_))))))
 have hz1 : rs.length - 1 < rs.length := by have := List.length_pos_iff.2 hne; omega
 have hlast := ho.below _ (List.getElem_mem hz1)
 refine WC_elem (k := (rs.length - 1)) M1 (List.getElem?_eq_getElem hz1) (rg_open _) fun b6 q6 y6 e6 => ?_
 cases e6
 refine WC_region (Lq (q_move rfl) (Lq (q_neq rfl rfl) (Lq (q_move rfl) (Lg rfl rfl rfl rfl (q_move rfl) (Lg rfl rfl rfl rfl (q_neq rfl rfl) (Lq (q_pickT rfl rfl rfl) (WL_nil (thenN (WC_false rfl rfl (WC_skip (thenN (WC_seq (WC_seq (WC_region (Lq (q_move rfl) (WL_main rfl (OW_call0 (check_s (some ⟨b6, q6, none⟩) cr rs (by omega)) (.cons rfl (.nil)) (by decide) (memc M2 mem0) fun u3_1 Lo fs hres => ?_)))))))))))))))))
 obtain ⟨rfl, rfl, rfl⟩ := hres
 refine Lq (q_move rfl) (Lq (q_extract (vs := [_, _]) rfl rfl) (Lq (q_extract (vs := [_, _]) rfl rfl) (Lq (q_assign rfl) (Lq (q_assign rfl) (WL_nil (thenN (WC_fr [(8, _), (6, _), (0, _), (1, _), (2, _)] (.cons rfl (.cons rfl (.cons rfl (.cons rfl (.cons rfl (.nil _)))))) (WC_seq (WC_region (Lq (q_move rfl) (Lq (q_neq rfl rfl) ?_)))))))))))
 refine WL_nil (thenN (WC_false rfl (by rw [ho.ck]; rfl) (WC_skip (thenN (WC_seq (WC_seq (WC_draw _ _ [] (.c 0 0 (.c 1 0 (.c 2 0 (.c 3 0 (.c 4 0 (.c 5 0 (.c 6 0 (.c 7 0 (.c 8 0 (.c 9 0 (.c 10 0 (.c 11 0 (.c 12 2 (.c 13 0 (.c 14 0 .nil))))))))))))))) mixed (fun _ _ _ _ h => h) (Sk (Sr)) (fun _ h => h) (by kernel_rfl) (by decide) fun ws Z0 => Qe rfl (q_move rfl) (Qe rfl (q_len Un45 rfl) (Qe rfl (q_gtr rfl rfl) (Qe rfl (q_move rfl) (WE_gq rfl rfl rfl rfl (by simp; omega) (q_move rfl) (by decide) (WE_gq rfl rfl rfl rfl (by simp; omega) (q_move rfl) (by decide) ?_))))))))))))
 refine WE_gq rfl rfl rfl rfl (by simp; omega) (q_len Un45 rfl) (by decide) (WE_gq rfl rfl rfl rfl (by simp; omega) (q_sub rfl rfl (by rw [wr64 (by omega)]; omega) (c := ((rs.length - 1 : Nat) : Int))) (by decide) (WE_gq rfl rfl rfl rfl (by simp; omega) (q_idxRd Un45 ti119 rfl rfl (by omega) (by omega)) (by decide) (WE_gq rfl rfl rfl rfl (by simp; omega) (q_field (o' := _ + 1) Un119 rfl ti3 rfl rfl) (by decide) (WE_gq rfl rfl rfl rfl (by simp; omega) (q_loadF1 (j := 1) Un3 rfl rfl M0 rfl rfl) (by decide) (WE_gq rfl rfl rfl rfl (by simp; omega) (q_move rfl) (by decide) (WE_gmain rfl rfl rfl rfl rfl (by simp; omega) (OW_call1 (rtotal_s b A t wt) (.cons rfl (.nil)) (by decide) (.z) (memc M2 mem0) fun u6_12 Lo fs hres => ?_)))))))
 obtain ⟨rfl, rfl, rfl⟩ := hres
 refine ⟨⟨(Sk (Sr)), M0⟩, ?_⟩
 refine WE_gq rfl rfl rfl rfl (by simp; omega) (q_gtr rfl rfl) (by decide) (Qe rfl (q_pickT rfl (by simp; omega) rfl) (WE_end (WF_nil (thenN (WC_fr [(44, _), (6, _), (0, _), (1, _), (2, _)] (.cons rfl (.cons rfl (.cons rfl (.cons rfl (.cons rfl (.nil _)))))) (WC_false rfl (by simp; omega) (WC_skip (thenN (WC_seq (WC_region (Lq (q_move rfl) (Lq (q_nil rfl) (Lq (q_field (o' := 0) Un72 rfl ti70 rfl rfl) ?_)))))))))))))
 refine Lq (q_load1 Un70 rfl rfl own0 rfl) (Lq (q_assign rfl) (WL_nil (thenN (WC_seq (WC_seq (WC_region (Lq (q_move rfl) (Lq (q_len Un45 rfl) (Lq (q_move rfl) (WL_nil (thenN (WC_block ?_))))))))))))
 refine WC_loopE (α := Nat × Option Addr × Tr) (fun (i, B, u) => rs.length - i)
  (fun (i, B, u) => [(0, .pointer (some ⟨b, 0, none⟩)), (2, .int .i64 (-1)), (9, .pointer B), (49, .slice (some ⟨b6, q6, none⟩) rs.length cr), (50, .int .i64 rs.length), (51, .int .i64 i)])
  (fun (i, B, u) => (rpP b A :: Ps))
  (fun (i, B, u) => (TrF B u :: TrF A t :: RdF rgD (some ⟨b6, q6, none⟩) cr rs :: As))
  (fun (i, B, u) => BuI rs (-1) t.row i u)
  (0, A, t) ?_ (.cons rfl (.cons rfl (.cons rfl (.cons rfl (.cons rfl (.cons rfl (.nil _))))))) (Sk (Sr)) (memc M2 T2) ?_
 ·exact ⟨Nat.zero_le _, wt, rfl⟩
 ·rintro ⟨i, AJ, tJ⟩ hI
  have wtJ := hI.wf
  refine WC_seq (WC_region (Lq (q_lss rfl rfl) (WL_nil (thenN (WC_seq (WC_cond rfl (fun h52 => ?_) (fun h52 => ?_)))))))
  ·refine WC_skip (thenN (WC_seq (WC_block (WC_seq ?_))))
   try simp only [Bp, Bq] at *
   have hil : i < rs.length := by omega
   have hm := ho.norm.mem _ (List.getElem_mem hil)
   have hbl := ho.below _ (List.getElem_mem hil)
   have hrl := hI.len ho
   have hsl := hI.slice ho hil
   refine WC_elemK (k := i) M2 (List.getElem?_eq_getElem hil) (rg_open _) fun yk => ?_
   refine WC_region (Lq (q_idxRd Un45 ti119 rfl rfl (by omega) (by omega)) (Lq (q_loadFN (k := 0) (vs := [_, _]) Un119 rfl ti119 rfl M0 rfl rfl rfl) (WL_main rfl (OW_alloc (cs := [_, _]) ti119 rfl (by decide) fun b11 => WL_main rfl (OW_storeN (cs' := [_, _]) (vs := [_, _]) ti119 rfl rfl rfl rfl rfl (Nat.le_of_ble_eq_true rfl) (.z) (WL_nil (thenN (WC_seq (WC_region (Lq (q_move rfl) (Lq (q_field (o' := 0) Un119 rfl ti3 rfl rfl) (Lq (q_load1 Un3 rfl rfl own0 rfl) (WL_main rfl (OW_call0 (split_r AJ tJ rs[i].lo wtJ (by omega) (by omega) (by omega)) (.cons rfl (.cons rfl (.nil))) (by decide) (memc M1 mem0) fun u12_3 Lo fs hres => ?_))))))))))))))
   obtain ⟨A1, t1, E1, q1, rfl, rfl, rfl, wt1, wq1, r1, rq1⟩ := hres
   have e1 := congrArg List.length r1
   have eq1 := congrArg List.length rq1
   simp only [List.length_take, List.length_drop] at e1 eq1
   refine Lq (q_move rfl) (Lq (q_extract (vs := [_, _]) rfl rfl) (Lq (q_extract (vs := [_, _]) rfl rfl) (Lq (q_assign rfl) (Lq (q_assign rfl) (WL_nil (thenN (WC_seq (WC_region (Lq (q_move rfl) (Lq (q_field (o' := 1) Un119 rfl ti3 rfl rfl) (Lq (q_load1 Un3 rfl rfl own0 rfl) (Lq (q_field (o' := 0) Un119 rfl ti3 rfl rfl) ?_))))))))))))
   refine Lq (q_load1 Un3 rfl rfl own0 rfl) (Lq (q_sub rfl rfl (wr64 (by omega))) (WL_main rfl (OW_call0 (split_r E1 q1 (rs[i].hi - rs[i].lo) wq1 (by omega) (by omega) (by omega)) (.cons rfl (.cons rfl (.nil))) (by decide) (memc M1 mem0) fun u13_6 Lo fs hres => ?_)))
   obtain ⟨A2, t2, E2, q2, rfl, rfl, rfl, wt2, wq2, r2, rq2⟩ := hres
   have e2 := congrArg List.length r2
   have eq2 := congrArg List.length rq2
   simp only [List.length_take, List.length_drop] at e2 eq2
   refine Lq (q_move rfl) (Lq (q_extract (vs := [_, _]) rfl rfl) (Lq (q_extract (vs := [_, _]) rfl rfl) (Lq (q_assign rfl) (Lq (q_assign rfl) (WL_nil (thenN (WC_seq (WC_seq ?_))))))))
   have hn2 : t2.row ≠ [] := fun e => by have h1 := congrArg List.length e; rw [List.length_nil] at h1; omega
   obtain ⟨⟨cm, hcm, em⟩, cx, hcx, ex⟩ := wf_mn wt2 hn2
   have hs1 : InR (up (-1) t2.row) := by rw [r2, rq1]; exact hsl
   have hc1 := hs1 _ (mem_up.2 ⟨cm, hcm, rfl⟩)
   have hc2 := hs1 _ (mem_up.2 ⟨cx, hcx, rfl⟩)
   simp only at hc1 hc2
   have hwl := wf_lift wt2 hs1
   have hlr := row_lift t2 (-1)
   have hll : (liftF t2 (-1)).row.length = t2.row.length := by rw [hlr, up_length]
   refine WC_region (Lq (q_move rfl) (Lq (q_lss rfl rfl) (Lq (q_move rfl) (Lg rfl rfl rfl rfl (q_move rfl) (WL_gmain rfl rfl rfl rfl (OW_call0 (all_s A2 t2) (.cons rfl (.nil)) (by decide) (memc M0 mem0) fun u14_4 Lo fs hres => ?_))))))
   obtain ⟨rfl, rfl, rfl⟩ := hres
   refine Lg rfl rfl rfl rfl (q_part rfl (fd112_3Xw32 _ _ _ _ _ _)) (Lg rfl rfl rfl rfl (q_eql rfl rfl) (Lq (q_pickT rfl rfl rfl) (WL_nil (thenN (WC_false rfl (by simp; omega) (WC_skip (thenN (WC_seq (WC_seq (WC_region (Lq (q_move rfl) (Lq (q_gtr rfl rfl) (Lq (q_move rfl) (Ln rfl rfl rfl rfl ?_))))))))))))))
   refine Ln rfl rfl rfl rfl (Ln rfl rfl rfl rfl (Ln rfl rfl rfl rfl (Lq (q_pickF rfl rfl rfl) (WL_nil (thenN (WC_false rfl rfl (WC_skip (thenN (WC_region (Lq (q_move rfl) (Lq (q_move rfl) (Lq (q_move rfl) (WL_main rfl (OW_call0 (lift_s A2 t2 (-1) wt2 (by omega)) (.cons rfl (.cons rfl (.nil))) (by decide) (memc M0 mem0) fun u18_3 Lo fs hres => ?_))))))))))))))
   obtain ⟨L9, rfl, rfl, rfl⟩ := hres
   obtain ⟨L9t, hL9⟩ : ∃ z, z = liftF t2 (-1) := ⟨_, rfl⟩
   rw [← hL9] at hwl hlr hll ⊢
   have wL9t := hwl
   refine WL_main rfl (OW_call0 (mend_r A1 L9 t1 L9t wt1 wL9t (by omega)) (.cons rfl (.cons rfl (.nil))) (by decide) (memc M3 (memc M0 mem0)) fun u18_4 Lo fs hres => ?_)
   obtain ⟨T3, t3, rfl, rfl, rfl, wt3, r3⟩ := hres
   have e3 := congrArg List.length r3
   simp only [List.length_append] at e3
   refine Lq (q_move rfl) (WL_main rfl (OW_call0 (mend_r T3 E2 t3 q2 wt3 wq2 (by omega)) (.cons rfl (.cons rfl (.nil))) (by decide) (memc M0 (memc M3 mem0)) fun u18_6 Lo fs hres => ?_))
   obtain ⟨T4, t4, rfl, rfl, rfl, wt4, r4⟩ := hres
   have e4 := congrArg List.length r4
   simp only [List.length_append] at e4
   refine Lq (q_assign rfl) (WL_nil (blockN (thenN (WC_region (Lq (q_add rfl rfl (wr64 (by omega)) (c := ((i + 1 : Nat) : Int))) (Lq (q_move rfl) (WL_nil (thenK ?_))))))))
   refine ⟨(i + 1, T4, t4), ?_, (.cons rfl (.cons rfl (.cons rfl (.cons rfl (.cons rfl (.cons rfl (.nil _))))))), (Sd (Sk (Sr))), (memc M0 T9)⟩
   refine ⟨by show rs.length - (i + 1) < rs.length - i; omega, hI.next hil wt4 ?_⟩
   have e8 : rs[i].lo.toNat + (rs[i].hi - rs[i].lo).toNat = rs[i].hi.toNat := by omega
   rw [r4, r3, hlr, r1, r2, rq2, rq1, List.drop_drop, e8, List.append_assoc]; rfl
  ·refine WC_exit (thenExit (thenExit (blockHit (thenN (WC_seq (WC_region (Lq (q_move rfl) (Lq (q_move rfl) (Lq (q_nil rfl) (Lq (q_field (o' := 0) Un72 rfl ti70 rfl rfl) (WL_main rfl (OW_store1 ti70 rfl rfl rfl (.z) (.z) (WL_nil (thenN (WC_seq (WC_region (Lq (q_assign rfl) (WL_nil (thenN (WC_ret ?_))))))))))))))))))))
   refine ⟨_, [_], [_], fun Z w hs => .tmp rfl (.nil), ?_, fun Z w hs => hs.out (Sk (Sr)) (fun _ h => h)⟩
   try simp only [Bp, Bq] at *
   exact ⟨_, _, rfl, rfl, rfl, wtJ, hI.done (by omega)⟩

end Go.Proofs.YtcjbjkbghgjmdaaGreatDoor
/- Walks: rope.Cell. -/
namespace Go.Proofs.YtcjbjkbghgjmdaaGreatDoor
open Go Go.GW
structure CeI (c : Ce) (x : Int) (t : Tr) : Prop where
 wf : Wf t
 lo : 0 ≤ x
 hi : x < t.row.length
 le : t.row.length ≤ 1073741824
 eq : t.row[x.toNat]? = some c
end Go.Proofs.YtcjbjkbghgjmdaaGreatDoor
/- Walks: op. -/
namespace Go.Proofs.YtcjbjkbghgjmdaaGreatDoor
open Go Go.GW
set_option maxRecDepth 10000 in
theorem width_s (o : GOp) (A : Option Addr) (c : Nat) (hs : o.text.size ≤ 4611686018427387904) : Sp Tryz.prog 29 [opV o A c] [] [barF] (Is (.int .i64 (widthF o))) := by
 refine Sp.of (n := 18) ⟨_, Tryz.func29, rfl, rfl, rfl, rfl⟩ (Nat.le_of_ble_eq_true rfl) fun Ps As => WC_seq (WC_region (WL_main rfl (OW_box (cs := [_, _, _, _, _, _, _, _, _]) rfl rfl (by decide) fun b1 => Lq (q_assign rfl) (WL_nil (thenN (WC_seq (WC_seq (WC_region (Lq (q_field (o' := 0) Un47 rfl ti44 rfl rfl) (Lq (q_field (o' := 2) Un44 rfl ti42 rfl rfl) (Lq (q_load1 Un42 rfl rfl own0 rfl) (Lq (q_neq rfl rfl) (WL_nil (thenN ?_))))))))))))))
 refine WC_cond rfl (fun h9 => ?_) (fun h9 => ?_)
 ·refine WC_seq (WC_region (Lq (q_assign rfl) (WL_nil (thenN (WC_ret (thenRet ?_))))))
  refine ⟨_, [], [], fun Z w hs => .tmp rfl (.nil), ?_, fun Z w hs => hs.out (Sd (Sr)) (fun _ h => h)⟩
  try simp only [Bp, Bq] at *
  exact ⟨congrArg (Value.int .i64) (by unfold widthF; first | (simp_all; done) | (simp_all; repeat' split; all_goals omega) | (repeat' split; all_goals first | rfl | omega)), rfl, rfl⟩
 ·refine WC_skip (thenN (WC_seq (WC_region (Lq (q_field (o' := 4) Un47 rfl ti9 rfl rfl) (Lq (q_load1 Un9 rfl rfl own0 rfl) (WL_main rfl (OW_call0 (utCheck_s o.text hs) (.cons rfl (.nil)) (by decide) (memc M0 mem0) fun u3_2 Lo fs hres => ?_)))))))
  obtain ⟨rfl, rfl, rfl⟩ := hres
  refine Lq (q_move rfl) (Lq (q_extract (vs := [_, _, _]) rfl rfl) (Lq (q_extract (vs := [_, _, _]) rfl rfl) (Lq (q_extract (vs := [_, _, _]) rfl rfl) (Lq (q_assign rfl) (Lq (q_assign rfl) (Lq (q_assign rfl) (WL_nil (thenN (WC_fr [(3, _), (2, _)] (.cons rfl (.cons rfl (.nil _))) (WC_seq (WC_region ?_)))))))))))
  refine Lq (q_move rfl) (Lq (q_assign rfl) (WL_nil (thenN (WC_ret ?_))))
  refine ⟨_, [], [], fun Z w hs => .tmp rfl (.nil), ?_, fun Z w hs => hs.out (Sd (Sr)) (fun _ h => h)⟩
  try simp only [Bp, Bq] at *
  exact ⟨congrArg (Value.int .i64) (by unfold widthF; first | (simp_all; done) | (simp_all; repeat' split; all_goals omega) | (repeat' split; all_goals first | rfl | omega)), rfl, rfl⟩

theorem bd25Xw8  (w : World) : (Instr.build 37 #[]).run Tryz.prog w = .ok (.agg #[.int .i64 0, .int .i64 0]) w := by kernel_rfl

set_option maxRecDepth 10000 in
theorem extra_s (o : GOp) (A : Option Addr) (c : Nat) : Sp Tryz.prog 43 [opV o A c] [] [] (Is (.bool (extraF o))) := by
 refine Sp.of (n := 56) ⟨_, Tryz.func43, rfl, rfl, rfl, rfl⟩ (Nat.le_of_ble_eq_true rfl) fun Ps As => WC_seq (WC_region (WL_main rfl (OW_box (cs := [_, _, _, _, _, _, _, _, _]) rfl rfl (by decide) fun b1 => Lq (q_assign rfl) (WL_nil (thenN (WC_seq (WC_region (Lq (q_field (o' := 0) Un47 rfl ti44 rfl rfl) (Lq (q_field (o' := 2) Un44 rfl ti42 rfl rfl) (Lq (q_load1 Un42 rfl rfl own0 rfl) (Lq (q_eql rfl rfl) (Lq (q_assign rfl) ?_))))))))))))
 refine WL_nil (thenN (WC_seq (WC_region (Lq (q_field (o' := 0) Un47 rfl ti44 rfl rfl) (Lq (q_field (o' := 2) Un44 rfl ti42 rfl rfl) (Lq (q_load1 Un42 rfl rfl own0 rfl) (Lq (q_eql rfl rfl) (Lq (q_move rfl) (WL_guard (t := 14) rfl (fun g14 => ?_) (fun g14 => ?_))))))))))
 ·refine Ln rfl rfl rfl g14 (Ln rfl rfl rfl g14 (Ln rfl rfl rfl g14 (Ln rfl rfl rfl g14 (Lq (q_pickT rfl g14 rfl) (Lq (q_assign rfl) (WL_nil (thenN (WC_fr [(4, _), (3, _), (2, _), (1, _)] (.cons rfl (.cons rfl (.cons rfl (.cons rfl (.nil _))))) (WC_seq (WC_region (Lq (q_field (o' := 0) Un47 rfl ti44 rfl rfl) ?_)))))))))))
  refine Lq (q_field (o' := 2) Un44 rfl ti42 rfl rfl) (Lq (q_load1 Un42 rfl rfl own0 rfl) (Lq (q_eql rfl rfl) (Lq (q_assign rfl) (WL_nil (thenN (WC_seq (WC_seq (WC_region (Lq (q_move rfl) (Lq (q_not rfl) (Lq (q_move rfl) (WL_guard (t := 26) rfl (fun g26 => ?_) (fun g26 => ?_)))))))))))))
  ·refine Lg rfl rfl rfl g26 (q_field (o' := 3) Un47 rfl ti3 rfl rfl) (Lg rfl rfl rfl g26 (q_load1 Un3 rfl rfl own0 rfl) (Lg rfl rfl rfl g26 (q_neq rfl rfl) (Lg rfl rfl rfl g26 (q_move rfl) (WL_guard (t := 30) rfl (fun g30 => ?_) (fun g30 => ?_)))))
   ·refine Ln rfl rfl rfl g30 (Ln rfl rfl rfl g30 (Ln rfl rfl rfl g30 (Lg rfl rfl rfl g26 (q_pickT rfl g30 rfl) (Lq (q_pickT rfl g26 rfl) (WL_nil (thenN (WC_fr [(35, _), (5, _), (4, _), (2, _), (1, _)] (.cons rfl (.cons rfl (.cons rfl (.cons rfl (.cons rfl (.nil _)))))) (WC_true rfl rfl (WC_seq (WC_region (Lq (q_assign rfl) (WL_nil (thenN (WC_ret (thenRet ?_)))))))))))))))
    refine ⟨_, [], [], fun Z w hs => .tmp rfl (.nil), ?_, fun Z w hs => hs.out (Sd (Sr)) (fun _ h => h)⟩
    try simp only [Bp, Bq] at *
    exact ⟨congrArg (Value.bool) (by unfold extraF; first | (simp_all; done) | (simp_all; repeat' split; all_goals omega) | (repeat' split; all_goals first | rfl | omega)), rfl, rfl⟩
   ·refine Lg rfl rfl rfl g30 (q_field (o' := 4) Un47 rfl ti9 rfl rfl) (Lg rfl rfl rfl g30 (q_load1 Un9 rfl rfl own0 rfl) (Lg rfl rfl rfl g30 (q_sneq rfl rfl) (Lg rfl rfl rfl g26 (q_pickF rfl g30 rfl) (Lq (q_pickT rfl g26 rfl) (WL_nil (thenN (WC_fr [(35, _), (5, _), (4, _), (2, _), (1, _)] (.cons rfl (.cons rfl (.cons rfl (.cons rfl (.cons rfl (.nil _)))))) (WC_cond rfl (fun h35 => ?_) (fun h35 => ?_)))))))))
    ·refine WC_seq (WC_region (Lq (q_assign rfl) (WL_nil (thenN (WC_ret (thenRet ?_))))))
     refine ⟨_, [], [], fun Z w hs => .tmp rfl (.nil), ?_, fun Z w hs => hs.out (Sd (Sr)) (fun _ h => h)⟩
     try simp only [Bp, Bq] at *
     exact ⟨congrArg (Value.bool) (by unfold extraF; first | (simp_all; done) | (simp_all; repeat' split; all_goals omega) | (repeat' split; all_goals first | rfl | omega)), rfl, rfl⟩
    ·refine WC_skip (thenN (WC_seq (WC_seq (WC_region (Lq (q_move rfl) (Lq (q_not rfl) (Lq (q_move rfl) (Ln rfl rfl rfl rfl (Ln rfl rfl rfl rfl (Ln rfl rfl rfl rfl (Ln rfl rfl rfl rfl (Lq (q_pickF rfl rfl rfl) (WL_nil (thenN (WC_false rfl rfl (WC_skip (thenN (WC_seq (WC_region ?_)))))))))))))))))))
     refine Lq (q_move rfl) (Lq (q_not rfl) (Lq (q_move rfl) (WL_guard (t := 46) rfl (fun g46 => ?_) (fun g46 => ?_))))
     ·refine Lg rfl rfl rfl g46 (q_field (o' := 6) Un47 rfl ti37 rfl rfl) (Lg rfl rfl rfl g46 (q_loadN (vs := [_, _]) Un37 rfl ti37 rfl own0 rfl rfl) (Lg rfl rfl rfl g46 (q_build (.nil) (bd25Xw8)) (Lg rfl rfl rfl g46 (q_aggneq rfl rfl (eq37 _ _ _ _)) (Lg rfl rfl rfl g46 (q_move rfl) (WL_guard (t := 51) rfl (fun g51 => ?_) (fun g51 => ?_))))))
      ·refine Ln rfl rfl rfl g51 (Ln rfl rfl rfl g51 (Lg rfl rfl rfl g46 (q_pickT rfl g51 rfl) (Lq (q_pickT rfl g46 rfl) (Lq (q_assign rfl) (WL_nil (thenN (WC_fr [(2, _)] (.cons rfl (.nil _)) (WC_ret ?_))))))))
       refine ⟨_, [], [], fun Z w hs => .tmp rfl (.nil), ?_, fun Z w hs => hs.out (Sd (Sr)) (fun _ h => h)⟩
       try simp only [Bp, Bq] at *
       exact ⟨congrArg (Value.bool) (by unfold extraF; first | (simp_all; done) | (simp_all; repeat' split; all_goals omega) | (repeat' split; all_goals first | rfl | omega)), rfl, rfl⟩
      ·refine Lg rfl rfl rfl g51 (q_field (o' := 8) Un47 rfl ti4 rfl rfl) (Lg rfl rfl rfl g51 (q_load1 Un4 rfl rfl own0 rfl) (Lg rfl rfl rfl g46 (q_pickF rfl g51 rfl) (Lq (q_pickT rfl g46 rfl) (Lq (q_assign rfl) (WL_nil (thenN (WC_fr [(2, _)] (.cons rfl (.nil _)) (WC_ret ?_))))))))
       refine ⟨_, [], [], fun Z w hs => .tmp rfl (.nil), ?_, fun Z w hs => hs.out (Sd (Sr)) (fun _ h => h)⟩
       try simp only [Bp, Bq] at *
       exact ⟨congrArg (Value.bool) (by unfold extraF; first | (simp_all; done) | (simp_all; repeat' split; all_goals omega) | (repeat' split; all_goals first | rfl | omega)), rfl, rfl⟩
     ·refine Ln rfl rfl rfl g46 (Ln rfl rfl rfl g46 (Ln rfl rfl rfl g46 (Ln rfl rfl rfl g46 (Ln rfl rfl rfl g46 (WL_gun rfl rfl rfl (by decide) (WL_gun rfl rfl rfl (by decide) (Ln rfl rfl rfl g46 (Lq (q_pickF rfl g46 rfl) (Lq (q_assign rfl) ?_)))))))))
      refine WL_nil (thenN (WC_fr [(2, _)] (.cons rfl (.nil _)) (WC_ret ?_)))
      refine ⟨_, [], [], fun Z w hs => .tmp rfl (.nil), ?_, fun Z w hs => hs.out (Sd (Sr)) (fun _ h => h)⟩
      try simp only [Bp, Bq] at *
      exact ⟨congrArg (Value.bool) (by unfold extraF; first | (simp_all; done) | (simp_all; repeat' split; all_goals omega) | (repeat' split; all_goals first | rfl | omega)), rfl, rfl⟩
  ·refine Ln rfl rfl rfl g26 (Ln rfl rfl rfl g26 (Ln rfl rfl rfl g26 (Ln rfl rfl rfl g26 (WL_gun rfl rfl rfl (by decide) (WL_gun rfl rfl rfl (by decide) (WL_gun rfl rfl rfl (by decide) (Ln rfl rfl rfl g26 (Lq (q_pickF rfl g26 rfl) (WL_nil (thenN ?_))))))))))
   refine WC_fr [(35, _), (5, _), (4, _), (2, _), (1, _)] (.cons rfl (.cons rfl (.cons rfl (.cons rfl (.cons rfl (.nil _)))))) (WC_false rfl rfl (WC_skip (thenN (WC_seq (WC_seq (WC_region (Lq (q_move rfl) (Lq (q_not rfl) (Lq (q_move rfl) (Ln rfl rfl rfl rfl (Ln rfl rfl rfl rfl (Ln rfl rfl rfl rfl (Ln rfl rfl rfl rfl (Lq (q_pickF rfl rfl rfl) ?_))))))))))))))
   refine WL_nil (thenN (WC_false rfl rfl (WC_skip (thenN (WC_seq (WC_region (Lq (q_move rfl) (Lq (q_not rfl) (Lq (q_move rfl) (WL_guard (t := 46) rfl (fun g46 => ?_) (fun g46 => ?_)))))))))))
   ·refine Lg rfl rfl rfl g46 (q_field (o' := 6) Un47 rfl ti37 rfl rfl) (Lg rfl rfl rfl g46 (q_loadN (vs := [_, _]) Un37 rfl ti37 rfl own0 rfl rfl) (Lg rfl rfl rfl g46 (q_build (.nil) (bd25Xw8)) (Lg rfl rfl rfl g46 (q_aggneq rfl rfl (eq37 _ _ _ _)) (Lg rfl rfl rfl g46 (q_move rfl) (WL_guard (t := 51) rfl (fun g51 => ?_) (fun g51 => ?_))))))
    ·refine Ln rfl rfl rfl g51 (Ln rfl rfl rfl g51 (Lg rfl rfl rfl g46 (q_pickT rfl g51 rfl) (Lq (q_pickT rfl g46 rfl) (Lq (q_assign rfl) (WL_nil (thenN (WC_fr [(2, _)] (.cons rfl (.nil _)) (WC_ret ?_))))))))
     refine ⟨_, [], [], fun Z w hs => .tmp rfl (.nil), ?_, fun Z w hs => hs.out (Sd (Sr)) (fun _ h => h)⟩
     try simp only [Bp, Bq] at *
     exact ⟨congrArg (Value.bool) (by unfold extraF; first | (simp_all; done) | (simp_all; repeat' split; all_goals omega) | (repeat' split; all_goals first | rfl | omega)), rfl, rfl⟩
    ·refine Lg rfl rfl rfl g51 (q_field (o' := 8) Un47 rfl ti4 rfl rfl) (Lg rfl rfl rfl g51 (q_load1 Un4 rfl rfl own0 rfl) (Lg rfl rfl rfl g46 (q_pickF rfl g51 rfl) (Lq (q_pickT rfl g46 rfl) (Lq (q_assign rfl) (WL_nil (thenN (WC_fr [(2, _)] (.cons rfl (.nil _)) (WC_ret ?_))))))))
     refine ⟨_, [], [], fun Z w hs => .tmp rfl (.nil), ?_, fun Z w hs => hs.out (Sd (Sr)) (fun _ h => h)⟩
     try simp only [Bp, Bq] at *
     exact ⟨congrArg (Value.bool) (by unfold extraF; first | (simp_all; done) | (simp_all; repeat' split; all_goals omega) | (repeat' split; all_goals first | rfl | omega)), rfl, rfl⟩
   ·refine Ln rfl rfl rfl g46 (Ln rfl rfl rfl g46 (Ln rfl rfl rfl g46 (Ln rfl rfl rfl g46 (Ln rfl rfl rfl g46 (WL_gun rfl rfl rfl (by decide) (WL_gun rfl rfl rfl (by decide) (Ln rfl rfl rfl g46 (Lq (q_pickF rfl g46 rfl) (Lq (q_assign rfl) ?_)))))))))
    refine WL_nil (thenN (WC_fr [(2, _)] (.cons rfl (.nil _)) (WC_ret ?_)))
    refine ⟨_, [], [], fun Z w hs => .tmp rfl (.nil), ?_, fun Z w hs => hs.out (Sd (Sr)) (fun _ h => h)⟩
    try simp only [Bp, Bq] at *
    exact ⟨congrArg (Value.bool) (by unfold extraF; first | (simp_all; done) | (simp_all; repeat' split; all_goals omega) | (repeat' split; all_goals first | rfl | omega)), rfl, rfl⟩
 ·refine Lg rfl rfl rfl g14 (q_field (o' := 0) Un47 rfl ti44 rfl rfl) (Lg rfl rfl rfl g14 (q_field (o' := 2) Un44 rfl ti42 rfl rfl) (Lg rfl rfl rfl g14 (q_load1 Un42 rfl rfl own0 rfl) (Lg rfl rfl rfl g14 (q_eql rfl rfl) (Lq (q_pickF rfl g14 rfl) (Lq (q_assign rfl) (WL_nil (thenN (WC_fr [(4, _), (3, _), (2, _), (1, _)] (.cons rfl (.cons rfl (.cons rfl (.cons rfl (.nil _))))) (WC_seq (WC_region (Lq (q_field (o' := 0) Un47 rfl ti44 rfl rfl) ?_)))))))))))
  refine Lq (q_field (o' := 2) Un44 rfl ti42 rfl rfl) (Lq (q_load1 Un42 rfl rfl own0 rfl) (Lq (q_eql rfl rfl) (Lq (q_assign rfl) (WL_nil (thenN (WC_seq (WC_seq (WC_region (Lq (q_move rfl) (Lq (q_not rfl) (Lq (q_move rfl) (WL_guard (t := 26) rfl (fun g26 => ?_) (fun g26 => ?_)))))))))))))
  ·refine Lg rfl rfl rfl g26 (q_field (o' := 3) Un47 rfl ti3 rfl rfl) (Lg rfl rfl rfl g26 (q_load1 Un3 rfl rfl own0 rfl) (Lg rfl rfl rfl g26 (q_neq rfl rfl) (Lg rfl rfl rfl g26 (q_move rfl) (WL_guard (t := 30) rfl (fun g30 => ?_) (fun g30 => ?_)))))
   ·refine Ln rfl rfl rfl g30 (Ln rfl rfl rfl g30 (Ln rfl rfl rfl g30 (Lg rfl rfl rfl g26 (q_pickT rfl g30 rfl) (Lq (q_pickT rfl g26 rfl) (WL_nil (thenN (WC_fr [(35, _), (5, _), (4, _), (2, _), (1, _)] (.cons rfl (.cons rfl (.cons rfl (.cons rfl (.cons rfl (.nil _)))))) (WC_true rfl rfl (WC_seq (WC_region (Lq (q_assign rfl) (WL_nil (thenN (WC_ret (thenRet ?_)))))))))))))))
    refine ⟨_, [], [], fun Z w hs => .tmp rfl (.nil), ?_, fun Z w hs => hs.out (Sd (Sr)) (fun _ h => h)⟩
    try simp only [Bp, Bq] at *
    exact ⟨congrArg (Value.bool) (by unfold extraF; first | (simp_all; done) | (simp_all; repeat' split; all_goals omega) | (repeat' split; all_goals first | rfl | omega)), rfl, rfl⟩
   ·refine Lg rfl rfl rfl g30 (q_field (o' := 4) Un47 rfl ti9 rfl rfl) (Lg rfl rfl rfl g30 (q_load1 Un9 rfl rfl own0 rfl) (Lg rfl rfl rfl g30 (q_sneq rfl rfl) (Lg rfl rfl rfl g26 (q_pickF rfl g30 rfl) (Lq (q_pickT rfl g26 rfl) (WL_nil (thenN (WC_fr [(35, _), (5, _), (4, _), (2, _), (1, _)] (.cons rfl (.cons rfl (.cons rfl (.cons rfl (.cons rfl (.nil _)))))) (WC_cond rfl (fun h35 => ?_) (fun h35 => ?_)))))))))
    ·refine WC_seq (WC_region (Lq (q_assign rfl) (WL_nil (thenN (WC_ret (thenRet ?_))))))
     refine ⟨_, [], [], fun Z w hs => .tmp rfl (.nil), ?_, fun Z w hs => hs.out (Sd (Sr)) (fun _ h => h)⟩
     try simp only [Bp, Bq] at *
     exact ⟨congrArg (Value.bool) (by unfold extraF; first | (simp_all; done) | (simp_all; repeat' split; all_goals omega) | (repeat' split; all_goals first | rfl | omega)), rfl, rfl⟩
    ·refine WC_skip (thenN (WC_seq (WC_seq (WC_region (Lq (q_move rfl) (Lq (q_not rfl) (Lq (q_move rfl) (WL_guard (t := 38) rfl (fun g38 => ?_) (fun g38 => ?_)))))))))
     ·refine Lg rfl rfl rfl g38 (q_field (o' := 5) Un47 rfl ti45 rfl rfl) (Lg rfl rfl rfl g38 (q_load1 Un45 rfl rfl own0 rfl) (Lg rfl rfl rfl g38 (q_len Un45 rfl) (Lg rfl rfl rfl g38 (q_gtr rfl rfl) (Lq (q_pickT rfl g38 rfl) (WL_nil (thenN (WC_cond rfl (fun h43 => ?_) (fun h43 => ?_))))))))
      ·refine WC_seq (WC_region (Lq (q_assign rfl) (WL_nil (thenN (WC_ret (thenRet ?_))))))
       refine ⟨_, [], [], fun Z w hs => .tmp rfl (.nil), ?_, fun Z w hs => hs.out (Sd (Sr)) (fun _ h => h)⟩
       try simp only [Bp, Bq] at *
       exact ⟨congrArg (Value.bool) (by unfold extraF; first | (simp_all; done) | (simp_all; repeat' split; all_goals omega) | (repeat' split; all_goals first | rfl | omega)), rfl, rfl⟩
      ·refine WC_skip (thenN (WC_seq (WC_region (Lq (q_move rfl) (Lq (q_not rfl) (Lq (q_move rfl) (WL_guard (t := 46) rfl (fun g46 => ?_) (fun g46 => ?_))))))))
       ·refine Lg rfl rfl rfl g46 (q_field (o' := 6) Un47 rfl ti37 rfl rfl) (Lg rfl rfl rfl g46 (q_loadN (vs := [_, _]) Un37 rfl ti37 rfl own0 rfl rfl) (Lg rfl rfl rfl g46 (q_build (.nil) (bd25Xw8)) (Lg rfl rfl rfl g46 (q_aggneq rfl rfl (eq37 _ _ _ _)) (Lg rfl rfl rfl g46 (q_move rfl) (WL_guard (t := 51) rfl (fun g51 => ?_) (fun g51 => ?_))))))
        ·refine Ln rfl rfl rfl g51 (Ln rfl rfl rfl g51 (Lg rfl rfl rfl g46 (q_pickT rfl g51 rfl) (Lq (q_pickT rfl g46 rfl) (Lq (q_assign rfl) (WL_nil (thenN (WC_fr [(2, _)] (.cons rfl (.nil _)) (WC_ret ?_))))))))
         refine ⟨_, [], [], fun Z w hs => .tmp rfl (.nil), ?_, fun Z w hs => hs.out (Sd (Sr)) (fun _ h => h)⟩
         try simp only [Bp, Bq] at *
         exact ⟨congrArg (Value.bool) (by unfold extraF; first | (simp_all; done) | (simp_all; repeat' split; all_goals omega) | (repeat' split; all_goals first | rfl | omega)), rfl, rfl⟩
        ·refine Lg rfl rfl rfl g51 (q_field (o' := 8) Un47 rfl ti4 rfl rfl) (Lg rfl rfl rfl g51 (q_load1 Un4 rfl rfl own0 rfl) (Lg rfl rfl rfl g46 (q_pickF rfl g51 rfl) (Lq (q_pickT rfl g46 rfl) (Lq (q_assign rfl) (WL_nil (thenN (WC_fr [(2, _)] (.cons rfl (.nil _)) (WC_ret ?_))))))))
         refine ⟨_, [], [], fun Z w hs => .tmp rfl (.nil), ?_, fun Z w hs => hs.out (Sd (Sr)) (fun _ h => h)⟩
         try simp only [Bp, Bq] at *
         exact ⟨congrArg (Value.bool) (by unfold extraF; first | (simp_all; done) | (simp_all; repeat' split; all_goals omega) | (repeat' split; all_goals first | rfl | omega)), rfl, rfl⟩
       ·refine Ln rfl rfl rfl g46 (Ln rfl rfl rfl g46 (Ln rfl rfl rfl g46 (Ln rfl rfl rfl g46 (Ln rfl rfl rfl g46 (WL_gun rfl rfl rfl (by decide) (WL_gun rfl rfl rfl (by decide) (Ln rfl rfl rfl g46 (Lq (q_pickF rfl g46 rfl) (Lq (q_assign rfl) ?_)))))))))
        refine WL_nil (thenN (WC_fr [(2, _)] (.cons rfl (.nil _)) (WC_ret ?_)))
        refine ⟨_, [], [], fun Z w hs => .tmp rfl (.nil), ?_, fun Z w hs => hs.out (Sd (Sr)) (fun _ h => h)⟩
        try simp only [Bp, Bq] at *
        exact ⟨congrArg (Value.bool) (by unfold extraF; first | (simp_all; done) | (simp_all; repeat' split; all_goals omega) | (repeat' split; all_goals first | rfl | omega)), rfl, rfl⟩
     ·refine Ln rfl rfl rfl g38 (Ln rfl rfl rfl g38 (Ln rfl rfl rfl g38 (Ln rfl rfl rfl g38 (Lq (q_pickF rfl g38 rfl) (WL_nil (thenN (WC_false rfl rfl (WC_skip (thenN (WC_seq (WC_region (Lq (q_move rfl) (Lq (q_not rfl) (Lq (q_move rfl) (WL_guard (t := 46) rfl (fun g46 => ?_) (fun g46 => ?_))))))))))))))))
      ·refine Lg rfl rfl rfl g46 (q_field (o' := 6) Un47 rfl ti37 rfl rfl) (Lg rfl rfl rfl g46 (q_loadN (vs := [_, _]) Un37 rfl ti37 rfl own0 rfl rfl) (Lg rfl rfl rfl g46 (q_build (.nil) (bd25Xw8)) (Lg rfl rfl rfl g46 (q_aggneq rfl rfl (eq37 _ _ _ _)) (Lg rfl rfl rfl g46 (q_move rfl) (WL_guard (t := 51) rfl (fun g51 => ?_) (fun g51 => ?_))))))
       ·refine Ln rfl rfl rfl g51 (Ln rfl rfl rfl g51 (Lg rfl rfl rfl g46 (q_pickT rfl g51 rfl) (Lq (q_pickT rfl g46 rfl) (Lq (q_assign rfl) (WL_nil (thenN (WC_fr [(2, _)] (.cons rfl (.nil _)) (WC_ret ?_))))))))
        refine ⟨_, [], [], fun Z w hs => .tmp rfl (.nil), ?_, fun Z w hs => hs.out (Sd (Sr)) (fun _ h => h)⟩
        try simp only [Bp, Bq] at *
        exact ⟨congrArg (Value.bool) (by unfold extraF; first | (simp_all; done) | (simp_all; repeat' split; all_goals omega) | (repeat' split; all_goals first | rfl | omega)), rfl, rfl⟩
       ·refine Lg rfl rfl rfl g51 (q_field (o' := 8) Un47 rfl ti4 rfl rfl) (Lg rfl rfl rfl g51 (q_load1 Un4 rfl rfl own0 rfl) (Lg rfl rfl rfl g46 (q_pickF rfl g51 rfl) (Lq (q_pickT rfl g46 rfl) (Lq (q_assign rfl) (WL_nil (thenN (WC_fr [(2, _)] (.cons rfl (.nil _)) (WC_ret ?_))))))))
        refine ⟨_, [], [], fun Z w hs => .tmp rfl (.nil), ?_, fun Z w hs => hs.out (Sd (Sr)) (fun _ h => h)⟩
        try simp only [Bp, Bq] at *
        exact ⟨congrArg (Value.bool) (by unfold extraF; first | (simp_all; done) | (simp_all; repeat' split; all_goals omega) | (repeat' split; all_goals first | rfl | omega)), rfl, rfl⟩
      ·refine Ln rfl rfl rfl g46 (Ln rfl rfl rfl g46 (Ln rfl rfl rfl g46 (Ln rfl rfl rfl g46 (Ln rfl rfl rfl g46 (WL_gun rfl rfl rfl (by decide) (WL_gun rfl rfl rfl (by decide) (Ln rfl rfl rfl g46 (Lq (q_pickF rfl g46 rfl) (Lq (q_assign rfl) ?_)))))))))
       refine WL_nil (thenN (WC_fr [(2, _)] (.cons rfl (.nil _)) (WC_ret ?_)))
       refine ⟨_, [], [], fun Z w hs => .tmp rfl (.nil), ?_, fun Z w hs => hs.out (Sd (Sr)) (fun _ h => h)⟩
       try simp only [Bp, Bq] at *
       exact ⟨congrArg (Value.bool) (by unfold extraF; first | (simp_all; done) | (simp_all; repeat' split; all_goals omega) | (repeat' split; all_goals first | rfl | omega)), rfl, rfl⟩
  ·refine Ln rfl rfl rfl g26 (Ln rfl rfl rfl g26 (Ln rfl rfl rfl g26 (Ln rfl rfl rfl g26 (WL_gun rfl rfl rfl (by decide) (WL_gun rfl rfl rfl (by decide) (WL_gun rfl rfl rfl (by decide) (Ln rfl rfl rfl g26 (Lq (q_pickF rfl g26 rfl) (WL_nil (thenN ?_))))))))))
   refine WC_fr [(35, _), (5, _), (4, _), (2, _), (1, _)] (.cons rfl (.cons rfl (.cons rfl (.cons rfl (.cons rfl (.nil _)))))) (WC_false rfl rfl (WC_skip (thenN (WC_seq (WC_seq (WC_region (Lq (q_move rfl) (Lq (q_not rfl) (Lq (q_move rfl) (WL_guard (t := 38) rfl (fun g38 => ?_) (fun g38 => ?_)))))))))))
   ·refine Lg rfl rfl rfl g38 (q_field (o' := 5) Un47 rfl ti45 rfl rfl) (Lg rfl rfl rfl g38 (q_load1 Un45 rfl rfl own0 rfl) (Lg rfl rfl rfl g38 (q_len Un45 rfl) (Lg rfl rfl rfl g38 (q_gtr rfl rfl) (Lq (q_pickT rfl g38 rfl) (WL_nil (thenN (WC_cond rfl (fun h43 => ?_) (fun h43 => ?_))))))))
    ·refine WC_seq (WC_region (Lq (q_assign rfl) (WL_nil (thenN (WC_ret (thenRet ?_))))))
     refine ⟨_, [], [], fun Z w hs => .tmp rfl (.nil), ?_, fun Z w hs => hs.out (Sd (Sr)) (fun _ h => h)⟩
     try simp only [Bp, Bq] at *
     exact ⟨congrArg (Value.bool) (by unfold extraF; first | (simp_all; done) | (simp_all; repeat' split; all_goals omega) | (repeat' split; all_goals first | rfl | omega)), rfl, rfl⟩
    ·refine WC_skip (thenN (WC_seq (WC_region (Lq (q_move rfl) (Lq (q_not rfl) (Lq (q_move rfl) (WL_guard (t := 46) rfl (fun g46 => ?_) (fun g46 => ?_))))))))
     ·refine Lg rfl rfl rfl g46 (q_field (o' := 6) Un47 rfl ti37 rfl rfl) (Lg rfl rfl rfl g46 (q_loadN (vs := [_, _]) Un37 rfl ti37 rfl own0 rfl rfl) (Lg rfl rfl rfl g46 (q_build (.nil) (bd25Xw8)) (Lg rfl rfl rfl g46 (q_aggneq rfl rfl (eq37 _ _ _ _)) (Lg rfl rfl rfl g46 (q_move rfl) (WL_guard (t := 51) rfl (fun g51 => ?_) (fun g51 => ?_))))))
      ·refine Ln rfl rfl rfl g51 (Ln rfl rfl rfl g51 (Lg rfl rfl rfl g46 (q_pickT rfl g51 rfl) (Lq (q_pickT rfl g46 rfl) (Lq (q_assign rfl) (WL_nil (thenN (WC_fr [(2, _)] (.cons rfl (.nil _)) (WC_ret ?_))))))))
       refine ⟨_, [], [], fun Z w hs => .tmp rfl (.nil), ?_, fun Z w hs => hs.out (Sd (Sr)) (fun _ h => h)⟩
       try simp only [Bp, Bq] at *
       exact ⟨congrArg (Value.bool) (by unfold extraF; first | (simp_all; done) | (simp_all; repeat' split; all_goals omega) | (repeat' split; all_goals first | rfl | omega)), rfl, rfl⟩
      ·refine Lg rfl rfl rfl g51 (q_field (o' := 8) Un47 rfl ti4 rfl rfl) (Lg rfl rfl rfl g51 (q_load1 Un4 rfl rfl own0 rfl) (Lg rfl rfl rfl g46 (q_pickF rfl g51 rfl) (Lq (q_pickT rfl g46 rfl) (Lq (q_assign rfl) (WL_nil (thenN (WC_fr [(2, _)] (.cons rfl (.nil _)) (WC_ret ?_))))))))
       refine ⟨_, [], [], fun Z w hs => .tmp rfl (.nil), ?_, fun Z w hs => hs.out (Sd (Sr)) (fun _ h => h)⟩
       try simp only [Bp, Bq] at *
       exact ⟨congrArg (Value.bool) (by unfold extraF; first | (simp_all; done) | (simp_all; repeat' split; all_goals omega) | (repeat' split; all_goals first | rfl | omega)), rfl, rfl⟩
     ·refine Ln rfl rfl rfl g46 (Ln rfl rfl rfl g46 (Ln rfl rfl rfl g46 (Ln rfl rfl rfl g46 (Ln rfl rfl rfl g46 (WL_gun rfl rfl rfl (by decide) (WL_gun rfl rfl rfl (by decide) (Ln rfl rfl rfl g46 (Lq (q_pickF rfl g46 rfl) (Lq (q_assign rfl) ?_)))))))))
      refine WL_nil (thenN (WC_fr [(2, _)] (.cons rfl (.nil _)) (WC_ret ?_)))
      refine ⟨_, [], [], fun Z w hs => .tmp rfl (.nil), ?_, fun Z w hs => hs.out (Sd (Sr)) (fun _ h => h)⟩
      try simp only [Bp, Bq] at *
      exact ⟨congrArg (Value.bool) (by unfold extraF; first | (simp_all; done) | (simp_all; repeat' split; all_goals omega) | (repeat' split; all_goals first | rfl | omega)), rfl, rfl⟩
   ·refine Ln rfl rfl rfl g38 (Ln rfl rfl rfl g38 (Ln rfl rfl rfl g38 (Ln rfl rfl rfl g38 (Lq (q_pickF rfl g38 rfl) (WL_nil (thenN (WC_false rfl rfl (WC_skip (thenN (WC_seq (WC_region (Lq (q_move rfl) (Lq (q_not rfl) (Lq (q_move rfl) (WL_guard (t := 46) rfl (fun g46 => ?_) (fun g46 => ?_))))))))))))))))
    ·refine Lg rfl rfl rfl g46 (q_field (o' := 6) Un47 rfl ti37 rfl rfl) (Lg rfl rfl rfl g46 (q_loadN (vs := [_, _]) Un37 rfl ti37 rfl own0 rfl rfl) (Lg rfl rfl rfl g46 (q_build (.nil) (bd25Xw8)) (Lg rfl rfl rfl g46 (q_aggneq rfl rfl (eq37 _ _ _ _)) (Lg rfl rfl rfl g46 (q_move rfl) (WL_guard (t := 51) rfl (fun g51 => ?_) (fun g51 => ?_))))))
     ·refine Ln rfl rfl rfl g51 (Ln rfl rfl rfl g51 (Lg rfl rfl rfl g46 (q_pickT rfl g51 rfl) (Lq (q_pickT rfl g46 rfl) (Lq (q_assign rfl) (WL_nil (thenN (WC_fr [(2, _)] (.cons rfl (.nil _)) (WC_ret ?_))))))))
      refine ⟨_, [], [], fun Z w hs => .tmp rfl (.nil), ?_, fun Z w hs => hs.out (Sd (Sr)) (fun _ h => h)⟩
      try simp only [Bp, Bq] at *
      exact ⟨congrArg (Value.bool) (by unfold extraF; first | (simp_all; done) | (simp_all; repeat' split; all_goals omega) | (repeat' split; all_goals first | rfl | omega)), rfl, rfl⟩
     ·refine Lg rfl rfl rfl g51 (q_field (o' := 8) Un47 rfl ti4 rfl rfl) (Lg rfl rfl rfl g51 (q_load1 Un4 rfl rfl own0 rfl) (Lg rfl rfl rfl g46 (q_pickF rfl g51 rfl) (Lq (q_pickT rfl g46 rfl) (Lq (q_assign rfl) (WL_nil (thenN (WC_fr [(2, _)] (.cons rfl (.nil _)) (WC_ret ?_))))))))
      refine ⟨_, [], [], fun Z w hs => .tmp rfl (.nil), ?_, fun Z w hs => hs.out (Sd (Sr)) (fun _ h => h)⟩
      try simp only [Bp, Bq] at *
      exact ⟨congrArg (Value.bool) (by unfold extraF; first | (simp_all; done) | (simp_all; repeat' split; all_goals omega) | (repeat' split; all_goals first | rfl | omega)), rfl, rfl⟩
    ·refine Ln rfl rfl rfl g46 (Ln rfl rfl rfl g46 (Ln rfl rfl rfl g46 (Ln rfl rfl rfl g46 (Ln rfl rfl rfl g46 (WL_gun rfl rfl rfl (by decide) (WL_gun rfl rfl rfl (by decide) (Ln rfl rfl rfl g46 (Lq (q_pickF rfl g46 rfl) (Lq (q_assign rfl) ?_)))))))))
     refine WL_nil (thenN (WC_fr [(2, _)] (.cons rfl (.nil _)) (WC_ret ?_)))
     refine ⟨_, [], [], fun Z w hs => .tmp rfl (.nil), ?_, fun Z w hs => hs.out (Sd (Sr)) (fun _ h => h)⟩
     try simp only [Bp, Bq] at *
     exact ⟨congrArg (Value.bool) (by unfold extraF; first | (simp_all; done) | (simp_all; repeat' split; all_goals omega) | (repeat' split; all_goals first | rfl | omega)), rfl, rfl⟩


set_option maxRecDepth 10000 in
theorem checkIns_s (o : GOp) (A : Option Addr) (c : Nat) (total : Int) (hs : o.text.size ≤ 4611686018427387904) (ht : 0 ≤ total ∧ total ≤ 1048576) : Sp Tryz.prog 44 [opV o A c, .int .i64 total] [] [barF] (Is (.int .i64 (insF o total))) := by
 refine Sp.of (n := 40) ⟨_, Tryz.func44, rfl, rfl, rfl, rfl⟩ (Nat.le_of_ble_eq_true rfl) fun Ps As => WC_seq (WC_region (WL_main rfl (OW_box (cs := [_, _, _, _, _, _, _, _, _]) rfl rfl (by decide) fun b2 => Lq (q_assign rfl) (WL_nil (thenN (WC_seq (WC_region (Lq (q_field (o' := 4) Un47 rfl ti9 rfl rfl) (Lq (q_load1 Un9 rfl rfl own0 rfl) (WL_main rfl (OW_call0 (utCheck_s o.text hs) (.cons rfl (.nil)) (by decide) (memc M0 mem0) fun u1_2 Lo fs hres => ?_)))))))))))
 obtain ⟨rfl, rfl, rfl⟩ := hres
 refine Lq (q_move rfl) (Lq (q_extract (vs := [_, _, _]) rfl rfl) (Lq (q_extract (vs := [_, _, _]) rfl rfl) (Lq (q_extract (vs := [_, _, _]) rfl rfl) (Lq (q_assign rfl) (Lq (q_assign rfl) (Lq (q_assign rfl) (WL_nil (thenN (WC_fr [(7, _), (5, _), (4, _), (2, _), (1, _)] (.cons rfl (.cons rfl (.cons rfl (.cons rfl (.cons rfl (.nil _)))))) (WC_seq (WC_block (WC_seq (WC_region ?_)))))))))))))
 refine Lq (q_move rfl) (Lq (q_neq rfl rfl) (Lq (q_assign rfl) (WL_nil (thenN (WC_cond rfl (fun h15 => ?_) (fun h15 => ?_))))))
 ·refine WC_seq (WC_region (Lq (q_move rfl) (Lq (q_assign rfl) (WL_nil (thenN (WC_ret (blockRet (thenRet ?_))))))))
  refine ⟨_, [], [], fun Z w hs => .tmp rfl (.nil), ?_, fun Z w hs => hs.out (Sd (Sr)) (fun _ h => h)⟩
  try simp only [Bp, Bq] at *
  exact ⟨congrArg (Value.int .i64) (by unfold insF; first | (simp_all; done) | (simp_all; repeat' split; all_goals omega) | (repeat' split; all_goals first | rfl | omega)), rfl, rfl⟩
 ·refine WC_seq (WC_region (Lq (q_move rfl) (Lq (q_eql rfl rfl) (Lq (q_assign rfl) (WL_nil (thenN (WC_cond rfl (fun h19 => ?_) (fun h19 => ?_))))))))
  ·refine WC_seq (WC_region (Lq (q_assign rfl) (WL_nil (thenN (WC_ret (blockRet (thenRet ?_)))))))
   refine ⟨_, [], [], fun Z w hs => .tmp rfl (.nil), ?_, fun Z w hs => hs.out (Sd (Sr)) (fun _ h => h)⟩
   try simp only [Bp, Bq] at *
   exact ⟨congrArg (Value.int .i64) (by unfold insF; first | (simp_all; done) | (simp_all; repeat' split; all_goals omega) | (repeat' split; all_goals first | rfl | omega)), rfl, rfl⟩
  ·refine WC_seq (WC_region (Lq (q_move rfl) (Lq (q_gtr rfl rfl) (Lq (q_assign rfl) (WL_nil (thenN (WC_fr [(22, _), (5, _), (4, _), (2, _), (1, _)] (.cons rfl (.cons rfl (.cons rfl (.cons rfl (.cons rfl (.nil _)))))) (WC_cond rfl (fun h22 => ?_) (fun h22 => ?_)))))))))
   ·refine WC_seq (WC_region (Lq (q_assign rfl) (WL_nil (thenN (WC_ret (blockRet (thenRet ?_)))))))
    refine ⟨_, [], [], fun Z w hs => .tmp rfl (.nil), ?_, fun Z w hs => hs.out (Sd (Sr)) (fun _ h => h)⟩
    try simp only [Bp, Bq] at *
    exact ⟨congrArg (Value.int .i64) (by unfold insF; first | (simp_all; done) | (simp_all; repeat' split; all_goals omega) | (repeat' split; all_goals first | rfl | omega)), rfl, rfl⟩
   ·refine WC_seq (WC_region (Lq (q_field (o' := 3) Un47 rfl ti3 rfl rfl) (Lq (q_load1 Un3 rfl rfl own0 rfl) (Lq (q_lss rfl rfl) (Lq (q_move rfl) (WL_guard (t := 29) rfl (fun g29 => ?_) (fun g29 => ?_)))))))
    ·refine Ln rfl rfl rfl g29 (Ln rfl rfl rfl g29 (Ln rfl rfl rfl g29 (Ln rfl rfl rfl g29 (Lq (q_pickT rfl g29 rfl) (Lq (q_assign rfl) (WL_nil (thenN (WC_fr [(25, _), (5, _), (4, _), (1, _)] (.cons rfl (.cons rfl (.cons rfl (.cons rfl (.nil _))))) (WC_true rfl rfl (WC_seq (WC_region (Lq (q_assign rfl) ?_))))))))))))
     refine WL_nil (thenN (WC_ret (blockRet (thenRet ?_))))
     refine ⟨_, [], [], fun Z w hs => .tmp rfl (.nil), ?_, fun Z w hs => hs.out (Sd (Sr)) (fun _ h => h)⟩
     try simp only [Bp, Bq] at *
     exact ⟨congrArg (Value.int .i64) (by unfold insF; first | (simp_all; done) | (simp_all; repeat' split; all_goals omega) | (repeat' split; all_goals first | rfl | omega)), rfl, rfl⟩
    ·refine Lg rfl rfl rfl g29 (q_field (o' := 3) Un47 rfl ti3 rfl rfl) (Lg rfl rfl rfl g29 (q_load1 Un3 rfl rfl own0 rfl) (Lg rfl rfl rfl g29 (q_move rfl) (Lg rfl rfl rfl g29 (q_gtr rfl rfl) (Lq (q_pickF rfl g29 rfl) (Lq (q_assign rfl) (WL_nil (thenN (WC_fr [(25, _), (5, _), (4, _), (1, _)] (.cons rfl (.cons rfl (.cons rfl (.cons rfl (.nil _))))) (WC_cond rfl (fun h25 => ?_) (fun h25 => ?_))))))))))
     ·refine WC_seq (WC_region (Lq (q_assign rfl) (WL_nil (thenN (WC_ret (blockRet (thenRet ?_)))))))
      refine ⟨_, [], [], fun Z w hs => .tmp rfl (.nil), ?_, fun Z w hs => hs.out (Sd (Sr)) (fun _ h => h)⟩
      try simp only [Bp, Bq] at *
      exact ⟨congrArg (Value.int .i64) (by unfold insF; first | (simp_all; done) | (simp_all; repeat' split; all_goals omega) | (repeat' split; all_goals first | rfl | omega)), rfl, rfl⟩
     ·refine WC_seq ?_
      have hu := utF_n o.text
      try simp only [Bp, Bq] at *
      refine WC_region (Lq (q_move rfl) (Lq (q_move rfl) (Lq (q_add rfl rfl (wr64 (by omega))) (Lq (q_gtr rfl rfl) (Lq (q_assign rfl) (WL_nil (thenN (WC_cond rfl (fun h35 => ?_) (fun h35 => ?_)))))))))
      ·refine WC_seq (WC_region (Lq (q_assign rfl) (WL_nil (thenN (WC_ret (blockRet (thenRet ?_)))))))
       refine ⟨_, [], [], fun Z w hs => .tmp rfl (.nil), ?_, fun Z w hs => hs.out (Sd (Sr)) (fun _ h => h)⟩
       try simp only [Bp, Bq] at *
       exact ⟨congrArg (Value.int .i64) (by unfold insF; first | (simp_all; done) | (simp_all; repeat' split; all_goals omega) | (repeat' split; all_goals first | rfl | omega)), rfl, rfl⟩
      ·refine WC_skip (blockN (thenN (WC_seq (WC_region (Lq (q_assign rfl) (WL_nil (thenN (WC_ret ?_))))))))
       refine ⟨_, [], [], fun Z w hs => .tmp rfl (.nil), ?_, fun Z w hs => hs.out (Sd (Sr)) (fun _ h => h)⟩
       try simp only [Bp, Bq] at *
       exact ⟨congrArg (Value.int .i64) (by unfold insF; first | (simp_all; done) | (simp_all; repeat' split; all_goals omega) | (repeat' split; all_goals first | rfl | omega)), rfl, rfl⟩


set_option maxRecDepth 10000 in
theorem checkRanges_s (A : Option Addr) (c : Nat) (xs : List Rg) (total : Int) (hl : xs.length ≤ 4398046511104) : Sp Tryz.prog 45 [.slice A xs.length c, .int .i64 total] [] [RdF rgD A c xs] (Is (.int .i64 (rangesF xs total))) := by
 refine Sp.of (n := 27) ⟨_, Tryz.func45, rfl, rfl, rfl, rfl⟩ (Nat.le_of_ble_eq_true rfl) fun Ps As => WC_seq (WC_region (Lq (q_assign rfl) (WL_nil (thenN (WC_seq (WC_seq (WC_region (Lq (q_move rfl) (Lq (q_len Un45 rfl) (Lq (q_eql rfl rfl) (WL_nil (thenN (WC_cond rfl (fun h9 => ?_) (fun h9 => ?_))))))))))))))
 ·refine WC_seq (WC_region (Lq (q_assign rfl) (WL_nil (thenN (WC_ret (thenRet ?_))))))
  refine ⟨_, [], [], fun Z w hs => .tmp rfl (.nil), ?_, fun Z w hs => hs.out (Sr) (fun _ h => h)⟩
  try simp only [Bp, Bq] at *
  first
   | exact ⟨by rw [rangesF_nil (by omega)]; rfl, rfl, rfl⟩
   | exact ⟨by rw [rangesF_at hk0 (by omega), if_pos (by omega)]; rfl, rfl, rfl⟩
   | exact ⟨by rw [rangesF_at hk0 (by omega), if_neg (by omega)]; rfl, rfl, rfl⟩
   | exact ⟨by rw [rangesF_ck (by omega) (by omega)]; rfl, rfl, rfl⟩
 ·refine WC_skip (thenN (WC_seq (WC_seq (WC_region (Lq (q_move rfl) (WL_main rfl (OW_call0 (check_s A c xs hl) (.cons rfl (.nil)) (by decide) (memc M0 mem0) fun u3_1 Lo fs hres => ?_)))))))
  obtain ⟨rfl, rfl, rfl⟩ := hres
  refine Lq (q_move rfl) (Lq (q_extract (vs := [_, _]) rfl rfl) (Lq (q_extract (vs := [_, _]) rfl rfl) (Lq (q_assign rfl) (Lq (q_assign rfl) (WL_nil (thenN (WC_seq (WC_region (Lq (q_move rfl) (Lq (q_neq rfl rfl) (WL_nil (thenN (WC_fr [(16, _), (6, _), (4, _), (0, _), (1, _)] (.cons rfl (.cons rfl (.cons rfl (.cons rfl (.cons rfl (.nil _)))))) ?_)))))))))))))
  refine WC_cond rfl (fun h16 => ?_) (fun h16 => ?_)
  ·refine WC_seq (WC_region (Lq (q_move rfl) (Lq (q_assign rfl) (WL_nil (thenN (WC_ret (thenRet ?_)))))))
   refine ⟨_, [], [], fun Z w hs => .tmp rfl (.nil), ?_, fun Z w hs => hs.out (Sr) (fun _ h => h)⟩
   try simp only [Bp, Bq] at *
   first
    | exact ⟨by rw [rangesF_nil (by omega)]; rfl, rfl, rfl⟩
    | exact ⟨by rw [rangesF_at hk0 (by omega), if_pos (by omega)]; rfl, rfl, rfl⟩
    | exact ⟨by rw [rangesF_at hk0 (by omega), if_neg (by omega)]; rfl, rfl, rfl⟩
    | exact ⟨by rw [rangesF_ck (by omega) (by omega)]; rfl, rfl, rfl⟩
  ·refine WC_skip (thenN (WC_seq (WC_seq ?_)))
   try simp only [Bp, Bq] at *
   have hk0 : xs.length - 1 < xs.length := by omega
   refine WC_elem (k := (xs.length - 1)) M0 (List.getElem?_eq_getElem hk0) (rg_open _) fun b6 q6 y6 e6 => ?_
   cases e6
   refine WC_region (Lq (q_move rfl) (Lq (q_move rfl) (Lq (q_len Un45 rfl) (Lq (q_sub rfl rfl (by rw [wr64 (by omega)]; omega) (c := ((xs.length - 1 : Nat) : Int))) (Lq (q_idxRd Un45 ti119 rfl rfl (by omega) (by omega)) (Lq (q_field (o' := _ + 1) Un119 rfl ti3 rfl rfl) (Lq (q_loadF1 (j := 1) Un3 rfl rfl M0 rfl rfl) (Lq (q_move rfl) (Lq (q_gtr rfl rfl) ?_)))))))))
   refine WL_nil (thenN (WC_fr [(26, _), (4, _)] (.cons rfl (.cons rfl (.nil _))) (WC_cond rfl (fun h26 => ?_) (fun h26 => ?_))))
   ·refine WC_seq (WC_region (Lq (q_assign rfl) (WL_nil (thenN (WC_ret (thenRet ?_))))))
    refine ⟨_, [], [], fun Z w hs => .tmp rfl (.nil), ?_, fun Z w hs => hs.out (Sr) T1⟩
    try simp only [Bp, Bq] at *
    first
     | exact ⟨by rw [rangesF_nil (by omega)]; rfl, rfl, rfl⟩
     | exact ⟨by rw [rangesF_at hk0 (by omega), if_pos (by omega)]; rfl, rfl, rfl⟩
     | exact ⟨by rw [rangesF_at hk0 (by omega), if_neg (by omega)]; rfl, rfl, rfl⟩
     | exact ⟨by rw [rangesF_ck (by omega) (by omega)]; rfl, rfl, rfl⟩
   ·refine WC_skip (thenN (WC_seq (WC_region (Lq (q_assign rfl) (WL_nil (thenN (WC_ret ?_)))))))
    refine ⟨_, [], [], fun Z w hs => .tmp rfl (.nil), ?_, fun Z w hs => hs.out (Sr) T1⟩
    try simp only [Bp, Bq] at *
    first
     | exact ⟨by rw [rangesF_nil (by omega)]; rfl, rfl, rfl⟩
     | exact ⟨by rw [rangesF_at hk0 (by omega), if_pos (by omega)]; rfl, rfl, rfl⟩
     | exact ⟨by rw [rangesF_at hk0 (by omega), if_neg (by omega)]; rfl, rfl, rfl⟩
     | exact ⟨by rw [rangesF_ck (by omega) (by omega)]; rfl, rfl, rfl⟩


set_option maxRecDepth 10000 in
theorem opCheck_s (o : GOp) (A : Option Addr) (c : Nat) (total : Int) (hs : o.text.size ≤ 4611686018427387904) (hl : o.rs.length ≤ 4398046511104) : Sp Tryz.prog 21 [opV o A c, .int .i64 total] [] [barF, RdF rgD A c o.rs] (Is (.int .i64 (checkF o total))) := by
 refine Sp.of (n := 65) ⟨_, Tryz.func21, rfl, rfl, rfl, rfl⟩ (Nat.le_of_ble_eq_true rfl) fun Ps As => WC_seq (WC_region (WL_main rfl (OW_box (cs := [_, _, _, _, _, _, _, _, _]) rfl rfl (by decide) fun b2 => Lq (q_assign rfl) (WL_nil (thenN (WC_seq (WC_block (WC_seq (WC_region (Lq (q_move rfl) (Lq (q_lss rfl rfl) (Lq (q_move rfl) (WL_guard (t := 8) rfl (fun g8 => ?_) (fun g8 => ?_))))))))))))))
 ·refine Ln rfl rfl rfl g8 (Ln rfl rfl rfl g8 (Lq (q_pickT rfl g8 rfl) (Lq (q_assign rfl) (WL_nil (thenN (WC_true rfl rfl (WC_seq (WC_region (Lq (q_assign rfl) (WL_nil (thenN (WC_ret (blockRet (thenRet ?_))))))))))))))
  refine ⟨_, [], [], fun Z w hs => .tmp rfl (.nil), ?_, fun Z w hs => hs.out (Sd (Sr)) (fun _ h => h)⟩
  try simp only [Bp, Bq] at *
  exact ⟨congrArg (Value.int .i64) (by unfold checkF rightF; simp_all <;> omega), rfl, rfl⟩
 ·refine Lg rfl rfl rfl g8 (q_move rfl) (Lg rfl rfl rfl g8 (q_gtr rfl rfl) (Lq (q_pickF rfl g8 rfl) (Lq (q_assign rfl) (WL_nil (thenN (WC_cond rfl (fun h5 => ?_) (fun h5 => ?_)))))))
  ·refine WC_seq (WC_region (Lq (q_assign rfl) (WL_nil (thenN (WC_ret (blockRet (thenRet ?_)))))))
   refine ⟨_, [], [], fun Z w hs => .tmp rfl (.nil), ?_, fun Z w hs => hs.out (Sd (Sr)) (fun _ h => h)⟩
   try simp only [Bp, Bq] at *
   exact ⟨congrArg (Value.int .i64) (by unfold checkF rightF; simp_all <;> omega), rfl, rfl⟩
  ·refine WC_seq (WC_region (Lq (q_field (o' := 0) Un47 rfl ti44 rfl rfl) (Lq (q_field (o' := 2) Un44 rfl ti42 rfl rfl) (Lq (q_load1 Un42 rfl rfl own0 rfl) (Lq (q_lss rfl rfl) (Lq (q_move rfl) (WL_guard (t := 17) rfl (fun g17 => ?_) (fun g17 => ?_))))))))
   ·refine Ln rfl rfl rfl g17 (Ln rfl rfl rfl g17 (Ln rfl rfl rfl g17 (Ln rfl rfl rfl g17 (Lq (q_pickT rfl g17 rfl) (Lq (q_assign rfl) (WL_nil (thenN (WC_fr [(12, _), (4, _), (2, _), (1, _)] (.cons rfl (.cons rfl (.cons rfl (.cons rfl (.nil _))))) (WC_true rfl rfl (WC_seq (WC_region (Lq (q_assign rfl) ?_))))))))))))
    refine WL_nil (thenN (WC_ret (blockRet (thenRet ?_))))
    refine ⟨_, [], [], fun Z w hs => .tmp rfl (.nil), ?_, fun Z w hs => hs.out (Sd (Sr)) (fun _ h => h)⟩
    try simp only [Bp, Bq] at *
    exact ⟨congrArg (Value.int .i64) (by unfold checkF rightF; simp_all <;> omega), rfl, rfl⟩
   ·refine Lg rfl rfl rfl g17 (q_field (o' := 0) Un47 rfl ti44 rfl rfl) (Lg rfl rfl rfl g17 (q_field (o' := 2) Un44 rfl ti42 rfl rfl) (Lg rfl rfl rfl g17 (q_load1 Un42 rfl rfl own0 rfl) (Lg rfl rfl rfl g17 (q_gtr rfl rfl) (Lq (q_pickF rfl g17 rfl) (Lq (q_assign rfl) (WL_nil (thenN (WC_fr [(12, _), (4, _), (2, _), (1, _)] (.cons rfl (.cons rfl (.cons rfl (.cons rfl (.nil _))))) (WC_cond rfl (fun h12 => ?_) (fun h12 => ?_))))))))))
    ·refine WC_seq (WC_region (Lq (q_assign rfl) (WL_nil (thenN (WC_ret (blockRet (thenRet ?_)))))))
     refine ⟨_, [], [], fun Z w hs => .tmp rfl (.nil), ?_, fun Z w hs => hs.out (Sd (Sr)) (fun _ h => h)⟩
     try simp only [Bp, Bq] at *
     exact ⟨congrArg (Value.int .i64) (by unfold checkF rightF; simp_all <;> omega), rfl, rfl⟩
    ·refine WC_seq (WC_region (Lq (q_field (o' := 0) Un47 rfl ti44 rfl rfl) (Lq (q_field (o' := 0) Un44 rfl ti37 rfl rfl) (Lq (q_loadN (vs := [_, _]) Un37 rfl ti37 rfl own0 rfl rfl) (Lq (q_build (.nil) (bd25Xw8)) (Lq (q_aggneq rfl rfl (eq37 _ _ _ _)) (Lq (q_move rfl) (WL_guard (t := 29) rfl (fun g29 => ?_) (fun g29 => ?_)))))))))
     ·refine Lg rfl rfl rfl g29 (q_field (o' := 0) Un47 rfl ti44 rfl rfl) (Lg rfl rfl rfl g29 (q_field (o' := 0) Un44 rfl ti37 rfl rfl) (Lg rfl rfl rfl g29 (q_loadN (vs := [_, _]) Un37 rfl ti37 rfl own0 rfl rfl) (WL_gmain rfl rfl rfl g29 (OW_call0 (right_s o.c o.n) (.cons rfl (.nil)) (by decide) mem0 fun u5_9 Lo fs hres => ?_))))
      obtain ⟨rfl, rfl, rfl⟩ := hres
      refine Lg rfl rfl rfl g29 (q_not rfl) (Lq (q_pickT rfl g29 rfl) (Lq (q_assign rfl) (WL_nil (thenN (WC_fr [(23, _), (4, _), (2, _), (1, _)] (.cons rfl (.cons rfl (.cons rfl (.cons rfl (.nil _))))) (WC_cond rfl (fun h23 => ?_) (fun h23 => ?_)))))))
      ·refine WC_seq (WC_region (Lq (q_assign rfl) (WL_nil (thenN (WC_ret (blockRet (thenRet ?_)))))))
       refine ⟨_, [], [], fun Z w hs => .tmp rfl (.nil), ?_, fun Z w hs => hs.out (Sd (Sr)) (fun _ h => h)⟩
       try simp only [Bp, Bq] at *
       exact ⟨congrArg (Value.int .i64) (by unfold checkF rightF; simp_all <;> omega), rfl, rfl⟩
      ·refine WC_seq (WC_region (Lq (q_loadN (vs := [_, _, _, _, _, _, _, _, _]) Un47 rfl ti47 rfl own0 rfl rfl) (WL_main rfl (OW_call0 (extra_s o A c) (.cons rfl (.nil)) (by decide) mem0 fun u7_1 Lo fs hres => ?_))))
       obtain ⟨rfl, rfl, rfl⟩ := hres
       refine Lq (q_assign rfl) (WL_nil (thenN (WC_cond rfl (fun h36 => ?_) (fun h36 => ?_))))
       ·refine WC_seq (WC_region (Lq (q_assign rfl) (WL_nil (thenN (WC_ret (blockRet (thenRet ?_)))))))
        refine ⟨_, [], [], fun Z w hs => .tmp rfl (.nil), ?_, fun Z w hs => hs.out (Sd (Sr)) (fun _ h => h)⟩
        try simp only [Bp, Bq] at *
        exact ⟨congrArg (Value.int .i64) (by unfold checkF rightF; simp_all <;> omega), rfl, rfl⟩
       ·refine WC_skip (blockN (thenN (WC_seq (WC_seq (WC_region (Lq (q_field (o' := 0) Un47 rfl ti44 rfl rfl) (Lq (q_field (o' := 2) Un44 rfl ti42 rfl rfl) (Lq (q_load1 Un42 rfl rfl own0 rfl) (WL_nil (thenN (WC_block (WC_seq (WC_region (Lq (q_eql rfl rfl) (Lq (q_assign rfl) (WL_nil (thenN (WC_cond rfl (fun h42 => ?_) (fun h42 => ?_)))))))))))))))))))
        ·refine WC_seq (WC_region (Lq (q_loadN (vs := [_, _, _, _, _, _, _, _, _]) Un47 rfl ti47 rfl own0 rfl rfl) (Lq (q_move rfl) ?_)))
         try simp only [Bp, Bq] at *
         refine WL_main rfl (OW_call0 (checkIns_s o A c total hs ⟨by omega, by omega⟩) (.cons rfl (.cons rfl (.nil))) (by decide) (memc M0 mem0) fun u11_2 Lo fs hres => ?_)
         obtain ⟨rfl, rfl, rfl⟩ := hres
         refine Lq (q_assign rfl) (WL_nil (thenN (WC_fr [(4, _), (2, _), (1, _)] (.cons rfl (.cons rfl (.cons rfl (.nil _)))) (WC_ret (blockRet (thenRet ?_))))))
         refine ⟨_, [], [], fun Z w hs => .tmp rfl (.nil), ?_, fun Z w hs => hs.out (Sd (Sr)) (fun _ h => h)⟩
         try simp only [Bp, Bq] at *
         exact ⟨congrArg (Value.int .i64) (by unfold checkF rightF; simp_all <;> omega), rfl, rfl⟩
        ·refine WC_seq (WC_region (Lq (q_eql rfl rfl) (Lq (q_assign rfl) (WL_nil (thenN (WC_fr [(47, _), (4, _), (2, _), (1, _)] (.cons rfl (.cons rfl (.cons rfl (.cons rfl (.nil _))))) (WC_cond rfl (fun h47 => ?_) (fun h47 => ?_))))))))
         ·refine WC_seq (WC_seq (WC_region (Lq (q_field (o' := 6) Un47 rfl ti37 rfl rfl) (Lq (q_loadN (vs := [_, _]) Un37 rfl ti37 rfl own0 rfl rfl) (WL_main rfl (OW_call0 (right_s o.tc o.tn) (.cons rfl (.nil)) (by decide) mem0 fun u13_2 Lo fs hres => ?_))))))
          obtain ⟨rfl, rfl, rfl⟩ := hres
          refine Lq (q_not rfl) (Lq (q_move rfl) (WL_guard (t := 53) rfl (fun g53 => ?_) (fun g53 => ?_)))
          ·refine Ln rfl rfl rfl g53 (Ln rfl rfl rfl g53 (Ln rfl rfl rfl g53 (Ln rfl rfl rfl g53 (Ln rfl rfl rfl g53 (Ln rfl rfl rfl g53 (Lq (q_pickT rfl g53 rfl) (WL_nil (thenN (WC_fr [(60, _), (4, _), (2, _), (1, _)] (.cons rfl (.cons rfl (.cons rfl (.cons rfl (.nil _))))) (WC_true rfl rfl (WC_seq (WC_region ?_))))))))))))
           refine Lq (q_assign rfl) (WL_nil (thenN (WC_ret (thenRet (blockRet (thenRet ?_))))))
           refine ⟨_, [], [], fun Z w hs => .tmp rfl (.nil), ?_, fun Z w hs => hs.out (Sd (Sr)) (fun _ h => h)⟩
           try simp only [Bp, Bq] at *
           exact ⟨congrArg (Value.int .i64) (by unfold checkF rightF; simp_all <;> omega), rfl, rfl⟩
          ·refine Lg rfl rfl rfl g53 (q_field (o' := 6) Un47 rfl ti37 rfl rfl) (Lg rfl rfl rfl g53 (q_loadN (vs := [_, _]) Un37 rfl ti37 rfl own0 rfl rfl) (Lg rfl rfl rfl g53 (q_field (o' := 0) Un47 rfl ti44 rfl rfl) (Lg rfl rfl rfl g53 (q_field (o' := 0) Un44 rfl ti37 rfl rfl) (Lg rfl rfl rfl g53 (q_loadN (vs := [_, _]) Un37 rfl ti37 rfl own0 rfl rfl) (Lg rfl rfl rfl g53 (q_aggeql rfl rfl (eq37 _ _ _ _)) (Lq (q_pickF rfl g53 rfl) (WL_nil (thenN (WC_fr [(60, _), (4, _), (2, _), (1, _)] (.cons rfl (.cons rfl (.cons rfl (.cons rfl (.nil _))))) (WC_cond rfl (fun h60 => ?_) (fun h60 => ?_)))))))))))
           ·refine WC_seq (WC_region (Lq (q_assign rfl) (WL_nil (thenN (WC_ret (thenRet (blockRet (thenRet ?_))))))))
            refine ⟨_, [], [], fun Z w hs => .tmp rfl (.nil), ?_, fun Z w hs => hs.out (Sd (Sr)) (fun _ h => h)⟩
            try simp only [Bp, Bq] at *
            exact ⟨congrArg (Value.int .i64) (by unfold checkF rightF; simp_all <;> omega), rfl, rfl⟩
           ·refine WC_skip (thenN (WC_seq (WC_region (Lq (q_assign rfl) (WL_nil (thenN (WC_ret (blockRet (thenRet ?_)))))))))
            refine ⟨_, [], [], fun Z w hs => .tmp rfl (.nil), ?_, fun Z w hs => hs.out (Sd (Sr)) (fun _ h => h)⟩
            try simp only [Bp, Bq] at *
            exact ⟨congrArg (Value.int .i64) (by unfold checkF rightF; simp_all <;> omega), rfl, rfl⟩
         ·refine WC_skip (blockN (thenN (WC_seq (WC_region (Lq (q_field (o' := 5) Un47 rfl ti45 rfl rfl) (Lq (q_load1 Un45 rfl rfl own0 rfl) (Lq (q_move rfl) (WL_main rfl (OW_call0 (checkRanges_s A c o.rs total hl) (.cons rfl (.cons rfl (.nil))) (by decide) (memc M1 mem0) fun u16_3 Lo fs hres => ?_)))))))))
          obtain ⟨rfl, rfl, rfl⟩ := hres
          refine Lq (q_assign rfl) (WL_nil (thenN (WC_ret ?_)))
          refine ⟨_, [], [], fun Z w hs => .tmp rfl (.nil), ?_, fun Z w hs => hs.out (Sd (Sr)) (fun _ h => h)⟩
          try simp only [Bp, Bq] at *
          exact ⟨congrArg (Value.int .i64) (by unfold checkF rightF; simp_all <;> omega), rfl, rfl⟩
     ·refine Ln rfl rfl rfl g29 (Ln rfl rfl rfl g29 (Ln rfl rfl rfl g29 (Ln rfl rfl rfl g29 (Ln rfl rfl rfl g29 (Lq (q_pickF rfl g29 rfl) (Lq (q_assign rfl) (WL_nil (thenN (WC_fr [(23, _), (4, _), (2, _), (1, _)] (.cons rfl (.cons rfl (.cons rfl (.cons rfl (.nil _))))) (WC_false rfl rfl (WC_seq (WC_region ?_))))))))))))
      refine Lq (q_loadN (vs := [_, _, _, _, _, _, _, _, _]) Un47 rfl ti47 rfl own0 rfl rfl) (WL_main rfl (OW_call0 (extra_s o A c) (.cons rfl (.nil)) (by decide) mem0 fun u7_1 Lo fs hres => ?_))
      obtain ⟨rfl, rfl, rfl⟩ := hres
      refine Lq (q_assign rfl) (WL_nil (thenN (WC_cond rfl (fun h36 => ?_) (fun h36 => ?_))))
      ·refine WC_seq (WC_region (Lq (q_assign rfl) (WL_nil (thenN (WC_ret (blockRet (thenRet ?_)))))))
       refine ⟨_, [], [], fun Z w hs => .tmp rfl (.nil), ?_, fun Z w hs => hs.out (Sd (Sr)) (fun _ h => h)⟩
       try simp only [Bp, Bq] at *
       exact ⟨congrArg (Value.int .i64) (by unfold checkF rightF; simp_all <;> omega), rfl, rfl⟩
      ·refine WC_skip (blockN (thenN (WC_seq (WC_seq (WC_region (Lq (q_field (o' := 0) Un47 rfl ti44 rfl rfl) (Lq (q_field (o' := 2) Un44 rfl ti42 rfl rfl) (Lq (q_load1 Un42 rfl rfl own0 rfl) (WL_nil (thenN (WC_block (WC_seq (WC_region (Lq (q_eql rfl rfl) (Lq (q_assign rfl) (WL_nil (thenN (WC_cond rfl (fun h42 => ?_) (fun h42 => ?_)))))))))))))))))))
       ·refine WC_seq (WC_region (Lq (q_loadN (vs := [_, _, _, _, _, _, _, _, _]) Un47 rfl ti47 rfl own0 rfl rfl) (Lq (q_move rfl) ?_)))
        try simp only [Bp, Bq] at *
        refine WL_main rfl (OW_call0 (checkIns_s o A c total hs ⟨by omega, by omega⟩) (.cons rfl (.cons rfl (.nil))) (by decide) (memc M0 mem0) fun u11_2 Lo fs hres => ?_)
        obtain ⟨rfl, rfl, rfl⟩ := hres
        refine Lq (q_assign rfl) (WL_nil (thenN (WC_fr [(4, _), (2, _), (1, _)] (.cons rfl (.cons rfl (.cons rfl (.nil _)))) (WC_ret (blockRet (thenRet ?_))))))
        refine ⟨_, [], [], fun Z w hs => .tmp rfl (.nil), ?_, fun Z w hs => hs.out (Sd (Sr)) (fun _ h => h)⟩
        try simp only [Bp, Bq] at *
        exact ⟨congrArg (Value.int .i64) (by unfold checkF rightF; simp_all <;> omega), rfl, rfl⟩
       ·refine WC_seq (WC_region (Lq (q_eql rfl rfl) (Lq (q_assign rfl) (WL_nil (thenN (WC_fr [(47, _), (4, _), (2, _), (1, _)] (.cons rfl (.cons rfl (.cons rfl (.cons rfl (.nil _))))) (WC_cond rfl (fun h47 => ?_) (fun h47 => ?_))))))))
        ·refine WC_seq (WC_seq (WC_region (Lq (q_field (o' := 6) Un47 rfl ti37 rfl rfl) (Lq (q_loadN (vs := [_, _]) Un37 rfl ti37 rfl own0 rfl rfl) (WL_main rfl (OW_call0 (right_s o.tc o.tn) (.cons rfl (.nil)) (by decide) mem0 fun u13_2 Lo fs hres => ?_))))))
         obtain ⟨rfl, rfl, rfl⟩ := hres
         refine Lq (q_not rfl) (Lq (q_move rfl) (WL_guard (t := 53) rfl (fun g53 => ?_) (fun g53 => ?_)))
         ·refine Ln rfl rfl rfl g53 (Ln rfl rfl rfl g53 (Ln rfl rfl rfl g53 (Ln rfl rfl rfl g53 (Ln rfl rfl rfl g53 (Ln rfl rfl rfl g53 (Lq (q_pickT rfl g53 rfl) (WL_nil (thenN (WC_fr [(60, _), (4, _), (2, _), (1, _)] (.cons rfl (.cons rfl (.cons rfl (.cons rfl (.nil _))))) (WC_true rfl rfl (WC_seq (WC_region ?_))))))))))))
          refine Lq (q_assign rfl) (WL_nil (thenN (WC_ret (thenRet (blockRet (thenRet ?_))))))
          refine ⟨_, [], [], fun Z w hs => .tmp rfl (.nil), ?_, fun Z w hs => hs.out (Sd (Sr)) (fun _ h => h)⟩
          try simp only [Bp, Bq] at *
          exact ⟨congrArg (Value.int .i64) (by unfold checkF rightF; simp_all <;> omega), rfl, rfl⟩
         ·refine Lg rfl rfl rfl g53 (q_field (o' := 6) Un47 rfl ti37 rfl rfl) (Lg rfl rfl rfl g53 (q_loadN (vs := [_, _]) Un37 rfl ti37 rfl own0 rfl rfl) (Lg rfl rfl rfl g53 (q_field (o' := 0) Un47 rfl ti44 rfl rfl) (Lg rfl rfl rfl g53 (q_field (o' := 0) Un44 rfl ti37 rfl rfl) (Lg rfl rfl rfl g53 (q_loadN (vs := [_, _]) Un37 rfl ti37 rfl own0 rfl rfl) (Lg rfl rfl rfl g53 (q_aggeql rfl rfl (eq37 _ _ _ _)) (Lq (q_pickF rfl g53 rfl) (WL_nil (thenN (WC_fr [(60, _), (4, _), (2, _), (1, _)] (.cons rfl (.cons rfl (.cons rfl (.cons rfl (.nil _))))) (WC_cond rfl (fun h60 => ?_) (fun h60 => ?_)))))))))))
          ·refine WC_seq (WC_region (Lq (q_assign rfl) (WL_nil (thenN (WC_ret (thenRet (blockRet (thenRet ?_))))))))
           refine ⟨_, [], [], fun Z w hs => .tmp rfl (.nil), ?_, fun Z w hs => hs.out (Sd (Sr)) (fun _ h => h)⟩
           try simp only [Bp, Bq] at *
           exact ⟨congrArg (Value.int .i64) (by unfold checkF rightF; simp_all <;> omega), rfl, rfl⟩
          ·refine WC_skip (thenN (WC_seq (WC_region (Lq (q_assign rfl) (WL_nil (thenN (WC_ret (blockRet (thenRet ?_)))))))))
           refine ⟨_, [], [], fun Z w hs => .tmp rfl (.nil), ?_, fun Z w hs => hs.out (Sd (Sr)) (fun _ h => h)⟩
           try simp only [Bp, Bq] at *
           exact ⟨congrArg (Value.int .i64) (by unfold checkF rightF; simp_all <;> omega), rfl, rfl⟩
        ·refine WC_skip (blockN (thenN (WC_seq (WC_region (Lq (q_field (o' := 5) Un47 rfl ti45 rfl rfl) (Lq (q_load1 Un45 rfl rfl own0 rfl) (Lq (q_move rfl) (WL_main rfl (OW_call0 (checkRanges_s A c o.rs total hl) (.cons rfl (.cons rfl (.nil))) (by decide) (memc M1 mem0) fun u16_3 Lo fs hres => ?_)))))))))
         obtain ⟨rfl, rfl, rfl⟩ := hres
         refine Lq (q_assign rfl) (WL_nil (thenN (WC_ret ?_)))
         refine ⟨_, [], [], fun Z w hs => .tmp rfl (.nil), ?_, fun Z w hs => hs.out (Sd (Sr)) (fun _ h => h)⟩
         try simp only [Bp, Bq] at *
         exact ⟨congrArg (Value.int .i64) (by unfold checkF rightF; simp_all <;> omega), rfl, rfl⟩

end Go.Proofs.YtcjbjkbghgjmdaaGreatDoor
/- Walks: op.Apply. -/
namespace Go.Proofs.YtcjbjkbghgjmdaaGreatDoor
open Go Go.GW
theorem EffOk.bump {x : GOp} {row : List Ce} (h : EffOk x row) (hb : row.length ≤ 60000) (hr : InR row) : (x.kind = 2 → BuOk x.rs 1 row ∧ x.rs ≠ []) ∧ (x.kind = 3 → BuOk x.rs (-1) row ∧ x.rs ≠ []) := by
 have key : ∀ k : Int, (x.kind = 2 ∧ k = 1) ∨ (x.kind = 3 ∧ k = -1) → BuOk x.rs k row ∧ x.rs ≠ [] := by
  intro k hk
  obtain ⟨h1, h2⟩ := (rangesF_ok (xs := x.rs) (w := row.length) (by omega)).1 ((check_cov (by omega) (by omega)).1 h.ck).2
  refine ⟨⟨h2.ck (by omega), h2.below, fun q c hq hi => ?_⟩, h1⟩
  have hc := hr c (List.mem_of_getElem? hq)
  rcases hk with ⟨hk, rfl⟩ | ⟨hk, rfl⟩
  ·have := h.up hk q c hq hi; omega
  ·have := h.dn hk q c hq hi; omega
 exact ⟨fun hk => key 1 (.inl ⟨hk, rfl⟩), fun hk => key (-1) (.inr ⟨hk, rfl⟩)⟩

set_option maxRecDepth 10000 in
theorem apply_s (b : Nat) (A Ax : Option Addr) (cx : Nat) (t : Tr) (x : GOp) (wt : Wf t) (hb : t.row.length ≤ 60000) (he : EffOk x t.row) (hs : x.text.size ≤ 1073741824) (hl : x.rs.length ≤ 4398046511104) : Sp Tryz.prog 11 [.pointer (some ⟨b, 0, none⟩), opV x Ax cx] [rpP b A] [barF, TrF A t, RdF rgD Ax cx x.rs] (RpP b (applyRow x t.row)) := by
 obtain ⟨hb2, hb3⟩ := he.bump hb wt.inR
 refine Sp.of (n := 38) ⟨_, Tryz.func11, rfl, rfl, rfl, rfl⟩ (Nat.le_of_ble_eq_true rfl) fun Ps As => WC_seq (WC_region (WL_main rfl (OW_box (cs := [_, _, _, _, _, _, _, _, _]) rfl rfl (by decide) fun b3 => Lq (q_assign rfl) (WL_nil (thenN (WC_seq (WC_seq (WC_region (Lq (q_move rfl) (Lq (q_peql Un29 rfl rfl (by simp)) (WL_nil (thenN (WC_false rfl rfl (WC_skip (thenN (WC_seq (WC_seq (WC_pick (.s (.z)) (WC_draw _ _ [] (.c 0 0 (.c 1 0 (.c 2 2 (.c 3 2 (.c 4 0 .nil))))) mixed (fun _ _ _ _ h => h) (Sk (Sk (Sr))) (fun _ h => h) (by kernel_rfl) (by decide) fun ws Z0 => ?_)))))))))))))))))))
 refine Qe rfl (q_loadN (vs := [_, _, _, _, _, _, _, _, _]) Un47 rfl ti47 rfl (ownS (own0)) rfl rfl) (Qe rfl (q_move rfl) (WE_main rfl rfl (OW_call1 (rtotal_s b A t wt) (.cons rfl (.nil)) (by decide) (.z) (memc M2 mem0) fun u3_2 Lo fs hres => ?_)))
 obtain ⟨rfl, rfl, rfl⟩ := hres
 refine ⟨⟨(Sk (Sk (Sr))), M0⟩, ?_⟩
 refine WE_main rfl rfl (OW_call0 (opCheck_s x Ax cx t.row.length (by omega) hl) (.cons rfl (.cons rfl (.nil))) (by decide) (memc M1 (memc M3 mem0)) fun u3_3 Lo fs hres => ?_)
 obtain ⟨rfl, rfl, rfl⟩ := hres
 refine ⟨⟨(Sk (Sk (Sr))), M0⟩, ?_⟩
 refine Qe rfl (q_assign rfl) (WE_end (WF_nil (thenN (WC_seq (WC_region (Lq (q_move rfl) (Lq (q_neq rfl rfl) (WL_nil (thenN (WC_false rfl (by rw [he.ck]; rfl) (WC_skip (thenN (WC_seq (WC_seq (WC_region (Lq (q_field (o' := 0) Un47 rfl ti44 rfl rfl) (Lq (q_field (o' := 2) Un44 rfl ti42 rfl rfl) ?_)))))))))))))))))
 refine Lq (q_load1 Un42 rfl rfl (ownS (own0)) rfl) (WL_nil (thenN (WC_fr [(17, _), (4, _), (3, _), (0, _)] (.cons rfl (.cons rfl (.cons rfl (.cons rfl (.nil _))))) (WC_block (WC_seq (WC_region (Lq (q_eql rfl rfl) (Lq (q_assign rfl) (WL_nil (thenN (WC_cond rfl (fun h18 => ?_) (fun h18 => ?_))))))))))))
 ·have hk : x.kind = 1 := by simpa using h18
  obtain ⟨hu, hn, hat, hw⟩ := insF_ok.1 ((check_ins hk (by omega)).1 he.ck).2
  have hru := utF_runes hu
  refine WC_seq (WC_region (Lq (q_move rfl) (Lq (q_field (o' := 3) Un47 rfl ti3 rfl rfl) (Lq (q_load1 Un3 rfl rfl (ownS (own0)) rfl) (Lq (q_field (o' := 4) Un47 rfl ti9 rfl rfl) (Lq (q_load1 Un9 rfl rfl (ownS (own0)) rfl) (WL_main rfl (OW_call1 (rinsert_s b A t x.at_ x.text 0 wt hat hs hu (by omega) (by omega) (by omega)) (.cons rfl (.cons rfl (.cons rfl (.cons rfl (.nil))))) (by decide) (.z) (memc M1 (memc M2 mem0)) fun u8_5 Lo fs hres => ?_))))))))
  obtain ⟨A2, t2, rfl, rfl, rfl, wt2, r2⟩ := hres
  refine Lq (q_assign rfl) (WL_nil (thenN (WC_ret (blockRet (thenRet ?_)))))
  refine ⟨_, [_], [_], fun Z w hs => .tmp rfl (.nil), ?_, fun Z w hs => hs.out (Sk (Sd (Sr))) (memc M0 T2)⟩
  exact ⟨_, _, rfl, rfl, rfl, wt2, by rw [r2]; unfold applyRow; rw [if_pos hk]⟩
 ·refine WC_seq (WC_region (Lq (q_eql rfl rfl) (Lq (q_assign rfl) (WL_nil (thenN (WC_cond rfl (fun h26 => ?_) (fun h26 => ?_)))))))
  ·have hk : x.kind = 2 := by simpa using h26
   refine WC_seq (WC_region (Lq (q_move rfl) (Lq (q_field (o' := 5) Un47 rfl ti45 rfl rfl) (Lq (q_load1 Un45 rfl rfl (ownS (own0)) rfl) (WL_main rfl (OW_call1 (bumpUp_s b A Ax cx t x.rs wt (by omega) (hb2 hk).1 (hb2 hk).2) (.cons rfl (.cons rfl (.cons rfl (.nil)))) (by decide) (.z) (memc M2 (memc M3 mem0)) fun u10_3 Lo fs hres => ?_))))))
   obtain ⟨A2, t2, rfl, rfl, rfl, wt2, r2⟩ := hres
   refine Lq (q_assign rfl) (WL_nil (thenN (WC_ret (blockRet (thenRet ?_)))))
   refine ⟨_, [_], [_], fun Z w hs => .tmp rfl (.nil), ?_, fun Z w hs => hs.out (Sk (Sd (Sr))) (memc M0 T2)⟩
   exact ⟨_, _, rfl, rfl, rfl, wt2, by rw [r2]; unfold applyRow; rw [if_neg (by omega), if_pos hk]⟩
  ·refine WC_seq (WC_region (Lq (q_eql rfl rfl) (Lq (q_assign rfl) (WL_nil (thenN (WC_cond rfl (fun h32 => ?_) (fun h32 => ?_)))))))
   ·have hk : x.kind = 3 := by simpa using h32
    refine WC_seq (WC_region (Lq (q_move rfl) (Lq (q_field (o' := 5) Un47 rfl ti45 rfl rfl) (Lq (q_load1 Un45 rfl rfl (ownS (own0)) rfl) (WL_main rfl (OW_call1 (bumpDn_s b A Ax cx t x.rs wt (by omega) (hb3 hk).1 (hb3 hk).2) (.cons rfl (.cons rfl (.cons rfl (.nil)))) (by decide) (.z) (memc M2 (memc M3 mem0)) fun u12_3 Lo fs hres => ?_))))))
    obtain ⟨A2, t2, rfl, rfl, rfl, wt2, r2⟩ := hres
    refine Lq (q_assign rfl) (WL_nil (thenN (WC_fr [(4, _)] (.cons rfl (.nil _)) (WC_ret (blockRet (thenRet ?_))))))
    refine ⟨_, [_], [_], fun Z w hs => .tmp rfl (.nil), ?_, fun Z w hs => hs.out (Sk (Sd (Sr))) (memc M0 T2)⟩
    exact ⟨_, _, rfl, rfl, rfl, wt2, by rw [r2]; unfold applyRow; rw [if_neg (by omega), if_neg (by omega), if_pos hk]⟩
   ·exfalso
    have := he.kind
    simp at h18 h26 h32
    omega

end Go.Proofs.YtcjbjkbghgjmdaaGreatDoor
/- Plain texts of the statements: words' runes; what Check says of them. -/
namespace Go.Proofs.YtcjbjkbghgjmdaaGreatDoor
open Go Go.GW
def mkB (l : List UInt8) : ByteArray := ⟨l.toArray⟩
theorem mkB_size (l : List UInt8) : (mkB l).size = l.length := by simp [mkB, ByteArray.size]
theorem mkB_get (a b : List UInt8) (k : Nat) (h : k < b.length) : (mkB (a ++ b)).get! (a.length + k) = b[k] := by
 have hlt : a.length + k < (a ++ b).length := by simp; omega
 show (a ++ b).toArray[a.length + k]! = b[k]
 rw [List.getElem!_toArray, getElem!_pos (a ++ b) (a.length + k) hlt, List.getElem_append_right (by omega)]
 congr 1; omega
theorem mkB_append (a b : List UInt8) : mkB a ++ mkB b = mkB (a ++ b) := ByteArray.mk_append_mk a b
theorem decode_wide (a b : List UInt8) : Utf8.decode (mkB (a ++ ([0xE2, 0x82, 0xAC] ++ b))) a.length = (8364, 3) := by
 have g : ∀ k (h : k < ([0xE2, 0x82, 0xAC] ++ b : List UInt8).length), (mkB (a ++ ([0xE2, 0x82, 0xAC] ++ b))).get! (a.length + k) = ([0xE2, 0x82, 0xAC] ++ b : List UInt8)[k] := fun k h => mkB_get a _ k h
 have g0 := g 0 (by simp)
 have g1 := g 1 (by simp)
 have g2 := g 2 (by simp)
 have s : (mkB (a ++ ([0xE2, 0x82, 0xAC] ++ b))).size = a.length + (3 + b.length) := by rw [mkB_size]; simp; omega
 have e0 : ([0xE2, 0x82, 0xAC] ++ b : List UInt8)[0]'(by simp) = 0xE2 := rfl
 have e1 : ([0xE2, 0x82, 0xAC] ++ b : List UInt8)[1]'(by simp) = 0x82 := rfl
 have e2 : ([0xE2, 0x82, 0xAC] ++ b : List UInt8)[2]'(by simp) = 0xAC := rfl
 rw [e0] at g0; rw [e1] at g1; rw [e2] at g2
 unfold Utf8.decode
 simp only [g0, g1, g2, s]
 have h1 : a.length + 1 < a.length + (3 + b.length) := by omega
 have h2 : a.length + 2 < a.length + (3 + b.length) := by omega
 simp only [h1, h2, decide_true, Bool.true_and, show (0xE2 : UInt8).toNat = 226 from rfl, show (0x82 : UInt8).toNat = 130 from rfl, show (0xAC : UInt8).toNat = 172 from rfl]
 rw [if_neg (by decide), if_neg (by decide), if_pos (by decide), if_pos (by decide)]
theorem decode_one (a b : List UInt8) (c : UInt8) (hc : c.toNat < 128) : Utf8.decode (mkB (a ++ ([c] ++ b))) a.length = (c.toNat, 1) := by
 have g0 := mkB_get a ([c] ++ b) 0 (by simp)
 have e0 : ([c] ++ b : List UInt8)[0]'(by simp) = c := rfl
 rw [e0] at g0
 unfold Utf8.decode
 simp only [g0]
 rw [if_pos hc]
theorem letF_wide : letF 8364 = true := by decide
theorem letF_low {c : Int} (h1 : 97 ≤ c) (h2 : c ≤ 122) : letF c = true := by
 unfold letF barL
 simp only [List.all_cons, List.all_nil, Bool.and_true, Bool.and_eq_true, Bool.not_eq_true', Bool.and_eq_false_iff, decide_eq_false_iff_not, decide_eq_true_eq]
 omega
end Go.Proofs.YtcjbjkbghgjmdaaGreatDoor
/- Views, plain: histories that were fed, what a statement notes of them; moves that are made right. -/
namespace Go.Proofs.YtcjbjkbghgjmdaaGreatDoor
open Go Go.GW
/-! ### Texts of letters -/
def bytesL (x : Option Nat) : List UInt8 := match x with
 | none => [0xE2, 0x82, 0xAC]
 | some r => [UInt8.ofNat (97 + r % 26)]
def txL (ls : List (Option Nat)) : List UInt8 := ls.flatMap bytesL
def txOf (ls : List (Option Nat)) : ByteArray := mkB (txL ls)
theorem bytesL_len (x : Option Nat) : 1 ≤ (bytesL x).length ∧ (bytesL x).length ≤ 3 := by cases x <;> simp [bytesL]
theorem txL_len : ∀ (ls : List (Option Nat)), (txL ls).length ≤ 3 * ls.length
 | [] => by simp [txL]
 | x :: ls => by
  have := txL_len ls
  have := bytesL_len x
  simp only [txL, List.flatMap_cons, List.length_append, List.length_cons] at *; omega
theorem txOf_size (ls : List (Option Nat)) : (txOf ls).size ≤ 3 * ls.length := by unfold txOf; rw [mkB_size]; exact txL_len ls
theorem txOf_append (ls : List (Option Nat)) (x : Option Nat) : txOf ls ++ mkB (bytesL x) = txOf (ls ++ [x]) := by
 unfold txOf txL; rw [mkB_append, List.flatMap_append]; simp
theorem utAt_letters : ∀ (ls : List (Option Nat)) (q : Nat) (pre : List UInt8), utAt (mkB (pre ++ txL ls)) pre.length q = (((q + ls.length : Nat) : Int), 0, 0)
 | [], q, pre => by
  rw [utAt_end (by rw [mkB_size]; simp [txL])]; rfl
 | x :: ls, q, pre => by
  have hl := bytesL_len x
  have hp : pre.length < (mkB (pre ++ txL (x :: ls))).size := by rw [mkB_size, txL, List.flatMap_cons]; simp only [List.length_append]; omega
  have ih := utAt_letters ls (q + 1) (pre ++ bytesL x)
  rw [List.append_assoc] at ih
  have key : ∃ c : Nat, Utf8.decode (mkB (pre ++ (bytesL x ++ txL ls))) pre.length = (c, (bytesL x).length) ∧ (c : Int) ≠ 65533 ∧ letF c = true := by
   cases x with
   | none => exact ⟨8364, by unfold bytesL; rw [decode_wide]; rfl, by decide, letF_wide⟩
   | some k =>
    have hk : k % 26 < 26 := Nat.mod_lt _ (by decide)
    have hc : (UInt8.ofNat (97 + k % 26)).toNat = 97 + k % 26 := by
     rw [UInt8.toNat_ofNat']; omega
    refine ⟨97 + k % 26, ?_, by omega, letF_low (by omega) (by omega)⟩
    unfold bytesL
    rw [decode_one _ _ _ (by rw [hc]; omega), hc]; rfl
  obtain ⟨c, h1, h2, h3⟩ := key
  rw [txL, List.flatMap_cons] at hp ⊢
  rw [utAt_next hp]
  ·rw [show (mkB (pre ++ (bytesL x ++ List.flatMap bytesL ls))) = mkB (pre ++ (bytesL x ++ txL ls)) from rfl, h1]
   simp only
   rw [List.length_append] at ih
   rw [ih]
   simp only [List.length_cons]
   congr 2; omega
  ·rw [show (mkB (pre ++ (bytesL x ++ List.flatMap bytesL ls))) = mkB (pre ++ (bytesL x ++ txL ls)) from rfl, h1]; unfold begF; simp [h2]
  ·rw [show (mkB (pre ++ (bytesL x ++ List.flatMap bytesL ls))) = mkB (pre ++ (bytesL x ++ txL ls)) from rfl, h1]; simp [h3]
theorem utF_letters (ls : List (Option Nat)) : utF (txOf ls) = ((ls.length : Int), 0, 0) := by
 have := utAt_letters ls 0 []
 simp only [List.nil_append, List.length_nil, Nat.zero_add] at this
 exact this
/-! ### What is noted -/
def idsOf (es : List Ent) : List (Int × Int) := es.map fun e => (e.op.c, e.op.n)
def kindN (o : GOp) : Int := if o.kind = 4 then 2 else if o.kind = 2 then 1 else 0
def kindsOf (es : List Ent) : List Int := es.map fun e => kindN e.op
def textsOf (es : List Ent) : List ByteArray := es.map fun e => e.op.text
def insAt {α : Type} (l : List α) (i : Nat) (x : α) : List α := l.take i ++ x :: l.drop i
def nxF (nx : List Int) (c n : Int) : List Int := if nx.getD c.toNat 0 < n then nx.set c.toNat n else nx
theorem zipE_noted {β : Type} (f : GOp → β) (hf : ∀ a b, Same a b → f b = f a) : ∀ (xs : List GOp) (es : List Ent), Sames (es.map (·.op)) xs → (zipE xs es).map (fun e => f e.op) = es.map fun e => f e.op
 | [], [], _ => rfl
 | x :: xs, e :: es, h => by
  cases h with
  | cons h hr => simp only [zipE, List.map_cons, hf _ _ h, zipE_noted f hf xs es hr]
 | [], e :: es, h => by cases h
 | x :: xs, [], h => by cases h
theorem PutIs.noted {β : Type} (f : GOp → β) (hf : ∀ a b, Same a b → f b = f a) {H : Hist} (h : HV H) {i : Nat} {o : GOp} {es : List Ent} {nw : List Rg} {eff : GOp} (g : Good H i o) (p : PutIs H i o es nw eff) :
  (putF H i o).1.ents.map (fun e => f e.op) = insAt (H.ents.map fun e => f e.op) i (f o) := by
 have hs := p.sames h g
 rw [p.put]
 show (newEnts i o nw es (carryF o (H.ops.drop i)).2).map (fun e => f e.op) = _
 unfold newEnts insAt
 rw [List.map_append, List.map_cons, zipE_noted f hf _ _ hs]
 have e0 : (es.map fun e => f e.op) = H.ents.map fun e => f e.op := by
  have := congrArg (List.map f) (p.es_ops g)
  unfold Hist.ops at this
  rw [List.map_map, List.map_map] at this
  exact this
 rw [← List.map_take, ← List.map_drop, List.map_take, List.map_drop, e0, ← List.map_take, ← List.map_drop, List.map_take, List.map_drop]
theorem PutIs.length {H : Hist} (h : HV H) {i : Nat} {o : GOp} {es : List Ent} {nw : List Rg} {eff : GOp} (g : Good H i o) (p : PutIs H i o es nw eff) : (putF H i o).1.ents.length = H.ents.length + 1 := by
 have hs := p.sames h g
 rw [p.put]
 show (newEnts i o nw es (carryF o (H.ops.drop i)).2).length = _
 rw [newEnts_length hs (by rw [p.len g]; exact g.le), p.len g]
/-- A history that was fed, and the row of its effects. -/
inductive Made : Nat → Hist → List Ce → Prop
 | zero : Made 0 ⟨[], 0⟩ []
 | step {n : Nat} {H : Hist} {X : List Ce} {i : Nat} {o : GOp} (h : Made n H X) (g : Good H i o) : Made (n + 1) (putF H i o).1 (applyRow (putF H i o).2.1 X)
theorem Made.inv {n : Nat} {H : Hist} {X : List Ce} (h : Made n H X) : n ≤ 1000 → HV H ∧ Rule H X ∧ H.ents.length = n := by
 induction h with
 | zero =>
  intro _
  refine ⟨⟨trivial, rfl, by decide, fun e he => (by cases he), fun e he => (by cases he), fun e he => (by cases he), List.nodup_nil⟩, ⟨rfl, fun q c hq => (by simp at hq)⟩, rfl⟩
 | step h g ih =>
  intro hn
  obtain ⟨h1, h2, h3⟩ := ih (by omega)
  obtain ⟨es, nw, eff, p⟩ := put_good h1 g
  have h4 := put_hv h1 g p
  have h5 := (put_row h1 g p h2 (by omega)).2.2
  refine ⟨by rw [p.put]; exact h4, by rw [p.put]; exact h5, by rw [p.length h1 g, h3]⟩
/-- What holds of a view: N is no less than any number that was noted. -/
structure VI (N : Int) (n : Nat) (H : Hist) (X : List Ce) (nx : List Int) : Prop where
 made : Made n H X
 le : n ≤ 200
 nxl : nx.length = 9
 nxe : ∀ e ∈ H.ents, ∃ x, nx[e.op.c.toNat]? = some x ∧ e.op.n ≤ x
 nx0 : ∀ x ∈ nx, 0 ≤ x ∧ x ≤ N
theorem VI.hv {N : Int} {n : Nat} {H : Hist} {X : List Ce} {nx : List Int} (h : VI N n H X nx) : HV H := (h.made.inv (by have := h.le; omega)).1
theorem VI.rule {N : Int} {n : Nat} {H : Hist} {X : List Ce} {nx : List Int} (h : VI N n H X nx) : Rule H X := (h.made.inv (by have := h.le; omega)).2.1
theorem VI.len {N : Int} {n : Nat} {H : Hist} {X : List Ce} {nx : List Int} (h : VI N n H X nx) : H.ents.length = n := (h.made.inv (by have := h.le; omega)).2.2
theorem VI.total {N : Int} {n : Nat} {H : Hist} {X : List Ce} {nx : List Int} (h : VI N n H X nx) : 0 ≤ H.total ∧ H.total ≤ 256 * n := by
 have h1 := h.hv
 refine ⟨h1.total0, ?_⟩
 have key : ∀ (l : List GOp) (w : Int), CtxOk w l → sumO l ≤ 256 * l.length := by
  intro l
  induction l with
  | nil => intro w _; simp [sumO]
  | cons o l ih =>
   intro w hc
   have := ih _ hc.2
   have := hc.1.width
   simp only [sumO, List.length_cons]; omega
 have := key _ _ h1.ctx
 rw [← h1.tot] at this
 have e : H.ops.length = n := by unfold Hist.ops; rw [List.length_map, h.len]
 rw [e] at this; exact this
theorem right_bd {c n : Int} (h : rightF c n = true) : 1 ≤ c ∧ c ≤ 8 ∧ 1 ≤ n ∧ n ≤ 1024 := by unfold rightF at h; simpa using h
theorem nxF_length (nx : List Int) (c n : Int) : (nxF nx c n).length = nx.length := by unfold nxF; split <;> simp
theorem VI.zero : VI 0 0 ⟨[], 0⟩ [] (List.replicate 9 0) := ⟨.zero, by decide, rfl, fun e he => (by cases he), fun x hx => by have := List.eq_of_mem_replicate hx; omega⟩
theorem VI.step {N N' : Int} {n : Nat} {H : Hist} {X : List Ce} {nx : List Int} (h : VI N n H X nx) {i : Nat} {o : GOp} (g : Good H i o) (hn : n < 200) (hN : N ≤ N') (ho : o.n ≤ N') : VI N' (n + 1) (putF H i o).1 (applyRow (putF H i o).2.1 X) (nxF nx o.c o.n) := by
 have hb := right_bd g.idr
 have hl := h.nxl
 obtain ⟨es, nw, eff, p⟩ := put_good h.hv g
 refine ⟨.step h.made g, by omega, by rw [nxF_length]; exact hl, ?_, ?_⟩
 ·intro e he
  have hids := p.noted (fun o => (o.c, o.n)) (fun a b hs => by rw [hs.c, hs.n]) h.hv g
  have hm : (e.op.c, e.op.n) ∈ insAt (H.ents.map fun e => (e.op.c, e.op.n)) i (o.c, o.n) := by
   rw [← hids]; exact List.mem_map.2 ⟨e, he, rfl⟩
  have hold : (e.op.c = o.c ∧ e.op.n = o.n) ∨ ∃ x ∈ H.ents, e.op.c = x.op.c ∧ e.op.n = x.op.n := by
   unfold insAt at hm
   rcases List.mem_append.1 hm with hm | hm
   ·obtain ⟨x, hx, hh⟩ := List.mem_map.1 (List.mem_of_mem_take hm)
    simp only [Prod.mk.injEq] at hh
    exact .inr ⟨x, hx, hh.1.symm, hh.2.symm⟩
   ·rcases List.mem_cons.1 hm with hm | hm
    ·simp only [Prod.mk.injEq] at hm; exact .inl hm
    ·obtain ⟨x, hx, hh⟩ := List.mem_map.1 (List.mem_of_mem_drop hm)
     simp only [Prod.mk.injEq] at hh
     exact .inr ⟨x, hx, hh.1.symm, hh.2.symm⟩
  rcases hold with ⟨e1, e2⟩ | ⟨x, hx, e1, e2⟩
  ·rw [e1, e2]
   unfold nxF
   have hlt : o.c.toNat < nx.length := by omega
   split
   ·exact ⟨o.n, by rw [List.getElem?_set_self hlt], Int.le_refl _⟩
   ·rename_i hh
    refine ⟨nx[o.c.toNat], List.getElem?_eq_getElem hlt, ?_⟩
    rw [List.getD_eq_getElem?_getD, List.getElem?_eq_getElem hlt] at hh
    simp only [Option.getD_some] at hh; omega
  ·obtain ⟨y, hy, hle⟩ := h.nxe x hx
   rw [e1, e2]
   unfold nxF
   split
   ·rename_i hh
    by_cases hc : o.c.toNat = x.op.c.toNat
    ·rw [hc] at hh ⊢
     rw [List.getD_eq_getElem?_getD, hy] at hh
     simp only [Option.getD_some] at hh
     have hlt : x.op.c.toNat < nx.length := by
      rcases Nat.lt_or_ge x.op.c.toNat nx.length with h | h
      ·exact h
      ·rw [List.getElem?_eq_none h] at hy; cases hy
     exact ⟨o.n, by rw [List.getElem?_set_self hlt], by omega⟩
    ·exact ⟨y, by rw [List.getElem?_set_ne hc]; exact hy, hle⟩
   ·exact ⟨y, hy, hle⟩
 ·intro x hx
  unfold nxF at hx
  split at hx
  ·rcases List.mem_or_eq_of_mem_set hx with hx | rfl
   ·have := h.nx0 x hx; omega
   ·omega
  ·have := h.nx0 x hx; omega
/-! ### Moves that are made -/
theorem VI.fresh {N : Int} {n : Nat} {H : Hist} {X : List Ce} {nx : List Int} (h : VI N n H X nx) {c : Int} {x : Int} (hc : nx[c.toNat]? = some x) (hc0 : 1 ≤ c ∧ c ≤ 8) {k : Int} (hk : x < k) : whereId H.ents c k = none := by
 cases hw : whereId H.ents c k with
 | none => rfl
 | some j =>
  obtain ⟨hj, h1, h2⟩ := whereId_some hw
  obtain ⟨y, hy, hle⟩ := h.nxe _ (List.getElem_mem hj)
  rw [h1, hc] at hy
  have := Option.some.inj hy
  omega
theorem whereId_of {es : List Ent} (hn : (es.map fun e => (e.op.c, e.op.n)).Nodup) {k : Nat} (hk : k < es.length) : whereId es es[k].op.c es[k].op.n = some k := by
 cases hw : whereId es es[k].op.c es[k].op.n with
 | none => exact absurd ⟨rfl, rfl⟩ (whereId_none hw _ (List.getElem_mem hk))
 | some j =>
  obtain ⟨hj, h1, h2⟩ := whereId_some hw
  have h3 := List.getElem_inj (h₀ := by simpa using hj) (h₁ := by simpa using hk) hn
  simp only [List.getElem_map, Prod.mk.injEq] at h3
  rw [h3.1 ⟨h1, h2⟩]
theorem good_head {o : GOp} (hk : 1 ≤ o.kind ∧ o.kind ≤ 4) (hr : rightF o.c o.n = true) (he : extraF o = false) : headF o := ⟨by omega, fun h => by rw [hr] at h; simp at h, by rw [he]; simp⟩
theorem VI.room {N : Int} {n : Nat} {H : Hist} {X : List Ce} {nx : List Int} (h : VI N n H X nx) (i : Nat) : 0 ≤ beforeF H i ∧ beforeF H i ≤ H.total := by
 obtain ⟨h1, h2, h3, h4⟩ := h.hv.split i
 have := sumO_nonneg h2
 omega
theorem good_ins {N : Int} {n : Nat} {H : Hist} {X : List Ce} {nx : List Int} (h : VI N n H X nx) {i : Nat} (hi : i ≤ n) {c k : Int} (hw : whereId H.ents c k = none) (hr : rightF c k = true) {a : Int} {ls : List (Option Nat)} (ha : 0 ≤ a ∧ a ≤ beforeF H i) (hl : 1 ≤ ls.length ∧ ls.length ≤ 256) : Good H i { zeroOp with c := c, n := k, kind := 1, at_ := a, text := txOf ls } := by
 have ht := h.total
 have hb := h.room i
 have hle := h.le
 have hu := utF_letters ls
 refine ⟨by rw [h.len]; exact hi, ⟨(check_ins rfl (by omega)).2 ⟨good_head (by dsimp only; omega) hr (by simp [extraF, zeroOp]), insF_ok.2 ?_⟩, .inl rfl⟩, hw, hr, fun e => (by cases e), ?_⟩
 ·dsimp only
  rw [hu]; dsimp only; omega
 ·have : widthF { zeroOp with c := c, n := k, kind := 1, at_ := a, text := txOf ls } = ls.length := by unfold widthF; rw [if_pos rfl]; dsimp only; rw [hu]
  rw [this]; omega
theorem good_hide {N : Int} {n : Nat} {H : Hist} {X : List Ce} {nx : List Int} (h : VI N n H X nx) {i : Nat} (hi : i ≤ n) {c k : Int} (hw : whereId H.ents c k = none) (hr : rightF c k = true) {rs : List Rg} (hp : Pls (beforeF H i) rs) (hne : rs ≠ []) : Good H i { zeroOp with c := c, n := k, kind := 2, rs := rs } := by
 have ht := h.total
 have hb := h.room i
 have hle := h.le
 refine ⟨by rw [h.len]; exact hi, ⟨(check_cov (.inl rfl) (by omega)).2 ⟨good_head (by dsimp only; omega) hr (by simp [extraF, zeroOp, emptyB]), (rangesF_ok (by omega)).2 ⟨hne, hp⟩⟩, .inr (.inl rfl)⟩, hw, hr, fun e => (by cases e), ?_⟩
 have : widthF { zeroOp with c := c, n := k, kind := 2, rs := rs } = 0 := by unfold widthF; rw [if_neg (by dsimp only; omega)]
 rw [this]; omega
theorem good_status {N : Int} {n : Nat} {H : Hist} {X : List Ce} {nx : List Int} (h : VI N n H X nx) {i : Nat} (hi : i ≤ n) {c k : Int} (hw : whereId H.ents c k = none) (hr : rightF c k = true) {j : Nat} (hj : j < H.ents.length) (hji : j < i) (hk : H.ents[j].op.kind ≠ 4) (on : Bool) : Good H i { zeroOp with c := c, n := k, kind := 4, tc := H.ents[j].op.c, tn := H.ents[j].op.n, on := on } := by
 have ht := h.total
 have hb := h.room i
 have hle := h.le
 have hne : ¬ (H.ents[j].op.c = c ∧ H.ents[j].op.n = k) := whereId_none hw _ (List.getElem_mem hj)
 refine ⟨by rw [h.len]; exact hi, ⟨(check_st rfl (by omega)).2 ⟨good_head (by dsimp only; omega) hr (by simp [extraF, zeroOp, emptyB]), h.hv.idr _ (List.getElem_mem hj), hne⟩, .inr (.inr rfl)⟩, hw, hr, fun _ => ⟨j, whereId_of h.hv.ids hj, hji, _, List.getElem?_eq_getElem hj, hk⟩, ?_⟩
 have : widthF { zeroOp with c := c, n := k, kind := 4, tc := H.ents[j].op.c, tn := H.ents[j].op.n, on := on } = 0 := by unfold widthF; rw [if_neg (show ¬ (4 : Int) = 1 by decide)]
 rw [this]; omega
/-! ### Cells that texts put in -/
theorem emptyB_eq {s : ByteArray} (h : (s == ⟨#[]⟩) = true) : s = ⟨#[]⟩ := by
 rw [beq_toListBytes, ByteArray.toList_eq, ByteArray.toList_eq] at h
 have := eq_of_beq h
 obtain ⟨⟨x⟩⟩ := s
 simp at this
 subst this; rfl
theorem right_runes {w : Int} {o : GOp} (h : Right w o) : ((runesF o.text).length : Int) = widthF o := by
 rcases h.kind with hk | hk | hk
 ·exact runes_width h hk
 all_goals
  have hh := (h.head h.w0).2.2
  have ht : o.text = ⟨#[]⟩ := by
   unfold extraF at hh
   have h1 : o.kind ≠ 1 := by omega
   apply emptyB_eq
   cases hq : (o.text == ⟨#[]⟩) with
   | true => rfl
   | false => exfalso; apply hh; simp [h1, hq]
  have hw : widthF o = 0 := by unfold widthF; rw [if_neg (by omega)]
  rw [ht, hw]
  have : runesF ⟨#[]⟩ = [] := by unfold runesF; rw [runesAt_end (by decide)]
  rw [this]; rfl
def cellsN (ts : List ByteArray) : Nat := (ts.map fun s => (runesF s).length).sum
theorem cells_before {H : Hist} (h : HV H) (i : Nat) : (cellsN ((textsOf H.ents).take i) : Int) = beforeF H i := by
 have key : ∀ (l : List GOp) (w : Int), CtxOk w l → ((cellsN (l.map (·.text)) : Nat) : Int) = sumO l := by
  intro l
  induction l with
  | nil => intro w _; rfl
  | cons o l ih =>
   intro w hc
   have h1 := ih _ hc.2
   have h2 := right_runes hc.1
   simp only [cellsN, List.map_cons, List.sum_cons, sumO] at h1 ⊢
   omega
 have e : (textsOf H.ents).take i = (H.ops.take i).map (·.text) := by unfold textsOf Hist.ops; rw [← List.map_take, ← List.map_take, List.map_map]; rfl
 rw [e, key _ 0 (h.split i).1, before_ops]
end Go.Proofs.YtcjbjkbghgjmdaaGreatDoor
/- Views in memory. -/
namespace Go.Proofs.YtcjbjkbghgjmdaaGreatDoor
open Go Go.GW
def idC (x : Int × Int) : List Value := [.int .i64 x.1, .int .i64 x.2]
def idD : De (Int × Int) where
 sz := 2
 rep _ _ x cs := cs = idC x
 len h := by subst h; rfl
 one h := by subst h; rfl
 stable _ _ _ _ _ h := h
theorem id_open (u : Int × Int) : ∀ Z w cs, idD.rep Z w u cs → ∃ y : Unit, cs = idC u ∧ ∀ B ∈ ([] : List Fact), B.holds Z w := fun _ _ _ h => ⟨(), h, fun _ h => by cases h⟩
theorem str_open (u : ByteArray) : ∀ Z w cs, De.str.rep Z w u cs → ∃ y : Unit, cs = [.string u] ∧ ∀ B ∈ ([] : List Fact), B.holds Z w := fun _ _ _ h => ⟨(), h, fun _ h => by cases h⟩
theorem i64_open (u : Int) : ∀ Z w cs, (De.int .i64).rep Z w u cs → ∃ y : Unit, cs = [.int .i64 u] ∧ ∀ B ∈ ([] : List Fact), B.holds Z w := fun _ _ _ h => ⟨(), h, fun _ h => by cases h⟩
/-- Cells of lists whose elements are plain cells. -/
def flatC {α : Type} (f : α → List Value) (xs : List α) : List Value := (xs.map f).flatten
theorem flatC_append {α : Type} (f : α → List Value) (xs ys : List α) : flatC f (xs ++ ys) = flatC f xs ++ flatC f ys := by unfold flatC; simp
theorem flatC_one {α : Type} (f : α → List Value) (x : α) : flatC f [x] = f x := by unfold flatC; simp
theorem reps_of {α : Type} {e : De α} {f : α → List Value} (h : ∀ Z w x, e.rep Z w x (f x)) (xs : List α) (Z : Nat → Prop) (w : World) : Reps (e.rep Z w) xs (xs.map f) := by
 induction xs with
 | nil => exact .nil
 | cons x xs ih => exact .cons (h Z w x) ih
abbrev vwP (v h b : Nat) (A1 : Option Addr) (n c1 : Nat) (A2 : Option Addr) (c2 : Nat) (A3 : Option Addr) (c3 : Nat) (nx : List Int) : Part :=
 [(v, cellsO (.pointer (some ⟨h, 0, none⟩) :: .pointer (some ⟨b, 0, none⟩) :: .slice A1 n c1 :: .slice A2 n c2 :: .slice A3 n c3 :: ints .i64 nx) 34)]
/-- A view that lies somewhere. -/
def ViewAt (v h m b : Nat) (H : Hist) (X : List Ce) (nx : List Int) (Lo : List Part) (fs : List Fact) : Prop :=
 ∃ (L : List MR) (A : Option Addr) (cap : Nat) (B : Option Addr) (t : Tr) (A1 : Option Addr) (c1 : Nat) (A2 : Option Addr) (c2 : Nat) (A3 : Option Addr) (c3 : Nat),
  Lo = [vwP v h b A1 H.ents.length c1 A2 c2 A3 c3 nx, hdP h A H.ops.length cap m H.total, mpP m L, mkP L, rpP b B] ∧
  fs = [RdF opD A cap H.ops, AllF L nowF, TrF B t, RdF idD A1 c1 (idsOf H.ents), RdF (De.int .i64) A2 c2 (kindsOf H.ents), RdF De.str A3 c3 (textsOf H.ents)] ∧
  HR H L ∧ Wf t ∧ t.row = X
/-! ### Small laws of the functions of the statements -/
theorem tmod_rest (a : Int) (m : Nat) (hm : 0 < m) : (a.tmod m + m).tmod m = a % m := by
 have h1 := Int.emod_nonneg a (show (m : Int) ≠ 0 by omega)
 have h2 := Int.emod_lt_of_pos a (show (0 : Int) < m by omega)
 have h3 : 0 ≤ a.tmod m + m := by
  have := Int.lt_tmod_of_pos a (show (0 : Int) < m by omega)
  omega
 rw [Int.tmod_eq_emod_of_nonneg h3, Int.add_emod_right]
 rcases Int.le_total 0 a with h | h
 ·rw [Int.tmod_eq_emod_of_nonneg h, Int.emod_emod_of_dvd _ (Int.dvd_refl _)]
 ·have h4 : a.tmod m = -((-a) % m) := by
   have := Int.neg_tmod (-a) m
   rw [Int.neg_neg] at this
   rw [this, Int.tmod_eq_emod_of_nonneg (by omega)]
  rw [h4]
  have := Int.emod_add_mul_ediv (-a) m
  have h5 : -((-a) % m) = a + m * ((-a) / m) := by omega
  rw [h5, Int.add_mul_emod_self_left]
theorem tmod_bd (a : Int) (m : Nat) (hm : 0 < m) : -(m : Int) < a.tmod m ∧ a.tmod m < m :=
 ⟨Int.lt_tmod_of_pos a (by omega), Int.tmod_lt_of_pos a (by omega)⟩
def editsL (ids : List (Int × Int)) (ks : List Int) : List (Int × Int) := ((ids.zip ks).filter fun x => !(x.2 == 2)).map (·.1)
theorem editsL_snoc {ids : List (Int × Int)} {ks : List Int} {i : Nat} (h1 : i < ids.length) (h2 : i < ks.length) : editsL (ids.take (i + 1)) (ks.take (i + 1)) = editsL (ids.take i) (ks.take i) ++ (if !(ks[i] == 2) then [ids[i]] else []) := by
 unfold editsL
 rw [List.take_succ_eq_append_getElem h1, List.take_succ_eq_append_getElem h2, List.zip_append (by rw [List.length_take, List.length_take]; omega), List.filter_append, List.map_append]
 congr 1
 simp only [List.zip_cons_cons, List.zip_nil_right, List.filter_cons, List.filter_nil]
 split <;> rfl
theorem editsL_len (ids : List (Int × Int)) (ks : List Int) : (editsL ids ks).length ≤ ids.length := by
 unfold editsL
 rw [List.length_map]
 have := List.length_filter_le (fun x : (Int × Int) × Int => !(x.2 == 2)) (ids.zip ks)
 have h2 : (ids.zip ks).length ≤ ids.length := by rw [List.length_zip]; omega
 omega
theorem cellsN_snoc {ts : List ByteArray} {i : Nat} (h : i < ts.length) : cellsN (ts.take (i + 1)) = cellsN (ts.take i) + (runesF ts[i]).length := by
 unfold cellsN
 rw [List.take_succ_eq_append_getElem h, List.map_append, List.sum_append]; simp
/-- total's inner loop. -/
structure ToI (s : ByteArray) (k p j : Nat) : Prop where
 le : p ≤ s.size
 eq : j + (runesAt s p).length = k + (runesF s).length
/-- some's loop. -/
structure SoI (n q : Nat) (xs : List Rg) (v : Value) (p : Part) : Prop where
 le : q ≤ n
 pls : Pls q xs
 row : Row 119 2 v xs.length (rgs xs) p
theorem SoI.len {n q : Nat} {xs : List Rg} {v : Value} {p : Part} (h : SoI n q xs v p) : xs.length ≤ q := by
 have := h.pls.len (by omega); omega
theorem pls_mono {T T' : Int} {xs : List Rg} (h : Pls T xs) (ht : T ≤ T') : Pls T' xs := ⟨h.norm, h.below.mono ht⟩
theorem pls_join {q : Nat} {ys : List Rg} {r : Rg} (h : Pls q (ys ++ [r])) (hr : r.hi = q) : Pls ((q + 1 : Nat) : Int) (ys ++ [⟨r.lo, q + 1⟩]) := by
 obtain ⟨g1, g2⟩ := normB_append.1 h.norm
 obtain ⟨k1, k2⟩ := BelowR.append.1 h.below
 refine ⟨normB_append.2 ⟨g1, g2.1, by have := g2.2.1; show r.lo < (q : Int) + 1; omega, trivial⟩, BelowR.append.2 ⟨k1.mono (by omega), fun x hx => ?_⟩⟩
 rw [List.mem_singleton] at hx; subst hx
 show (q : Int) + 1 ≤ _; omega
theorem pls_more {q : Nat} {xs : List Rg} (h : Pls q xs) (hl : ∀ r, xs.getLast? = some r → r.hi ≠ q) : Pls ((q + 1 : Nat) : Int) (xs ++ [⟨q, q + 1⟩]) := by
 refine ⟨normB_append.2 ⟨h.norm, ?_, by show (q : Int) < q + 1; omega, trivial⟩, BelowR.append.2 ⟨h.below.mono (by omega), fun x hx => ?_⟩⟩
 ·rcases List.eq_nil_or_concat xs with rfl | ⟨ys, r, rfl⟩
  ·show (0 : Int) ≤ q; omega
  ·rw [List.concat_eq_append] at *
   have h1 := h.below r (by simp)
   have h2 := hl r (by simp)
   rw [endB_append]
   show r.hi + 1 ≤ (q : Int); omega
 ·rw [List.mem_singleton] at hx; subst hx
  show (q : Int) + 1 ≤ _; omega
theorem vw_next {a b c d e : Value} {nx : List Int} {k : Nat} {x : Int} (h : nx[k]? = some x) : (a :: b :: c :: d :: e :: ints .i64 nx)[5 + ((k : Nat) : Int).toNat * 1]? = some (.int .i64 x) := by
 rw [Int.toNat_natCast, Nat.mul_one, Nat.add_comm 5 k]
 simp [ints, h]
structure Mv where
 kind : Int
 i : Int
 client : Int
 a : Int
 b : Int
 n : Int
def mvC (m : Mv) : List Value := [.int .i64 m.kind, .int .i64 m.i, .int .i64 m.client, .int .i64 m.a, .int .i64 m.b, .int .i64 m.n]
def mvV (m : Mv) : Value := .agg (mvC m).toArray
theorem editsL_mem {ids : List (Int × Int)} {ks : List Int} {x : Int × Int} (h : x ∈ editsL ids ks) : ∃ (j : Nat) (k : Int), ids[j]? = some x ∧ ks[j]? = some k ∧ k ≠ 2 := by
 unfold editsL at h
 obtain ⟨⟨y, k⟩, h1, rfl⟩ := List.mem_map.1 h
 obtain ⟨h2, h3⟩ := List.mem_filter.1 h1
 obtain ⟨j, hj⟩ := List.mem_iff_getElem?.1 h2
 rw [List.getElem?_zip_eq_some] at hj
 exact ⟨j, k, hj.1, hj.2, by simpa using h3⟩
theorem edits_target {H : Hist} {i : Nat} {x : Int × Int} (h : x ∈ editsL ((idsOf H.ents).take i) ((kindsOf H.ents).take i)) : ∃ (j : Nat) (hj : j < H.ents.length), j < i ∧ H.ents[j].op.c = x.1 ∧ H.ents[j].op.n = x.2 ∧ H.ents[j].op.kind ≠ 4 := by
 obtain ⟨j, k, h1, h2, h3⟩ := editsL_mem h
 rw [List.getElem?_take] at h1 h2
 split at h1
 ·rename_i hji
  rw [if_pos hji] at h2
  unfold idsOf at h1
  unfold kindsOf at h2
  rw [List.getElem?_map] at h1 h2
  cases he : H.ents[j]? with
  | none => rw [he] at h1; cases h1
  | some e =>
   have hj : j < H.ents.length := by
    rcases Nat.lt_or_ge j H.ents.length with h | h
    ·exact h
    ·rw [List.getElem?_eq_none h] at he; cases he
   have hee : H.ents[j] = e := by rw [List.getElem?_eq_getElem hj] at he; exact Option.some.inj he
   rw [he] at h1 h2
   simp only [Option.map_some, Option.some.injEq] at h1 h2
   subst h1
   refine ⟨j, hj, hji, by rw [hee], by rw [hee], ?_⟩
   rw [hee]
   intro hk
   unfold kindN at h2
   rw [if_pos hk] at h2
   exact h3 h2.symm
 ·cases h1
/-- An operation that is right whatever its id. -/
structure Body (H : Hist) (i : Nat) (o : GOp) : Prop where
 good : ∀ c k : Int, whereId H.ents c k = none → rightF c k = true → Good H i { o with c := c, n := k }
 text : o.text.size ≤ 1000
 rs : o.rs.length ≤ 60000
theorem VI.cellsB {N : Int} {n : Nat} {H : Hist} {X : List Ce} {nx : List Int} (h : VI N n H X nx) (i : Nat) : cellsN ((textsOf H.ents).take i) ≤ 51200 := by
 have h1 := cells_before h.hv i
 have h2 := h.room i
 have h3 := h.total
 have h4 := h.le
 omega
end Go.Proofs.YtcjbjkbghgjmdaaGreatDoor
/- What the statements' makers make, as_ functions: two runs of them on one input make the same. -/
namespace Go.Proofs.YtcjbjkbghgjmdaaGreatDoor
open Go Go.GW
def letAt (k : Int) (i : Nat) : Option Nat := if IntKind.i64.wrap (k + i) % ((7 : Nat) : Int) = 3 then none else some (IntKind.i64.wrap (k + i) % ((26 : Nat) : Int)).toNat
def lsN (k : Int) : Nat → List (Option Nat)
 | 0 => []
 | i + 1 => lsN k i ++ [letAt k i]
theorem lsN_len (k : Int) : ∀ i, (lsN k i).length = i
 | 0 => rfl
 | i + 1 => by simp [lsN, lsN_len k i]
def stepS (a c : Int) (q : Nat) (xs : List Rg) : List Rg :=
 if ((q * (a % ((7 : Nat) : Int)).toNat + (c % ((11 : Nat) : Int)).toNat : Nat) : Int) % ((11 : Nat) : Int) ≥ 5 then xs
 else match xs.getLast? with
  | none => [⟨q, q + 1⟩]
  | some r => if r.hi = q then xs.dropLast ++ [⟨r.lo, q + 1⟩] else xs ++ [⟨q, q + 1⟩]
def smN (a c : Int) : Nat → List Rg
 | 0 => []
 | q + 1 => stepS a c q (smN a c q)
def someL (n : Nat) (a c : Int) : List Rg := if smN a c n = [] then [⟨((c % (n : Int)).toNat : Nat), n⟩] else smN a c n
theorem stepS_skip {a c : Int} {q r t u : Nat} {xs : List Rg} (h1 : (r : Int) = a % ((7 : Nat) : Int)) (h2 : (t : Int) = c % ((11 : Nat) : Int)) (h3 : (u : Int) = ((q * r + t : Nat) : Int) % ((11 : Nat) : Int)) (h : (u : Int) ≥ 5) : stepS a c q xs = xs := by
 unfold stepS
 rw [← h1, ← h2, Int.toNat_natCast, Int.toNat_natCast, ← h3, if_pos h]
theorem stepS_nil {a c : Int} {q r t u : Nat} (h1 : (r : Int) = a % ((7 : Nat) : Int)) (h2 : (t : Int) = c % ((11 : Nat) : Int)) (h3 : (u : Int) = ((q * r + t : Nat) : Int) % ((11 : Nat) : Int)) (h : ¬ (u : Int) ≥ 5) : stepS a c q [] = [] ++ [⟨q, q + 1⟩] := by
 unfold stepS
 rw [← h1, ← h2, Int.toNat_natCast, Int.toNat_natCast, ← h3, if_neg h]; rfl
theorem stepS_join {a c : Int} {q r t u : Nat} {ys : List Rg} {g : Rg} (h1 : (r : Int) = a % ((7 : Nat) : Int)) (h2 : (t : Int) = c % ((11 : Nat) : Int)) (h3 : (u : Int) = ((q * r + t : Nat) : Int) % ((11 : Nat) : Int)) (h : ¬ (u : Int) ≥ 5) (hj : g.hi = q) : stepS a c q (ys ++ [g]) = ys ++ [⟨g.lo, q + 1⟩] := by
 unfold stepS
 rw [← h1, ← h2, Int.toNat_natCast, Int.toNat_natCast, ← h3, if_neg h, List.getLast?_concat]
 simp only
 rw [if_pos hj, List.dropLast_concat]
theorem stepS_more {a c : Int} {q r t u : Nat} {ys : List Rg} {g : Rg} (h1 : (r : Int) = a % ((7 : Nat) : Int)) (h2 : (t : Int) = c % ((11 : Nat) : Int)) (h3 : (u : Int) = ((q * r + t : Nat) : Int) % ((11 : Nat) : Int)) (h : ¬ (u : Int) ≥ 5) (hj : g.hi ≠ q) : stepS a c q (ys ++ [g]) = (ys ++ [g]) ++ [⟨q, q + 1⟩] := by
 unfold stepS
 rw [← h1, ← h2, Int.toNat_natCast, Int.toNat_natCast, ← h3, if_neg h, List.getLast?_concat]
 simp only
 rw [if_neg hj]
def cutN (H : Hist) (i : Nat) : Nat := cellsN ((textsOf H.ents).take i)
def edsN (H : Hist) (i : Nat) : List (Int × Int) := editsL ((idsOf H.ents).take i) ((kindsOf H.ents).take i)
/-- The command of a move. -/
def makeG (H : Hist) (i : Nat) (m : Mv) (c x : Int) : GOp :=
 if m.kind % ((3 : Nat) : Int) = 1 ∧ 0 < cutN H i then { zeroOp with c := c, n := x + 1, kind := 2, rs := someL (cutN H i) m.a m.b }
 else if m.kind % ((3 : Nat) : Int) = 2 ∧ 0 < (edsN H i).length then { zeroOp with c := c, n := x + 1, kind := 4, tc := ((edsN H i).getD (m.a % ((edsN H i).length : Int)).toNat (0, 0)).1, tn := ((edsN H i).getD (m.a % ((edsN H i).length : Int)).toNat (0, 0)).2, on := (m.b % ((2 : Nat) : Int) == 1) }
 else { zeroOp with c := c, n := x + 1, kind := 1, at_ := m.a % ((cutN H i + 1 : Nat) : Int), text := txOf (lsN m.b (1 + (m.n % ((12 : Nat) : Int)).toNat)) }
def makeF (H : Hist) (i : Nat) (nx : List Int) (m : Mv) : GOp := makeG H i m (1 + m.client % ((8 : Nat) : Int)) (nx.getD (1 + m.client % ((8 : Nat) : Int)).toNat 0)
structure FS where
 H : Hist
 X : List Ce
 nx : List Int
def stepF (s : FS) (i : Nat) (o : GOp) : FS := ⟨(putF s.H i o).1, applyRow (putF s.H i o).2.1 s.X, nxF s.nx o.c o.n⟩
def fedStep (k : Nat) (s : FS) (m : Mv) : FS :=
 stepF s (m.i % ((k + 1 : Nat) : Int)).toNat (makeF s.H (m.i % ((k + 1 : Nat) : Int)).toNat s.nx m)
def fedN (ms : List Mv) : Nat → FS
 | 0 => ⟨⟨[], 0⟩, [], List.replicate 9 0⟩
 | k + 1 => match ms[k]? with
  | some m => fedStep k (fedN ms k) m
  | none => fedN ms k
theorem fedN_next {ms : List Mv} {k : Nat} (hk : k < ms.length) : fedN ms (k + 1) = fedStep k (fedN ms k) ms[k] := by
 simp only [fedN, List.getElem?_eq_getElem hk]
end Go.Proofs.YtcjbjkbghgjmdaaGreatDoor
/- Walks: the statements' small functions. -/
namespace Go.Proofs.YtcjbjkbghgjmdaaGreatDoor
open Go Go.GW
set_option maxRecDepth 10000 in
theorem rest_g (a : Int) (m : Nat) (hm : 0 < m ∧ m ≤ 1099511627776) : Sp Tryz.prog 8 [.int .i64 a, .int .i64 m] [] [] (Is (.int .i64 (a % m))) := by
 have htb := tmod_bd a m hm.1
 refine Sp.of (n := 12) ⟨_, Tryz.func8, rfl, rfl, rfl, rfl⟩ (Nat.le_of_ble_eq_true rfl) fun Ps As => WC_seq (WC_region (Lq (q_assign rfl) (WL_nil (thenN (WC_seq (WC_region (Lq (q_move rfl) (Lq (q_move rfl) (Lq (q_rem rfl rfl (by omega) rfl) (Lq (q_move rfl) (Lq (q_add rfl rfl (wr64 (by omega))) (Lq (q_move rfl) ?_))))))))))))
 refine Lq (q_rem rfl rfl (by omega) (tmod_rest a m hm.1)) (Lq (q_assign rfl) (WL_nil (thenN (WC_ret ?_))))
 refine ⟨_, [], [], fun Z w hs => .tmp rfl (.nil), ?_, fun Z w hs => hs.out (Sr) (fun _ h => h)⟩
 exact ⟨rfl, rfl, rfl⟩

theorem conv_rune2 (x : Int) (h : 0 ≤ x ∧ x ≤ 2147483647) (w : World) : (convert 3 21 (.int .i64 x)).run Tryz.prog w = .ok (.int .i32 x) w := by
 have h1 : (convert 3 21 (.int .i64 x)).run Tryz.prog w = .ok (.int .i32 (IntKind.i32.wrap x)) w := by kernel_rfl
 have h2 : (x + 2147483648) % 4294967296 - 2147483648 = x := by omega
 rw [h1, IntKind.wrap_i32, h2]
theorem conv_text2 (x : Int) (w : World) : (convert 21 9 (.int .i32 x)).run Tryz.prog w = .ok (.string (Utf8.encode x)) w := by kernel_rfl
def letV : Option Nat → Int
 | none => 8364
 | some r => 97 + (r % 26 : Nat)
theorem encode_let (x : Option Nat) : Utf8.encode (letV x) = mkB (bytesL x) := by
 cases x with
 | none => decide
 | some r =>
  have hr : r % 26 < 26 := Nat.mod_lt _ (by decide)
  have e : letV (some r) = ((97 + r % 26 : Nat) : Int) := by simp [letV]
  rw [e]
  unfold Utf8.encode
  have hv : Utf8.valid ((97 + r % 26 : Nat) : Int) = true := by unfold Utf8.valid; simp; omega
  simp only [hv, if_true, Int.toNat_natCast, if_pos (show 97 + r % 26 < 128 by omega)]; rfl
def WordsP (n : Nat) (k : Int) : Value → List Part → List Fact → Prop := fun v Lo fs => ∃ ls : List (Option Nat), ls.length = n ∧ v = .string (txOf ls) ∧ Lo = [] ∧ fs = [] ∧ ls = lsN k n

set_option maxRecDepth 10000 in
theorem words_g (n : Nat) (k : Int) (hn : n ≤ 1000000) : Sp Tryz.prog 41 [.int .i64 n, .int .i64 k] [] [] (WordsP n k) := by
 refine Sp.of (n := 29) ⟨_, Tryz.func41, rfl, rfl, rfl, rfl⟩ (Nat.le_of_ble_eq_true rfl) fun Ps As => WC_seq (WC_region (Lq (q_assign rfl) (WL_nil (thenN (WC_seq (WC_region (Lq (q_assign rfl) (WL_nil (thenN (WC_seq (WC_seq (WC_region (Lq (q_assign rfl) (WL_nil (thenN (WC_block ?_))))))))))))))))
 refine WC_loopE (α := Nat × List (Option Nat)) (fun (i, ls) => n - i)
  (fun (i, ls) => [(0, .int .i64 n), (1, .int .i64 k), (5, .string (txOf ls)), (6, .int .i64 i)])
  (fun (i, ls) => Ps)
  (fun (i, ls) => As)
  (fun (i, ls) => i ≤ n ∧ ls = lsN k i)
  (0, []) ?_ (.cons rfl (.cons rfl (.cons rfl (.cons rfl (.nil _))))) (Sr) (fun _ h => h) ?_
 ·exact ⟨Nat.zero_le _, rfl⟩
 ·rintro ⟨i, ls⟩ hI
  have hle := hI.1
  have hll : ls.length = i := by rw [hI.2, lsN_len]
  refine WC_seq (WC_seq (WC_region (Lq (q_move rfl) (Lq (q_move rfl) (Lq (q_lss rfl rfl) (WL_nil (thenN (WC_cond rfl (fun h10 => ?_) (fun h10 => ?_)))))))))
  ·refine WC_skip (thenN (WC_seq (WC_block (WC_seq (WC_region (Lq (q_move rfl) (Lq (q_move rfl) (Lq (q_add rfl rfl rfl) (WL_main rfl (OW_call0 (rest_g (IntKind.i64.wrap (k + i)) 26 (by omega)) (.cons rfl (.cons rfl (.nil))) (by decide) mem0 fun u5_3 Lo fs hres => ?_))))))))))
   obtain ⟨rfl, rfl, rfl⟩ := hres
   refine Lq (q_add rfl rfl (wr64 (by omega))) (Lq (q_conv rfl (conv_rune2 _ (by omega))) (Lq (q_assign rfl) (WL_nil (thenN (WC_seq (WC_seq (WC_region (Lq (q_move rfl) (Lq (q_move rfl) (Lq (q_add rfl rfl rfl) (WL_main rfl (OW_call0 (rest_g (IntKind.i64.wrap (k + i)) 7 (by omega)) (.cons rfl (.cons rfl (.nil))) (by decide) mem0 fun u6_3 Lo fs hres => ?_))))))))))))
   obtain ⟨rfl, rfl, rfl⟩ := hres
   refine Lq (q_eql rfl rfl) (WL_nil (thenN (WC_cond rfl (fun h23 => ?_) (fun h23 => ?_))))
   ·refine WC_region (Lq (q_assign rfl) (WL_nil (thenN ?_)))
    try simp only [Bp, Bq] at *
    obtain ⟨lx, hlx⟩ : ∃ lx : Option Nat, lx = none := ⟨_, rfl⟩
    have hv : (8364 : Int) = letV lx := by rw [hlx]; rfl
    have hlt : lx = letAt k i := by rw [hlx]; unfold letAt; rw [if_pos h23] <;> rfl
    have henc : Utf8.encode 8364 = mkB (bytesL lx) := by rw [hv]; exact encode_let lx
    have htl := txOf_size ls
    have hbl := bytesL_len lx
    refine WC_region (Lq (q_move rfl) (Lq (q_move rfl) (Lq (q_conv rfl (fun w => (conv_text2 _ w).trans (by rw [henc]))) (Lq (q_cat rfl rfl (by rw [mkB_size]; omega)) (Lq (q_assign rfl) (WL_nil (blockN (thenN (WC_region (Lq (q_move rfl) (Lq (q_add rfl rfl (wr64 (by omega))) (Lq (q_assign rfl) ?_))))))))))))
    refine WL_nil (thenK ?_)
    have htx : txOf ls ++ mkB (bytesL lx) = txOf (ls ++ [lx]) := txOf_append ls lx
    refine ⟨(i + 1, ls ++ [lx]), ?_, (.cons rfl (.cons rfl (.cons (congrArg (fun z => some (Value.string z)) htx) (.cons rfl (.nil _))))), (Sr), (fun _ h => h)⟩
    exact ⟨by show n - (i + 1) < n - i; omega, by omega, by rw [hI.2, hlt]; rfl⟩
   ·refine WC_skip (thenN ?_)
    try simp only [Bp, Bq] at *
    obtain ⟨lx, hlx⟩ : ∃ lx : Option Nat, lx = some (IntKind.i64.wrap (k + i) % 26).toNat := ⟨_, rfl⟩
    have hv : (97 : Int) + IntKind.i64.wrap (k + i) % (26 : Nat) = letV lx := by rw [hlx]; simp only [letV]; omega
    have hlt : lx = letAt k i := by rw [hlx]; unfold letAt; rw [if_neg h23] <;> rfl
    have henc : Utf8.encode (97 + IntKind.i64.wrap (k + i) % (26 : Nat)) = mkB (bytesL lx) := by rw [hv]; exact encode_let lx
    have htl := txOf_size ls
    have hbl := bytesL_len lx
    refine WC_region (Lq (q_move rfl) (Lq (q_move rfl) (Lq (q_conv rfl (fun w => (conv_text2 _ w).trans (by rw [henc]))) (Lq (q_cat rfl rfl (by rw [mkB_size]; omega)) (Lq (q_assign rfl) (WL_nil (blockN (thenN (WC_region (Lq (q_move rfl) (Lq (q_add rfl rfl (wr64 (by omega))) (Lq (q_assign rfl) ?_))))))))))))
    refine WL_nil (thenK ?_)
    have htx : txOf ls ++ mkB (bytesL lx) = txOf (ls ++ [lx]) := txOf_append ls lx
    refine ⟨(i + 1, ls ++ [lx]), ?_, (.cons rfl (.cons rfl (.cons (congrArg (fun z => some (Value.string z)) htx) (.cons rfl (.nil _))))), (Sr), (fun _ h => h)⟩
    exact ⟨by show n - (i + 1) < n - i; omega, by omega, by rw [hI.2, hlt]; rfl⟩
  ·refine WC_exit (thenExit (thenExit (blockHit (thenN (WC_seq (WC_region (Lq (q_move rfl) (Lq (q_assign rfl) (WL_nil (thenN (WC_ret ?_)))))))))))
   refine ⟨_, [], [], fun Z w hs => .tmp rfl (.nil), ?_, fun Z w hs => hs.out (Sr) (fun _ h => h)⟩
   try simp only [Bp, Bq] at *
   have hin : i = n := by omega
   exact ⟨ls, by omega, rfl, rfl, rfl, by rw [hI.2, hin]⟩


set_option maxRecDepth 10000 in
theorem vtotal_s (v h b n : Nat) (A1 : Option Addr) (c1 : Nat) (A2 : Option Addr) (c2 : Nat) (A3 : Option Addr) (c3 : Nat) (nx : List Int) (ts : List ByteArray) (i : Nat) (hn : n = ts.length) (hi : i ≤ n) (hi2 : i ≤ 1048576) (hb : ∀ j, j ≤ i → cellsN (ts.take j) ≤ 1048576) : Sp Tryz.prog 36 [.pointer (some ⟨v, 0, none⟩), .int .i64 i] [vwP v h b A1 n c1 A2 c2 A3 c3 nx] [RdF De.str A3 c3 ts] (fun u Lo fs => u = .int .i64 (cellsN (ts.take i)) ∧ Lo = [vwP v h b A1 n c1 A2 c2 A3 c3 nx] ∧ fs = []) := by
 subst hn
 refine Sp.of (n := 25) ⟨_, Tryz.func36, rfl, rfl, rfl, rfl⟩ (Nat.le_of_ble_eq_true rfl) fun Ps As => WC_seq (WC_region (Lq (q_assign rfl) (WL_nil (thenN (WC_seq (WC_region (Lq (q_assign rfl) (WL_nil (thenN (WC_seq (WC_seq (WC_region (Lq (q_assign rfl) (WL_nil (thenN (WC_block ?_))))))))))))))))
 refine WC_loopE (α := Nat) (fun k => i - k)
  (fun k => [(0, .pointer (some ⟨v, 0, none⟩)), (1, .int .i64 i), (5, .int .i64 (cellsN (ts.take k) : Nat)), (6, .int .i64 k)])
  (fun k => (vwP v h b A1 ts.length c1 A2 c2 A3 c3 nx :: Ps))
  (fun k => (RdF De.str A3 c3 ts :: As))
  (fun k => k ≤ i)
  0 ?_ (.cons rfl (.cons rfl (.cons rfl (.cons rfl (.nil _))))) (Sk (Sr)) (fun _ h => h) ?_
 ·exact Nat.zero_le _
 ·rintro k hI
  refine WC_seq (WC_seq (WC_region (Lq (q_move rfl) (Lq (q_move rfl) (Lq (q_lss rfl rfl) (WL_nil (thenN (WC_cond rfl (fun h9 => ?_) (fun h9 => ?_)))))))))
  ·refine WC_skip (thenN (WC_seq (WC_block (WC_seq ?_))))
   try simp only [Bp, Bq] at *
   have hkt : k < ts.length := by omega
   have hsn := cellsN_snoc hkt
   have hb1 := hb (k + 1) (by omega)
   refine WC_elem (k := k) M0 (List.getElem?_eq_getElem hkt) (str_open _) fun b5 q5 y5 e5 => ?_
   cases e5
   refine WC_region (Lq (q_move rfl) (Lq (q_nil rfl) (Lq (q_field (o' := 4) Un34 rfl ti31 rfl rfl) (Lq (q_load1 Un31 rfl rfl own0 rfl) (Lq (q_move rfl) (Lq (q_idxRd Un31 ti9 rfl rfl (by omega) (by omega)) (Lq (q_loadF1 (j := 0) Un9 rfl rfl M0 rfl rfl) (WL_main rfl (OW_rangeS Un9 rfl (by decide) fun b19 => WL_nil (thenN (WC_block ?_)))))))))))
   refine WC_loopE (α := Nat × Nat) (fun (p, j) => ts[k].size - p)
    (fun (p, j) => [(0, .pointer (some ⟨v, 0, none⟩)), (1, .int .i64 i), (5, .int .i64 j), (6, .int .i64 k), (19, .pointer (some ⟨b19, 0, none⟩))])
    (fun (p, j) => ([(b19, .stringIter ts[k] p)] :: vwP v h b A1 ts.length c1 A2 c2 (some ⟨b5, q5, none⟩) c3 nx :: Ps))
    (fun (p, j) => (RdF De.str (some ⟨b5, q5, none⟩) c3 ts :: As))
    (fun (p, j) => ToI ts[k] (cellsN (ts.take k)) p j)
    (0, cellsN (ts.take k)) ?_ (.cons rfl (.cons rfl (.cons rfl (.cons rfl (.cons rfl (.nil _)))))) (Sk (Sk (Sr))) T1 ?_
   ·exact ⟨Nat.zero_le _, rfl⟩
   ·rintro ⟨p, j⟩ hJ
    have hle := hJ.le
    have hje := hJ.eq
    refine WC_seq ?_
    by_cases hp : p < ts[k].size
    ·refine WC_region (WL_main rfl (OW_nextS1 rfl hp (.z) (by decide) (Lq (q_extract (vs := [_, _, _]) rfl rfl) (WL_nil (thenN (WC_seq (WC_true rfl rfl (WC_skip (thenN (WC_block (WC_region (Lq (q_move rfl) (Lq (q_add rfl rfl (wr64 (by omega)) (c := ((j + 1 : Nat) : Int))) (Lq (q_assign rfl) (WL_nil (blockN (thenK ?_)))))))))))))))))
     have hd := decode_pos ts[k] p
     have hd2 := decode_leP hp
     refine ⟨(p + (Utf8.decode ts[k] p).2, j + 1), ?_, (.cons rfl (.cons rfl (.cons rfl (.cons rfl (.cons rfl (.nil _)))))), (Sk (Sk (Sr))), (fun _ h => h)⟩
     refine ⟨by show ts[k].size - (p + (Utf8.decode ts[k] p).2) < ts[k].size - p; omega, hd2, ?_⟩
     have := hJ.eq
     rw [runesAt_next hp, List.length_cons] at this
     show j + 1 + _ = _
     omega
    ·refine WC_region (WL_main rfl (OW_nextS0 rfl own0 hp (by decide) (Lq (q_extract (vs := [_]) rfl rfl) (WL_nil (thenN (WC_seq (WC_false rfl rfl (WC_exit (thenExit (thenExit (blockHit (blockN (thenN (WC_region (Lq (q_move rfl) (Lq (q_add rfl rfl (wr64 (by omega)) (c := ((k + 1 : Nat) : Int))) (Lq (q_assign rfl) (WL_nil (thenK ?_)))))))))))))))))))
     have hjj : j = cellsN (ts.take (k + 1)) := by
      have := hJ.eq
      rw [runesAt_end hp, List.length_nil] at this
      rw [hsn]; omega
     refine ⟨k + 1, ?_, (.cons rfl (.cons rfl (.cons (congrArg (fun z : Nat => some (Value.int .i64 z)) hjj) (.cons rfl (.nil _))))), (Sd (Sk (Sr))), (fun _ h => h)⟩
     exact ⟨by show i - (k + 1) < i - k; omega, by omega⟩
  ·refine WC_exit (thenExit (thenExit (blockHit (thenN (WC_seq (WC_region (Lq (q_move rfl) (Lq (q_assign rfl) (WL_nil (thenN (WC_ret ?_)))))))))))
   refine ⟨_, [_], [], fun Z w hs => .tmp rfl (.nil), ?_, fun Z w hs => hs.out (Sk (Sr)) (fun _ h => h)⟩
   simp only [decide_eq_false_iff_not] at h9
   obtain rfl : k = i := by omega
   exact ⟨rfl, rfl, rfl⟩


set_option maxRecDepth 10000 in
theorem vedits_s (v h b n : Nat) (A1 : Option Addr) (c1 : Nat) (A2 : Option Addr) (c2 : Nat) (A3 : Option Addr) (c3 : Nat) (nx : List Int) (ids : List (Int × Int)) (ks : List Int) (i : Nat) (hn : n = ids.length) (hk : ks.length = ids.length) (hi : i ≤ n) (hi2 : i ≤ 1048576) : Sp Tryz.prog 5 [.pointer (some ⟨v, 0, none⟩), .int .i64 i] [vwP v h b A1 n c1 A2 c2 A3 c3 nx] [RdF idD A1 c1 ids, RdF (De.int .i64) A2 c2 ks] (fun u Lo fs => ∃ A c, u = .slice A (editsL (ids.take i) (ks.take i)).length c ∧ Lo = [vwP v h b A1 n c1 A2 c2 A3 c3 nx] ∧ fs = [RdF idD A c (editsL (ids.take i) (ks.take i))]) := by
 subst hn
 refine Sp.of (n := 31) ⟨_, Tryz.func5, rfl, rfl, rfl, rfl⟩ (Nat.le_of_ble_eq_true rfl) fun Ps As => WC_seq (WC_region (Lq (q_assign rfl) (WL_nil (thenN (WC_seq (WC_region (Lq (q_assign rfl) (WL_nil (thenN (WC_seq (WC_seq (WC_region (Lq (q_assign rfl) (WL_nil (thenN (WC_block (WC_nilPart ?_)))))))))))))))))
 refine WC_loopE (α := Nat × Value × Part) (fun (k, w, p) => i - k)
  (fun (k, w, p) => [(0, .pointer (some ⟨v, 0, none⟩)), (1, .int .i64 i), (5, w), (6, .int .i64 k)])
  (fun (k, w, p) => (p :: vwP v h b A1 ids.length c1 A2 c2 A3 c3 nx :: Ps))
  (fun (k, w, p) => (RdF idD A1 c1 ids :: RdF (De.int .i64) A2 c2 ks :: As))
  (fun (k, w, p) => k ≤ i ∧ Row 37 2 w (editsL (ids.take k) (ks.take k)).length (flatC idC (editsL (ids.take k) (ks.take k))) p)
  (0, .slice none 0 0, []) ?_ (.cons rfl (.cons rfl (.cons rfl (.cons rfl (.nil _))))) (Sk (Sk (Sr))) (fun _ h => h) ?_
 ·exact ⟨Nat.zero_le _, Row.nil _ _⟩
 ·rintro ⟨k, w, pa⟩ hI
  refine WC_seq (WC_seq (WC_region (Lq (q_move rfl) (Lq (q_move rfl) (Lq (q_lss rfl rfl) (WL_nil (thenN (WC_cond rfl (fun h9 => ?_) (fun h9 => ?_)))))))))
  ·refine WC_skip (thenN (WC_seq (WC_block (WC_seq ?_))))
   try simp only [Bp, Bq] at *
   have hkt : k < ids.length := by omega
   have hkk : k < ks.length := by omega
   have hsn := editsL_snoc hkt hkk
   have hel := editsL_len (ids.take k) (ks.take k)
   rw [List.length_take] at hel
   refine WC_elem (k := k) M1 (List.getElem?_eq_getElem hkk) (i64_open _) fun b5 q5 y5 e5 => ?_
   cases e5
   refine WC_region (Lq (q_move rfl) (Lq (q_nil rfl) (Lq (q_field (o' := 3) Un34 rfl ti30 rfl rfl) (Lq (q_load1 Un30 rfl rfl (ownS (own0)) rfl) (Lq (q_move rfl) (Lq (q_idxRd Un30 ti3 rfl rfl (by omega) (by omega)) (Lq (q_loadF1 (j := 0) Un3 rfl rfl M0 rfl rfl) (Lq (q_neq rfl rfl) (WL_nil (thenN ?_))))))))))
   refine WC_cond rfl (fun h19 => ?_) (fun h19 => ?_)
   ·refine WC_elem (k := k) M1 (List.getElem?_eq_getElem hkt) (id_open _) fun b6 q6 y6 e6 => ?_
    cases e6
    refine WC_region (Lq (q_move rfl) (Lq (q_move rfl) (Lq (q_nil rfl) (Lq (q_field (o' := 2) Un34 rfl ti26 rfl rfl) (Lq (q_load1 Un26 rfl rfl (ownS (own0)) rfl) (Lq (q_move rfl) (Lq (q_idxRd Un26 ti37 rfl rfl (by omega) (by omega)) (Lq (q_loadFN (k := 0) (vs := [_, _]) Un37 rfl ti37 rfl M0 rfl rfl rfl) (WL_main rfl (OW_slice1 (cs := [_, _]) Un26 ti37 (by decide) (by decide) rfl rfl rfl rfl (by decide) fun b28 => ?_))))))))))
    refine WL_main rfl (OW_append1 (news := [_, _]) Un26 ti37 rfl (by decide) rfl rfl hI.2 own0 rfl rfl (by omega) (by unfold maxLen; omega) (by decide) (DelAt.perm (.s (.z))) fun v29 p29 hr29 => Lq (q_assign rfl) (WL_nil (blockN (thenN (WC_region (Lq (q_move rfl) (Lq (q_add rfl rfl (wr64 (by omega)) (c := ((k + 1 : Nat) : Int))) (Lq (q_assign rfl) (WL_nil (thenK ?_))))))))))
    have hk2 : (!(ks[k] == 2)) = true := h19
    rw [hk2, if_pos rfl] at hsn
    refine ⟨(k + 1, v29, p29), ?_, (.cons rfl (.cons rfl (.cons rfl (.cons rfl (.nil _))))), (Sk (Sd (Sk (Sr)))), T2⟩
    refine ⟨by show i - (k + 1) < i - k; omega, by omega, ?_⟩
    show Row 37 2 v29 (editsL (ids.take (k + 1)) (ks.take (k + 1))).length _ p29
    rw [hsn, List.length_append, flatC_append, flatC_one]; exact hr29
   ·refine WC_skip (blockN (thenN (WC_region (Lq (q_move rfl) (Lq (q_add rfl rfl (wr64 (by omega)) (c := ((k + 1 : Nat) : Int))) (Lq (q_assign rfl) (WL_nil (thenK ?_))))))))
    have hk2 : (!(ks[k] == 2)) = false := h19
    rw [hk2] at hsn
    simp only [Bool.false_eq_true, if_false, List.append_nil] at hsn
    refine ⟨(k + 1, w, pa), ?_, (.cons rfl (.cons rfl (.cons rfl (.cons rfl (.nil _))))), (Sk (Sk (Sr))), T1⟩
    refine ⟨by show i - (k + 1) < i - k; omega, by omega, ?_⟩
    show Row 37 2 w (editsL (ids.take (k + 1)) (ks.take (k + 1))).length _ pa
    rw [hsn]; exact hI.2
  ·refine WC_exit (thenExit (thenExit (blockHit (thenN (WC_seq ?_)))))
   simp only [decide_eq_false_iff_not] at h9
   obtain rfl : k = i := by omega
   refine WC_fact (A := RepsF idD (editsL (ids.take k) (ks.take k)) ((editsL (ids.take k) (ks.take k)).map idC)) (fun Z w _ => reps_of (fun _ _ _ => rfl) _ Z w) (WC_freeze (e := idD) (xs := (editsL (ids.take k) (ks.take k))) (css := ((editsL (ids.take k) (ks.take k)).map idC)) hI.2 (.z) rfl M0 fun A9 c9 e9 => ?_)
   cases e9
   refine WC_region (Lq (q_move rfl) (Lq (q_assign rfl) (WL_nil (thenN (WC_ret ?_)))))
   refine ⟨_, [_], [_], fun Z w hs => .tmp rfl (.nil), ?_, fun Z w hs => hs.out (Sk (Sr)) (memc M0 T2)⟩
   exact ⟨_, _, rfl, rfl, rfl⟩

end Go.Proofs.YtcjbjkbghgjmdaaGreatDoor
/- Walks: some. -/
namespace Go.Proofs.YtcjbjkbghgjmdaaGreatDoor
open Go Go.GW
def RestP (a : Int) (m : Nat) : Value → List Part → List Fact → Prop := fun v Lo fs => ∃ r : Nat, (r : Int) = a % m ∧ r < m ∧ v = .int .i64 r ∧ Lo = [] ∧ fs = []
theorem rest_r (a : Int) (m : Nat) (hm : 0 < m ∧ m ≤ 1099511627776) : Sp Tryz.prog 8 [.int .i64 a, .int .i64 m] [] [] (RestP a m) := by
 refine (rest_g a m hm).mono ?_
 rintro v Lo fs ⟨rfl, rfl, rfl⟩
 have h1 := Int.emod_nonneg a (show (m : Int) ≠ 0 by omega)
 have h2 := Int.emod_lt_of_pos a (show (0 : Int) < m by omega)
 exact ⟨(a % m).toNat, by omega, by omega, by rw [Int.toNat_of_nonneg h1], rfl, rfl⟩
theorem bd37_0_1Xw36 (x0_ : Int) (x1_ : Int) (w : World) : (Instr.build 119 #[(0, .int .i64 x0_), (1, .int .i64 x1_)]).run Tryz.prog w = .ok (.agg #[.int .i64 x0_, .int .i64 x1_]) w := by kernel_rfl

set_option maxRecDepth 10000 in
theorem some_s (n : Nat) (a c : Int) (hn : 0 < n ∧ n ≤ 60000) : Sp Tryz.prog 40 [.int .i64 n, .int .i64 a, .int .i64 c] [] [] (fun v Lo fs => ∃ (A : Option Addr) (cc : Nat) (xs : List Rg), v = .slice A xs.length cc ∧ Lo = [] ∧ fs = [RdF rgD A cc xs] ∧ Pls n xs ∧ xs ≠ [] ∧ xs = someL n a c) := by
 refine Sp.of (n := 64) ⟨_, Tryz.func40, rfl, rfl, rfl, rfl⟩ (Nat.le_of_ble_eq_true rfl) fun Ps As => WC_seq (WC_region (Lq (q_assign rfl) (WL_nil (thenN (WC_seq (WC_region (Lq (q_assign rfl) (WL_nil (thenN (WC_seq (WC_seq (WC_region (Lq (q_assign rfl) (WL_nil (thenN (WC_block (WC_nilPart ?_)))))))))))))))))
 refine WC_loopE (α := Nat × List Rg × Value × Part) (fun (q, xs, v, p) => n - q)
  (fun (q, xs, v, p) => [(0, .int .i64 n), (1, .int .i64 a), (2, .int .i64 c), (7, v), (8, .int .i64 q)])
  (fun (q, xs, v, p) => (p :: Ps))
  (fun (q, xs, v, p) => As)
  (fun (q, xs, v, p) => SoI n q xs v p ∧ xs = smN a c q)
  (0, [], .slice none 0 0, []) ?_ (.cons rfl (.cons rfl (.cons rfl (.cons rfl (.cons rfl (.nil _)))))) (Sk (Sr)) (fun _ h => h) ?_
 ·exact ⟨⟨Nat.zero_le _, ⟨trivial, fun r hr => by cases hr⟩, Row.nil _ _⟩, rfl⟩
 ·rintro ⟨q, xs, v, pa⟩ ⟨hI, hsq⟩
  obtain ⟨Av, cv, rfl⟩ := hI.row.slice
  refine WC_seq (WC_seq (WC_region (Lq (q_move rfl) (Lq (q_move rfl) (Lq (q_lss rfl rfl) (WL_nil (thenN (WC_cond rfl (fun h12 => ?_) (fun h12 => ?_)))))))))
  ·refine WC_skip (thenN (WC_seq (WC_block (WC_seq (WC_seq ?_)))))
   try simp only [Bp, Bq] at *
   have hql := hI.le
   have hxl := hI.len
   have hsn : smN a c (q + 1) = stepS a c q (smN a c q) := rfl
   rw [← hsq] at hsn
   refine WC_region (Lq (q_move rfl) (Lq (q_move rfl) (WL_main rfl (OW_call0 (rest_r a 7 (by omega)) (.cons rfl (.cons rfl (.nil))) (by decide) mem0 fun u5_2 Lo fs hres => ?_))))
   obtain ⟨r17, hr17, hm17, rfl, rfl, rfl⟩ := hres
   have hmq : q * r17 ≤ 60000 * 7 := Nat.mul_le_mul (by omega) (by omega)
   refine Lq (q_mul rfl rfl (mul_nat q r17 (by omega))) (Lq (q_move rfl) (WL_main rfl (OW_call0 (rest_r c 11 (by omega)) (.cons rfl (.cons rfl (.nil))) (by decide) mem0 fun u5_5 Lo fs hres => ?_)))
   obtain ⟨r20, hr20, hm20, rfl, rfl, rfl⟩ := hres
   refine Lq (q_add rfl rfl (wr64 (by omega)) (c := ((q * r17 + r20 : Nat) : Int))) (WL_main rfl (OW_call0 (rest_r ((q * r17 + r20 : Nat) : Int) 11 (by omega)) (.cons rfl (.cons rfl (.nil))) (by decide) mem0 fun u5_7 Lo fs hres => ?_))
   obtain ⟨r22, hr22, hm22, rfl, rfl, rfl⟩ := hres
   refine Lq (q_geq rfl rfl) (WL_nil (thenN (WC_cond rfl (fun h23 => ?_) (fun h23 => ?_))))
   ·refine WC_exit (thenExit (blockHit (thenN (WC_region (Lq (q_move rfl) (Lq (q_add rfl rfl (wr64 (by omega)) (c := ((q + 1 : Nat) : Int))) (Lq (q_assign rfl) (WL_nil (thenK ?_)))))))))
    refine ⟨(q + 1, xs, _, pa), ?_, (.cons rfl (.cons rfl (.cons rfl (.cons rfl (.cons rfl (.nil _)))))), (Sk (Sr)), (fun _ h => h)⟩
    exact ⟨by show n - (q + 1) < n - q; omega, ⟨by omega, pls_mono hI.pls (by omega), hI.row⟩, by rw [hsn, stepS_skip hr17 hr20 hr22 (by simpa using h23)]⟩
   ·refine WC_skip (thenN (WC_seq (WC_region (Lq (q_move rfl) (Lq (q_len Un45 rfl) (Lq (q_assign rfl) (WL_nil (thenN (WC_seq ?_)))))))))
    have hrow := hI.row
    have hpls := hI.pls
    rcases List.eq_nil_or_concat xs with rfl | ⟨ys, r, rfl⟩
    ·refine WC_region (Lq (q_move rfl) (Lq (q_gtr rfl rfl) (Lq (q_move rfl) (Ln rfl rfl rfl rfl (Ln rfl rfl rfl rfl (Ln rfl rfl rfl rfl (Ln rfl rfl rfl rfl (Ln rfl rfl rfl rfl (Ln rfl rfl rfl rfl ?_)))))))))
     refine Ln rfl rfl rfl rfl (Ln rfl rfl rfl rfl (Lq (q_pickF rfl rfl rfl) (WL_nil (thenN (WC_false rfl rfl (WC_region (Lq (q_move rfl) (Lq (q_move rfl) (Lq (q_move rfl) (Lq (q_add rfl rfl (wr64 (by omega))) (Lq (q_build (.cons rfl (.cons rfl (.nil))) (bd37_0_1Xw36 _ _)) (WL_main rfl (OW_slice1 (cs := [_, _]) Un45 ti119 (by decide) (by decide) rfl rfl rfl rfl (by decide) fun b50 => ?_)))))))))))))
     refine WL_main rfl (OW_append1 (news := [_, _]) Un45 ti119 rfl (by decide) rfl rfl hrow own0 rfl rfl (by omega) (by unfold maxLen; omega) (by decide) (DelAt.perm (.s (.z))) fun v51 p51 hr51 => Lq (q_assign rfl) (WL_nil (blockN (thenN (WC_region (Lq (q_move rfl) (Lq (q_add rfl rfl (wr64 (by omega)) (c := ((q + 1 : Nat) : Int))) (Lq (q_assign rfl) (WL_nil (thenK ?_))))))))))
     refine ⟨(q + 1, [] ++ [⟨q, q + 1⟩], v51, p51), ?_, (.cons rfl (.cons rfl (.cons rfl (.cons rfl (.cons rfl (.nil _)))))), (Sk (Sd (Sr))), (fun _ h => h)⟩
     refine ⟨by show n - (q + 1) < n - q; omega, ⟨by omega, pls_more hpls (fun r hr => by cases hr), ?_⟩, by rw [hsn, stepS_nil hr17 hr20 hr22 (by simpa using h23)]⟩
     rw [rgs_append, rgs_one, List.length_append]; exact hr51
    ·rw [List.concat_eq_append] at *
     have hn : (ys ++ [r]).length = ys.length + 1 := by simp
     obtain ⟨hlen, ⟨_, h0, _⟩ | ⟨bo, cap, jk, hv, hp, h1, h2, h3⟩⟩ := hI.row
     ·omega
     obtain ⟨rfl, _, rfl⟩ := Value.slice.inj hv
     subst hp
     have hcs : (rgs (ys ++ [r]) ++ jk).length = ((ys ++ [r]).length) * 2 + jk.length := by rw [List.length_append, hlen]
     have hix : ((((ys ++ [r]).length : Nat) : Int) - 1).toNat = ys.length := by omega
     refine WC_region (Lq (q_move rfl) (Lq (q_gtr rfl rfl) (Lq (q_move rfl) (Lg rfl rfl rfl (by simp) (q_move rfl) (Lg rfl rfl rfl (by simp) (q_move rfl) (Lg rfl rfl rfl (by simp) (q_sub rfl rfl (wr64 (by omega))) (Lg rfl rfl rfl (by simp) (q_idxOwn Un45 ti119 rfl rfl (by omega) (by omega)) (Lg rfl rfl rfl (by simp) (q_field (o' := _ + 1) Un119 rfl ti3 rfl rfl) (Lg rfl rfl rfl (by simp) (q_load1 Un3 rfl rfl own0 (by rw [hix]; exact rgs_last ys r jk)) ?_)))))))))
     refine Lg rfl rfl rfl (by simp) (q_move rfl) (Lg rfl rfl rfl (by simp) (q_eql rfl rfl) (Lq (q_pickT rfl (by simp) rfl) (WL_nil (thenN (WC_cond rfl (fun h37 => ?_) (fun h37 => ?_))))))
     ·refine WC_region (Lq (q_move rfl) (Lq (q_move rfl) (Lq (q_sub rfl rfl (wr64 (by omega))) (Lq (q_move rfl) (Lq (q_add rfl rfl (wr64 (by omega))) (Lq (q_idxOwn Un45 ti119 rfl rfl (by omega) (by omega)) (Lq (q_field (o' := _ + 1) Un119 rfl ti3 rfl rfl) (WL_main rfl (OW_storeC ti3 rfl rfl rfl (by rw [hcs, hix]; omega) (.z) (WL_nil (blockN (thenN (WC_region ?_)))))))))))))
      refine Lq (q_move rfl) (Lq (q_add rfl rfl (wr64 (by omega)) (c := ((q + 1 : Nat) : Int))) (Lq (q_assign rfl) (WL_nil (thenK ?_))))
      refine ⟨(q + 1, ys ++ [⟨r.lo, q + 1⟩], _, _), ?_, (.cons rfl (.cons rfl (.cons rfl (.cons rfl (.cons rfl (.nil _)))))), (Sk (Sr)), (fun _ h => h)⟩
      refine ⟨by show n - (q + 1) < n - q; omega, ⟨by omega, pls_join hpls (by simpa using h37), ?_⟩, by rw [hsn, stepS_join hr17 hr20 hr22 (by simpa using h23) (by simpa using h37)]⟩
      rw [hix, rgs_set, show (ys ++ [r]).length = (ys ++ [(⟨r.lo, (q : Int) + 1⟩ : Rg)]).length from by simp]
      refine ⟨rgs_length _, .inr ⟨bo, _, jk, rfl, rfl, ?_, by simpa using h2, h3⟩⟩
      rw [List.length_append, rgs_length] at h1 ⊢
      simpa using h1
     ·refine WC_region (Lq (q_move rfl) (Lq (q_move rfl) (Lq (q_move rfl) (Lq (q_add rfl rfl (wr64 (by omega))) (Lq (q_build (.cons rfl (.cons rfl (.nil))) (bd37_0_1Xw36 _ _)) (WL_main rfl (OW_slice1 (cs := [_, _]) Un45 ti119 (by decide) (by decide) rfl rfl rfl rfl (by decide) fun b50 => WL_main rfl (OW_append1 (news := [_, _]) Un45 ti119 rfl (by decide) rfl rfl hrow own0 rfl rfl (by omega) (by unfold maxLen; omega) (by decide) (DelAt.perm (.s (.z))) fun v51 p51 hr51 => Lq (q_assign rfl) (WL_nil (blockN (thenN (WC_region ?_))))))))))))
      refine Lq (q_move rfl) (Lq (q_add rfl rfl (wr64 (by omega)) (c := ((q + 1 : Nat) : Int))) (Lq (q_assign rfl) (WL_nil (thenK ?_))))
      refine ⟨(q + 1, (ys ++ [r]) ++ [⟨q, q + 1⟩], v51, p51), ?_, (.cons rfl (.cons rfl (.cons rfl (.cons rfl (.cons rfl (.nil _)))))), (Sk (Sd (Sr))), (fun _ h => h)⟩
      refine ⟨by show n - (q + 1) < n - q; omega, ⟨by omega, pls_more hpls (fun r2 hr2 => by rw [List.getLast?_concat] at hr2; obtain rfl := Option.some.inj hr2; simpa using h37), ?_⟩, by rw [hsn, stepS_more hr17 hr20 hr22 (by simpa using h23) (by simpa using h37)]⟩
      rw [rgs_append, rgs_one, List.length_append]; exact hr51
  ·refine WC_exit (thenExit (thenExit (blockHit (thenN (WC_seq (WC_seq ?_))))))
   simp only [decide_eq_false_iff_not] at h12
   obtain rfl : q = n := by have := hI.le; omega
   have hxl := hI.len
   refine WC_region (Lq (q_move rfl) (Lq (q_len Un45 rfl) (Lq (q_eql rfl rfl) (WL_nil (thenN (WC_cond rfl (fun h54 => ?_) (fun h54 => ?_)))))))
   ·refine WC_region (Lq (q_move rfl) (Lq (q_move rfl) (Lq (q_move rfl) (WL_main rfl (OW_call0 (rest_r c q (by omega)) (.cons rfl (.cons rfl (.nil))) (by decide) mem0 fun u11_3 Lo fs hres => ?_)))))
    obtain ⟨r58, hr58, hm58, rfl, rfl, rfl⟩ := hres
    refine Lq (q_move rfl) (Lq (q_build (.cons rfl (.cons rfl (.nil))) (bd37_0_1Xw36 _ _)) (WL_main rfl (OW_slice1 (cs := [_, _]) Un45 ti119 (by decide) (by decide) rfl rfl rfl rfl (by decide) fun b61 => WL_main rfl (OW_append1 (news := [_, _]) Un45 ti119 rfl (by decide) rfl rfl hI.row own0 rfl rfl (by omega) (by unfold maxLen; omega) (by decide) (DelAt.perm (.s (.z))) fun v62 p62 hr62 => Lq (q_assign rfl) (WL_nil (thenN (WC_seq ?_)))))))
    have hz : xs = [] := by simpa using h54
    subst hz
    have hfx : Pls q [⟨(r58 : Int), (q : Int)⟩] := ⟨⟨by show (0 : Int) ≤ r58; omega, by show (r58 : Int) < q; omega, trivial⟩, fun x hx => by rw [List.mem_singleton] at hx; subst hx; exact Int.le_refl _⟩
    have hne : [(⟨(r58 : Int), (q : Int)⟩ : Rg)] ≠ [] := by simp
    have hfn : [(⟨(r58 : Int), (q : Int)⟩ : Rg)] = someL q a c := by unfold someL; rw [← hsq, if_pos rfl, ← hr58, Int.toNat_natCast]
    refine WC_fact (A := RepsF rgD [⟨(r58 : Int), (q : Int)⟩] (([⟨(r58 : Int), (q : Int)⟩] : List Rg).map rgC)) (fun Z w _ => rgs_reps _ Z w) (WC_freeze (e := rgD) (xs := [⟨(r58 : Int), (q : Int)⟩]) (css := (([⟨(r58 : Int), (q : Int)⟩] : List Rg).map rgC)) hr62 (.z) rfl M0 fun A9 c9 e9 => ?_)
    cases e9
    refine WC_region (Lq (q_move rfl) (Lq (q_assign rfl) (WL_nil (thenN (WC_ret ?_)))))
    refine ⟨_, [], [_], fun Z w hs => .tmp rfl (.nil), ?_, fun Z w hs => hs.out (Sd (Sr)) (memc M0 T2)⟩
    exact ⟨_, _, _, rfl, rfl, rfl, hfx, hne, hfn⟩
   ·refine WC_skip (thenN (WC_seq ?_))
    have hfx := hI.pls
    have hne : xs ≠ [] := fun e => by rw [e] at h54; simp at h54
    have hfn : xs = someL q a c := by unfold someL; rw [← hsq, if_neg hne]
    refine WC_fact (A := RepsF rgD xs ((xs : List Rg).map rgC)) (fun Z w _ => rgs_reps _ Z w) (WC_freeze (e := rgD) (xs := xs) (css := ((xs : List Rg).map rgC)) hI.row (.z) rfl M0 fun A9 c9 e9 => ?_)
    cases e9
    refine WC_region (Lq (q_move rfl) (Lq (q_assign rfl) (WL_nil (thenN (WC_ret ?_)))))
    refine ⟨_, [], [_], fun Z w hs => .tmp rfl (.nil), ?_, fun Z w hs => hs.out (Sr) (memc M0 T2)⟩
    exact ⟨_, _, _, rfl, rfl, rfl, hfx, hne, hfn⟩

end Go.Proofs.YtcjbjkbghgjmdaaGreatDoor
/- Walks: makes. -/
namespace Go.Proofs.YtcjbjkbghgjmdaaGreatDoor
open Go Go.GW
def MakeD (P : Part) (H : Hist) (i : Nat) (nx : List Int) (m : Mv) : Value → List Part → List Fact → Prop := fun v Lo fs => ∃ (o : GOp) (Ao : Option Addr) (co : Nat) (x : Int), v = opV o Ao co ∧ Lo = [P] ∧ fs = [RdF rgD Ao co o.rs] ∧ o.c = 1 + m.client % 8 ∧ nx[o.c.toNat]? = some x ∧ o.n = x + 1 ∧ Body H i o ∧ o = makeF H i nx m
theorem bd25_0_1Xw37 (x0_ : Int) (x1_ : Int) (w : World) : (Instr.build 37 #[(0, .int .i64 x0_), (1, .int .i64 x1_)]).run Tryz.prog w = .ok (.agg #[.int .i64 x0_, .int .i64 x1_]) w := by kernel_rfl

set_option maxRecDepth 10000 in
theorem makes_d (N : Int) (n : Nat) (X : List Ce) (H : Hist) (v h b : Nat) (A1 : Option Addr) (c1 : Nat) (A2 : Option Addr) (c2 : Nat) (A3 : Option Addr) (c3 : Nat) (nx : List Int) (m : Mv) (i : Nat) (hV : VI N n H X nx) (hN : N ≤ 1000) (hi : i ≤ n) : Sp Tryz.prog 17 [.pointer (some ⟨v, 0, none⟩), mvV m, .int .i64 i] [vwP v h b A1 H.ents.length c1 A2 c2 A3 c3 nx] [RdF idD A1 c1 (idsOf H.ents), RdF (De.int .i64) A2 c2 (kindsOf H.ents), RdF De.str A3 c3 (textsOf H.ents)] (MakeD (vwP v h b A1 H.ents.length c1 A2 c2 A3 c3 nx) H i nx m) := by
 have hnl := hV.len
 have hn2 := hV.le
 have hcb := cells_before hV.hv i
 have hcB := hV.cellsB i
 have hel := editsL_len ((idsOf H.ents).take i) ((kindsOf H.ents).take i)
 have hil : (idsOf H.ents).length = H.ents.length := by simp [idsOf]
 have hkl : (kindsOf H.ents).length = H.ents.length := by simp [kindsOf]
 have htl : (textsOf H.ents).length = H.ents.length := by simp [textsOf]
 rw [List.length_take] at hel
 refine Sp.of (n := 93) ⟨_, Tryz.func17, rfl, rfl, rfl, rfl⟩ (Nat.le_of_ble_eq_true rfl) fun Ps As => WC_seq (WC_region (WL_main rfl (OW_box (cs := [_, _, _, _, _, _]) rfl rfl (by decide) fun b4 => WL_main rfl (OW_alloc (cs := [_, _, _, _, _, _, _, _, _]) ti47 rfl (by decide) fun b6 => WL_nil (thenN (WC_seq (WC_fact (A := RdF rgD none 0 []) (fun Z w hs => RdS.nil _ _ _) (WC_region (Lq (q_move rfl) (Lq (q_move rfl) (WL_main rfl (OW_call1 (vtotal_s v h b H.ents.length A1 c1 A2 c2 A3 c3 nx (textsOf H.ents) i (by omega) (by omega) (by omega) (fun j _ => by have := hV.cellsB j; omega)) (.cons rfl (.cons rfl (.nil))) (by decide) (.s (.s (.z))) (memc M3 mem0) fun u1_2 Lo fs hres => ?_))))))))))))
 obtain ⟨rfl, rfl, rfl⟩ := hres
 refine Lq (q_assign rfl) (WL_nil (thenN (WC_seq (WC_region (Lq (q_move rfl) (Lq (q_move rfl) (WL_main rfl (OW_call1 (vedits_s v h b H.ents.length A1 c1 A2 c2 A3 c3 nx (idsOf H.ents) (kindsOf H.ents) i (by omega) (by omega) (by omega) (by omega)) (.cons rfl (.cons rfl (.nil))) (by decide) (.z) (memc M1 (memc M2 mem0)) fun u2_2 Lo fs hres => ?_))))))))
 obtain ⟨A8, c8, rfl, rfl, rfl⟩ := hres
 refine Lq (q_assign rfl) (WL_nil (thenN (WC_seq (WC_region (Lq (q_field (o' := 2) Un63 rfl ti3 rfl rfl) (Lq (q_load1 Un3 rfl rfl (ownS (ownS (own0))) rfl) (WL_main rfl (OW_call0 (rest_r m.client 8 (by omega)) (.cons rfl (.cons rfl (.nil))) (by decide) mem0 fun u3_2 Lo fs hres => ?_))))))))
 obtain ⟨r20, hr20, hm20, rfl, rfl, rfl⟩ := hres
 have hxl : 1 + r20 < nx.length := by rw [hV.nxl]; omega
 obtain ⟨x, hx⟩ : ∃ x, nx[1 + r20]? = some x := ⟨_, List.getElem?_eq_getElem hxl⟩
 have hx0 := hV.nx0 x (List.mem_of_getElem? hx)
 refine Lq (q_add rfl rfl (wr64 (by omega)) (c := ((1 + r20 : Nat) : Int))) (Lq (q_assign rfl) (WL_nil (thenN (WC_seq (WC_region (WL_main rfl (OW_alloc (cs := [_, _, _, _, _, _, _, _, _]) ti47 rfl (by decide) fun b10 => WL_nil (thenN (WC_seq (WC_region (Lq (q_move rfl) (Lq (q_move rfl) (Lq (q_move rfl) (Lq (q_nil rfl) (Lq (q_field (o' := 5) Un34 rfl ti32 rfl rfl) ?_)))))))))))))))
 refine Lq (q_idxA Un32 ti3 rfl rfl (by omega) (by omega) rfl) (Lq (q_load1 Un3 rfl rfl (ownS (own0)) (vw_next hx)) (Lq (q_add rfl rfl (wr64 (by omega))) (Lq (q_build (.cons rfl (.cons rfl (.nil))) (bd25_0_1Xw37 _ _)) (Lq (q_field (o' := 0) Un47 rfl ti44 rfl rfl) (Lq (q_field (o' := 0) Un44 rfl ti37 rfl rfl) (WL_main rfl (OW_storeN (cs' := [_, _, _, _, _, _, _, _, _]) (vs := [_, _]) ti37 rfl rfl rfl rfl rfl (Nat.le_of_ble_eq_true rfl) (.z) (WL_nil (thenN (WC_seq (WC_region (Lq (q_field (o' := 0) Un63 rfl ti3 rfl rfl) (Lq (q_load1 Un3 rfl rfl (ownS (ownS (ownS (own0)))) rfl) ?_)))))))))))))
 refine WL_main rfl (OW_call0 (rest_r m.kind 3 (by omega)) (.cons rfl (.cons rfl (.nil))) (by decide) mem0 fun u6_2 Lo fs hres => ?_)
 obtain ⟨r35, hr35, hm35, rfl, rfl, rfl⟩ := hres
 refine Lq (q_assign rfl) (WL_nil (thenN (WC_seq (WC_block (WC_seq (WC_region (Lq (q_move rfl) (Lq (q_eql rfl rfl) (Lq (q_move rfl) (WL_guard (t := 55) rfl (fun g55 => ?_) (fun g55 => ?_)))))))))))
 ·refine Lg rfl rfl rfl g55 (q_move rfl) (Lg rfl rfl rfl g55 (q_gtr rfl rfl) (Lq (q_pickT rfl g55 rfl) (Lq (q_assign rfl) (WL_nil (thenN (WC_cond rfl (fun h52 => ?_) (fun h52 => ?_)))))))
  ·have hT0 : 0 < cellsN ((textsOf H.ents).take i) := by revert h52; simp
   refine WC_seq (WC_region (Lq (q_field (o' := 0) Un47 rfl ti44 rfl rfl) (Lq (q_field (o' := 2) Un44 rfl ti42 rfl rfl) (WL_main rfl (OW_store1 ti42 rfl rfl rfl (.s (.s (.z))) (.z) (WL_nil (thenN (WC_region (Lq (q_move rfl) (Lq (q_field (o' := 3) Un63 rfl ti3 rfl rfl) (Lq (q_load1 Un3 rfl rfl (ownS (ownS (ownS (own0)))) rfl) (Lq (q_field (o' := 4) Un63 rfl ti3 rfl rfl) (Lq (q_load1 Un3 rfl rfl (ownS (ownS (ownS (own0)))) rfl) ?_)))))))))))))
   refine WL_main rfl (OW_call0 (some_s (cellsN ((textsOf H.ents).take i)) m.a m.b (by omega)) (.cons rfl (.cons rfl (.cons rfl (.nil)))) (by decide) mem0 fun u12_5 Lo fs hres => ?_)
   obtain ⟨A9, c9, xs, rfl, rfl, rfl, hxs, hxn, hxe⟩ := hres
   refine Lq (q_field (o' := 5) Un47 rfl ti45 rfl rfl) (WL_main rfl (OW_store1 ti45 rfl rfl rfl (.s (.s (.s (.s (.s (.z)))))) (.z) (WL_nil (blockN (thenN (WC_seq (WC_region (Lq (q_loadN (vs := [_, _, _, _, _, _, _, _, _]) Un47 rfl ti47 rfl own0 rfl rfl) (WL_main rfl (OW_storeN (cs' := [_, _, _, _, _, _, _, _, _]) (vs := [_, _, _, _, _, _, _, _, _]) ti47 rfl rfl rfl rfl rfl (Nat.le_of_ble_eq_true rfl) (.s (.s (.z))) (WL_nil (thenN (WC_ret ?_)))))))))))))
   refine ⟨_, [_], [_], fun Z w hs => RV_ownN hs Un47 rfl ti47 rfl (ownS (ownS (own0))) rfl (.nil), ?_, fun Z w hs => hs.out (Sd (Sk (Sd (Sd (Sr))))) (memc M0 T3)⟩
   refine ⟨{ zeroOp with c := ((1 + r20 : Nat) : Int), n := x + 1, kind := 2, rs := xs }, _, _, x, rfl, rfl, rfl, by show ((1 + r20 : Nat) : Int) = _; omega, by show nx[((1 + r20 : Nat) : Int).toNat]? = _; rw [Int.toNat_natCast]; exact hx, rfl, ⟨fun c k hw hr => ?_, by show (⟨#[]⟩ : ByteArray).size ≤ 1000; decide, by have := hxs.len (by omega); show xs.length ≤ _; omega⟩, ?_⟩
   ·exact good_hide hV hi hw hr (by rw [← hcb]; exact hxs) hxn
   ·unfold makeF
    have hc1 : (1 : Int) + m.client % ((8 : Nat) : Int) = ((1 + r20 : Nat) : Int) := by omega
    have hxd : nx.getD (((1 + r20 : Nat) : Int)).toNat 0 = x := by rw [Int.toNat_natCast, List.getD_eq_getElem?_getD, hx]; rfl
    rw [hc1, hxd]
    unfold makeG
    try simp only [Bp, Bq] at *
    rw [if_pos (by unfold cutN; omega)]
    unfold cutN
    rw [← hxe]
  ·refine WC_seq (WC_region (Lq (q_move rfl) (Lq (q_eql rfl rfl) (Lq (q_move rfl) (WL_guard (t := 71) rfl (fun g71 => ?_) (fun g71 => ?_))))))
   ·refine Lg rfl rfl rfl g71 (q_move rfl) (Lg rfl rfl rfl g71 (q_len Un26 rfl) (Lg rfl rfl rfl g71 (q_gtr rfl rfl) (Lq (q_pickT rfl g71 rfl) (Lq (q_assign rfl) (WL_nil (thenN (WC_cond rfl (fun h68 => ?_) (fun h68 => ?_))))))))
    ·have hE0 : 0 < (editsL ((idsOf H.ents).take i) ((kindsOf H.ents).take i)).length := by revert h68; simp
     refine WC_seq (WC_region (Lq (q_field (o' := 0) Un47 rfl ti44 rfl rfl) (Lq (q_field (o' := 2) Un44 rfl ti42 rfl rfl) (WL_main rfl (OW_store1 ti42 rfl rfl rfl (.s (.s (.z))) (.z) (WL_nil (thenN (WC_seq (WC_region (Lq (q_move rfl) (Lq (q_field (o' := 3) Un63 rfl ti3 rfl rfl) (Lq (q_load1 Un3 rfl rfl (ownS (ownS (ownS (own0)))) rfl) (Lq (q_move rfl) (Lq (q_len Un26 rfl) ?_))))))))))))))
     refine WL_main rfl (OW_call0 (rest_r m.a (editsL ((idsOf H.ents).take i) ((kindsOf H.ents).take i)).length (by omega)) (.cons rfl (.cons rfl (.nil))) (by decide) mem0 fun u15_5 Lo fs hres => ?_)
     obtain ⟨r83, hr83, hm83, rfl, rfl, rfl⟩ := hres
     have hEm := edits_target (List.getElem_mem hm83)
     obtain ⟨j, hj, hji, hjc, hjn, hjk⟩ := hEm
     refine WL_elem (k := r83) M0 (List.getElem?_eq_getElem hm83) (id_open _) fun b9 q9 y9 e9 => ?_
     cases e9
     refine Lq (q_idxRd Un26 ti37 rfl rfl (by omega) (by omega)) (Lq (q_loadFN (k := 0) (vs := [_, _]) Un37 rfl ti37 rfl M0 rfl rfl rfl) (Lq (q_field (o' := 6) Un47 rfl ti37 rfl rfl) (WL_main rfl (OW_storeN (cs' := [_, _, _, _, _, _, _, _, _]) (vs := [_, _]) ti37 rfl rfl rfl rfl rfl (Nat.le_of_ble_eq_true rfl) (.z) (WL_nil (thenN (WC_fr [(10, _), (6, _), (4, _)] (.cons rfl (.cons rfl (.cons rfl (.nil _)))) (WC_region (Lq (q_field (o' := 4) Un63 rfl ti3 rfl rfl) (Lq (q_load1 Un3 rfl rfl (ownS (ownS (ownS (own0)))) rfl) (WL_main rfl (OW_call0 (rest_r m.b 2 (by omega)) (.cons rfl (.cons rfl (.nil))) (by decide) mem0 fun u16_2 Lo fs hres => ?_))))))))))))
     obtain ⟨r89, hr89, hm89, rfl, rfl, rfl⟩ := hres
     refine Lq (q_eql rfl rfl) (Lq (q_field (o' := 8) Un47 rfl ti4 rfl rfl) (WL_main rfl (OW_store1 ti4 rfl rfl rfl (.s (.s (.s (.s (.s (.s (.s (.s (.z))))))))) (.z) (WL_nil (blockN (thenN (WC_seq (WC_region (Lq (q_loadN (vs := [_, _, _, _, _, _, _, _, _]) Un47 rfl ti47 rfl own0 rfl rfl) (WL_main rfl (OW_storeN (cs' := [_, _, _, _, _, _, _, _, _]) (vs := [_, _, _, _, _, _, _, _, _]) ti47 rfl rfl rfl rfl rfl (Nat.le_of_ble_eq_true rfl) (.s (.s (.z))) (WL_nil (thenN (WC_ret ?_))))))))))))))
     refine ⟨_, [_], [_], fun Z w hs => RV_ownN hs Un47 rfl ti47 rfl (ownS (ownS (own0))) rfl (.nil), ?_, fun Z w hs => hs.out (Sd (Sk (Sd (Sd (Sr))))) T2⟩
     refine ⟨{ zeroOp with c := ((1 + r20 : Nat) : Int), n := x + 1, kind := 4, tc := (editsL ((idsOf H.ents).take i) ((kindsOf H.ents).take i))[r83].1, tn := (editsL ((idsOf H.ents).take i) ((kindsOf H.ents).take i))[r83].2, on := ((r89 : Int) == 1) }, _, _, x, rfl, rfl, rfl, by show ((1 + r20 : Nat) : Int) = _; omega, by show nx[((1 + r20 : Nat) : Int).toNat]? = _; rw [Int.toNat_natCast]; exact hx, rfl, ⟨fun c k hw hr => ?_, by show (⟨#[]⟩ : ByteArray).size ≤ 1000; decide, by show ([] : List Rg).length ≤ 60000; decide⟩, ?_⟩
     ·have := good_status hV hi hw hr hj hji hjk ((r89 : Int) == 1)
      rw [hjc, hjn] at this
      exact this
     ·unfold makeF
      have hc1 : (1 : Int) + m.client % ((8 : Nat) : Int) = ((1 + r20 : Nat) : Int) := by omega
      have hxd : nx.getD (((1 + r20 : Nat) : Int)).toNat 0 = x := by rw [Int.toNat_natCast, List.getD_eq_getElem?_getD, hx]; rfl
      rw [hc1, hxd]
      unfold makeG
      try simp only [Bp, Bq] at *
      rw [if_neg (by unfold cutN; omega), if_pos (by unfold edsN; omega), show (m.a % ((edsN H i).length : Int)).toNat = r83 from by unfold edsN; omega, ← hr89]
      unfold edsN
      rw [List.getD_eq_getElem?_getD, List.getElem?_eq_getElem hm83]; rfl
    ·refine WC_seq (WC_region (Lq (q_field (o' := 0) Un47 rfl ti44 rfl rfl) (Lq (q_field (o' := 2) Un44 rfl ti42 rfl rfl) (WL_main rfl (OW_store1 ti42 rfl rfl rfl (.s (.s (.z))) (.z) (WL_nil (thenN (WC_seq (WC_region (Lq (q_field (o' := 3) Un63 rfl ti3 rfl rfl) (Lq (q_load1 Un3 rfl rfl (ownS (ownS (ownS (own0)))) rfl) (Lq (q_move rfl) (Lq (q_add rfl rfl (wr64 (by omega)) (c := ((cellsN ((textsOf H.ents).take i) + 1 : Nat) : Int))) (WL_main rfl (OW_call0 (rest_r m.a (cellsN ((textsOf H.ents).take i) + 1) (by omega)) (.cons rfl (.cons rfl (.nil))) (by decide) mem0 fun u8_4 Lo fs hres => ?_)))))))))))))))
     obtain ⟨r42, hr42, hm42, rfl, rfl, rfl⟩ := hres
     refine Lq (q_field (o' := 3) Un47 rfl ti3 rfl rfl) (WL_main rfl (OW_store1 ti3 rfl rfl rfl (.s (.s (.s (.z)))) (.z) (WL_nil (thenN (WC_draw _ _ [8] (.c 0 0 (.c 1 0 (.c 4 0 (.c 5 0 (.c 2 2 (.c 3 0 (.c 6 2 (.c 7 0 (.c 8 3 .nil))))))))) mixed (fun _ _ _ _ h => h) (Sk (Sk (Sk (Sk (Sr))))) (fun _ h => h) (by kernel_rfl) (by decide) fun ws Z0 => Qe rfl (q_field (o' := 5) Un63 rfl ti3 rfl rfl) (Qe rfl (q_load1 Un3 rfl rfl (ownS (ownS (ownS (own0)))) rfl) (Qe rfl (q_field (o' := 4) Un63 rfl ti3 rfl rfl) (Qe rfl (q_load1 Un3 rfl rfl (ownS (ownS (ownS (own0)))) rfl) (WE_main rfl rfl (OW_call0 (rest_r m.n 12 (by omega)) (.cons rfl (.cons rfl (.nil))) (by decide) mem0 fun u9_2 Lo fs hres => ?_))))))))))
     obtain ⟨r46, hr46, hm46, rfl, rfl, rfl⟩ := hres
     refine ⟨⟨(Sk (Sk (Sk (Sk (Sr))))), M0⟩, ?_⟩
     refine Qe rfl (q_add rfl rfl (wr64 (by omega)) (c := ((1 + r46 : Nat) : Int))) (WE_main rfl rfl (OW_call0 (words_g (1 + r46) m.b (by omega)) (.cons rfl (.cons rfl (.nil))) (by decide) mem0 fun u9_6 Lo fs hres => ?_))
     obtain ⟨ls, hls, rfl, rfl, rfl, hlw⟩ := hres
     refine ⟨⟨(Sk (Sk (Sk (Sk (Sr))))), M0⟩, ?_⟩
     refine Qe rfl (q_field (o' := 4) Un47 rfl ti9 rfl rfl) (WE_end (WF_last rfl rfl (OW_store1 ti9 rfl rfl rfl (.s (.s (.s (.s (.z))))) (.z) (WF_nil (blockN (thenN (WC_fr [(10, _), (6, _)] (.cons rfl (.cons rfl (.nil _))) (WC_seq (WC_region (Lq (q_loadN (vs := [_, _, _, _, _, _, _, _, _]) Un47 rfl ti47 rfl own0 rfl rfl) (WL_main rfl (OW_storeN (cs' := [_, _, _, _, _, _, _, _, _]) (vs := [_, _, _, _, _, _, _, _, _]) ti47 rfl rfl rfl rfl rfl (Nat.le_of_ble_eq_true rfl) (.s (.s (.z))) (WL_nil (thenN (WC_ret ?_)))))))))))))))
     refine ⟨_, [_], [_], fun Z w hs => RV_ownN hs Un47 rfl ti47 rfl (ownS (ownS (own0))) rfl (.nil), ?_, fun Z w hs => hs.out (Sd (Sk (Sd (Sd (Sr))))) T2⟩
     refine ⟨{ zeroOp with c := ((1 + r20 : Nat) : Int), n := x + 1, kind := 1, at_ := (r42 : Int), text := txOf ls }, _, _, x, rfl, rfl, rfl, by show ((1 + r20 : Nat) : Int) = _; omega, by show nx[((1 + r20 : Nat) : Int).toNat]? = _; rw [Int.toNat_natCast]; exact hx, rfl, ⟨fun c k hw hr => ?_, by have := txOf_size ls; show (txOf ls).size ≤ _; omega, by show ([] : List Rg).length ≤ 60000; decide⟩, ?_⟩
     ·exact good_ins (a := (r42 : Int)) (ls := ls) hV hi hw hr (by rw [← hcb]; omega) (by omega)
     ·unfold makeF
      have hc1 : (1 : Int) + m.client % ((8 : Nat) : Int) = ((1 + r20 : Nat) : Int) := by omega
      have hxd : nx.getD (((1 + r20 : Nat) : Int)).toNat 0 = x := by rw [Int.toNat_natCast, List.getD_eq_getElem?_getD, hx]; rfl
      rw [hc1, hxd]
      unfold makeG
      try simp only [Bp, Bq] at *
      rw [if_neg (by unfold cutN; omega), if_neg (by unfold edsN; omega), show (m.n % ((12 : Nat) : Int)).toNat = r46 from by omega, ← hlw]
      unfold cutN
      rw [← hr42]
   ·refine Ln rfl rfl rfl g71 (Ln rfl rfl rfl g71 (Ln rfl rfl rfl g71 (Lq (q_pickF rfl g71 rfl) (Lq (q_assign rfl) (WL_nil (thenN (WC_false rfl rfl (WC_seq (WC_region (Lq (q_field (o' := 0) Un47 rfl ti44 rfl rfl) (Lq (q_field (o' := 2) Un44 rfl ti42 rfl rfl) (WL_main rfl (OW_store1 ti42 rfl rfl rfl (.s (.s (.z))) (.z) (WL_nil (thenN (WC_seq (WC_region ?_)))))))))))))))))
    refine Lq (q_field (o' := 3) Un63 rfl ti3 rfl rfl) (Lq (q_load1 Un3 rfl rfl (ownS (ownS (ownS (own0)))) rfl) (Lq (q_move rfl) (Lq (q_add rfl rfl (wr64 (by omega)) (c := ((cellsN ((textsOf H.ents).take i) + 1 : Nat) : Int))) (WL_main rfl (OW_call0 (rest_r m.a (cellsN ((textsOf H.ents).take i) + 1) (by omega)) (.cons rfl (.cons rfl (.nil))) (by decide) mem0 fun u8_4 Lo fs hres => ?_)))))
    obtain ⟨r42, hr42, hm42, rfl, rfl, rfl⟩ := hres
    refine Lq (q_field (o' := 3) Un47 rfl ti3 rfl rfl) (WL_main rfl (OW_store1 ti3 rfl rfl rfl (.s (.s (.s (.z)))) (.z) (WL_nil (thenN (WC_draw _ _ [8] (.c 0 0 (.c 1 0 (.c 4 0 (.c 5 0 (.c 2 2 (.c 3 0 (.c 6 2 (.c 7 0 (.c 8 3 .nil))))))))) mixed (fun _ _ _ _ h => h) (Sk (Sk (Sk (Sk (Sr))))) (fun _ h => h) (by kernel_rfl) (by decide) fun ws Z0 => Qe rfl (q_field (o' := 5) Un63 rfl ti3 rfl rfl) (Qe rfl (q_load1 Un3 rfl rfl (ownS (ownS (ownS (own0)))) rfl) (Qe rfl (q_field (o' := 4) Un63 rfl ti3 rfl rfl) (Qe rfl (q_load1 Un3 rfl rfl (ownS (ownS (ownS (own0)))) rfl) (WE_main rfl rfl (OW_call0 (rest_r m.n 12 (by omega)) (.cons rfl (.cons rfl (.nil))) (by decide) mem0 fun u9_2 Lo fs hres => ?_))))))))))
    obtain ⟨r46, hr46, hm46, rfl, rfl, rfl⟩ := hres
    refine ⟨⟨(Sk (Sk (Sk (Sk (Sr))))), M0⟩, ?_⟩
    refine Qe rfl (q_add rfl rfl (wr64 (by omega)) (c := ((1 + r46 : Nat) : Int))) (WE_main rfl rfl (OW_call0 (words_g (1 + r46) m.b (by omega)) (.cons rfl (.cons rfl (.nil))) (by decide) mem0 fun u9_6 Lo fs hres => ?_))
    obtain ⟨ls, hls, rfl, rfl, rfl, hlw⟩ := hres
    refine ⟨⟨(Sk (Sk (Sk (Sk (Sr))))), M0⟩, ?_⟩
    refine Qe rfl (q_field (o' := 4) Un47 rfl ti9 rfl rfl) (WE_end (WF_last rfl rfl (OW_store1 ti9 rfl rfl rfl (.s (.s (.s (.s (.z))))) (.z) (WF_nil (blockN (thenN (WC_fr [(10, _), (6, _)] (.cons rfl (.cons rfl (.nil _))) (WC_seq (WC_region (Lq (q_loadN (vs := [_, _, _, _, _, _, _, _, _]) Un47 rfl ti47 rfl own0 rfl rfl) (WL_main rfl (OW_storeN (cs' := [_, _, _, _, _, _, _, _, _]) (vs := [_, _, _, _, _, _, _, _, _]) ti47 rfl rfl rfl rfl rfl (Nat.le_of_ble_eq_true rfl) (.s (.s (.z))) (WL_nil (thenN (WC_ret ?_)))))))))))))))
    refine ⟨_, [_], [_], fun Z w hs => RV_ownN hs Un47 rfl ti47 rfl (ownS (ownS (own0))) rfl (.nil), ?_, fun Z w hs => hs.out (Sd (Sk (Sd (Sd (Sr))))) T2⟩
    refine ⟨{ zeroOp with c := ((1 + r20 : Nat) : Int), n := x + 1, kind := 1, at_ := (r42 : Int), text := txOf ls }, _, _, x, rfl, rfl, rfl, by show ((1 + r20 : Nat) : Int) = _; omega, by show nx[((1 + r20 : Nat) : Int).toNat]? = _; rw [Int.toNat_natCast]; exact hx, rfl, ⟨fun c k hw hr => ?_, by have := txOf_size ls; show (txOf ls).size ≤ _; omega, by show ([] : List Rg).length ≤ 60000; decide⟩, ?_⟩
    ·exact good_ins (a := (r42 : Int)) (ls := ls) hV hi hw hr (by rw [← hcb]; omega) (by omega)
    ·unfold makeF
     have hc1 : (1 : Int) + m.client % ((8 : Nat) : Int) = ((1 + r20 : Nat) : Int) := by omega
     have hxd : nx.getD (((1 + r20 : Nat) : Int)).toNat 0 = x := by rw [Int.toNat_natCast, List.getD_eq_getElem?_getD, hx]; rfl
     rw [hc1, hxd]
     unfold makeG
     try simp only [Bp, Bq] at *
     rw [if_neg (by unfold cutN; omega), if_neg (by unfold edsN; omega), show (m.n % ((12 : Nat) : Int)).toNat = r46 from by omega, ← hlw]
     unfold cutN
     rw [← hr42]
 ·refine Ln rfl rfl rfl g55 (Ln rfl rfl rfl g55 (Lq (q_pickF rfl g55 rfl) (Lq (q_assign rfl) (WL_nil (thenN (WC_false rfl rfl (WC_seq (WC_region (Lq (q_move rfl) (Lq (q_eql rfl rfl) (Lq (q_move rfl) (WL_guard (t := 71) rfl (fun g71 => ?_) (fun g71 => ?_)))))))))))))
  ·refine Lg rfl rfl rfl g71 (q_move rfl) (Lg rfl rfl rfl g71 (q_len Un26 rfl) (Lg rfl rfl rfl g71 (q_gtr rfl rfl) (Lq (q_pickT rfl g71 rfl) (Lq (q_assign rfl) (WL_nil (thenN (WC_cond rfl (fun h68 => ?_) (fun h68 => ?_))))))))
   ·have hE0 : 0 < (editsL ((idsOf H.ents).take i) ((kindsOf H.ents).take i)).length := by revert h68; simp
    refine WC_seq (WC_region (Lq (q_field (o' := 0) Un47 rfl ti44 rfl rfl) (Lq (q_field (o' := 2) Un44 rfl ti42 rfl rfl) (WL_main rfl (OW_store1 ti42 rfl rfl rfl (.s (.s (.z))) (.z) (WL_nil (thenN (WC_seq (WC_region (Lq (q_move rfl) (Lq (q_field (o' := 3) Un63 rfl ti3 rfl rfl) (Lq (q_load1 Un3 rfl rfl (ownS (ownS (ownS (own0)))) rfl) (Lq (q_move rfl) (Lq (q_len Un26 rfl) ?_))))))))))))))
    refine WL_main rfl (OW_call0 (rest_r m.a (editsL ((idsOf H.ents).take i) ((kindsOf H.ents).take i)).length (by omega)) (.cons rfl (.cons rfl (.nil))) (by decide) mem0 fun u15_5 Lo fs hres => ?_)
    obtain ⟨r83, hr83, hm83, rfl, rfl, rfl⟩ := hres
    have hEm := edits_target (List.getElem_mem hm83)
    obtain ⟨j, hj, hji, hjc, hjn, hjk⟩ := hEm
    refine WL_elem (k := r83) M0 (List.getElem?_eq_getElem hm83) (id_open _) fun b9 q9 y9 e9 => ?_
    cases e9
    refine Lq (q_idxRd Un26 ti37 rfl rfl (by omega) (by omega)) (Lq (q_loadFN (k := 0) (vs := [_, _]) Un37 rfl ti37 rfl M0 rfl rfl rfl) (Lq (q_field (o' := 6) Un47 rfl ti37 rfl rfl) (WL_main rfl (OW_storeN (cs' := [_, _, _, _, _, _, _, _, _]) (vs := [_, _]) ti37 rfl rfl rfl rfl rfl (Nat.le_of_ble_eq_true rfl) (.z) (WL_nil (thenN (WC_fr [(10, _), (6, _), (4, _)] (.cons rfl (.cons rfl (.cons rfl (.nil _)))) (WC_region (Lq (q_field (o' := 4) Un63 rfl ti3 rfl rfl) (Lq (q_load1 Un3 rfl rfl (ownS (ownS (ownS (own0)))) rfl) (WL_main rfl (OW_call0 (rest_r m.b 2 (by omega)) (.cons rfl (.cons rfl (.nil))) (by decide) mem0 fun u16_2 Lo fs hres => ?_))))))))))))
    obtain ⟨r89, hr89, hm89, rfl, rfl, rfl⟩ := hres
    refine Lq (q_eql rfl rfl) (Lq (q_field (o' := 8) Un47 rfl ti4 rfl rfl) (WL_main rfl (OW_store1 ti4 rfl rfl rfl (.s (.s (.s (.s (.s (.s (.s (.s (.z))))))))) (.z) (WL_nil (blockN (thenN (WC_seq (WC_region (Lq (q_loadN (vs := [_, _, _, _, _, _, _, _, _]) Un47 rfl ti47 rfl own0 rfl rfl) (WL_main rfl (OW_storeN (cs' := [_, _, _, _, _, _, _, _, _]) (vs := [_, _, _, _, _, _, _, _, _]) ti47 rfl rfl rfl rfl rfl (Nat.le_of_ble_eq_true rfl) (.s (.s (.z))) (WL_nil (thenN (WC_ret ?_))))))))))))))
    refine ⟨_, [_], [_], fun Z w hs => RV_ownN hs Un47 rfl ti47 rfl (ownS (ownS (own0))) rfl (.nil), ?_, fun Z w hs => hs.out (Sd (Sk (Sd (Sd (Sr))))) T2⟩
    refine ⟨{ zeroOp with c := ((1 + r20 : Nat) : Int), n := x + 1, kind := 4, tc := (editsL ((idsOf H.ents).take i) ((kindsOf H.ents).take i))[r83].1, tn := (editsL ((idsOf H.ents).take i) ((kindsOf H.ents).take i))[r83].2, on := ((r89 : Int) == 1) }, _, _, x, rfl, rfl, rfl, by show ((1 + r20 : Nat) : Int) = _; omega, by show nx[((1 + r20 : Nat) : Int).toNat]? = _; rw [Int.toNat_natCast]; exact hx, rfl, ⟨fun c k hw hr => ?_, by show (⟨#[]⟩ : ByteArray).size ≤ 1000; decide, by show ([] : List Rg).length ≤ 60000; decide⟩, ?_⟩
    ·have := good_status hV hi hw hr hj hji hjk ((r89 : Int) == 1)
     rw [hjc, hjn] at this
     exact this
    ·unfold makeF
     have hc1 : (1 : Int) + m.client % ((8 : Nat) : Int) = ((1 + r20 : Nat) : Int) := by omega
     have hxd : nx.getD (((1 + r20 : Nat) : Int)).toNat 0 = x := by rw [Int.toNat_natCast, List.getD_eq_getElem?_getD, hx]; rfl
     rw [hc1, hxd]
     unfold makeG
     try simp only [Bp, Bq] at *
     rw [if_neg (by unfold cutN; omega), if_pos (by unfold edsN; omega), show (m.a % ((edsN H i).length : Int)).toNat = r83 from by unfold edsN; omega, ← hr89]
     unfold edsN
     rw [List.getD_eq_getElem?_getD, List.getElem?_eq_getElem hm83]; rfl
   ·refine WC_seq (WC_region (Lq (q_field (o' := 0) Un47 rfl ti44 rfl rfl) (Lq (q_field (o' := 2) Un44 rfl ti42 rfl rfl) (WL_main rfl (OW_store1 ti42 rfl rfl rfl (.s (.s (.z))) (.z) (WL_nil (thenN (WC_seq (WC_region (Lq (q_field (o' := 3) Un63 rfl ti3 rfl rfl) (Lq (q_load1 Un3 rfl rfl (ownS (ownS (ownS (own0)))) rfl) (Lq (q_move rfl) (Lq (q_add rfl rfl (wr64 (by omega)) (c := ((cellsN ((textsOf H.ents).take i) + 1 : Nat) : Int))) (WL_main rfl (OW_call0 (rest_r m.a (cellsN ((textsOf H.ents).take i) + 1) (by omega)) (.cons rfl (.cons rfl (.nil))) (by decide) mem0 fun u8_4 Lo fs hres => ?_)))))))))))))))
    obtain ⟨r42, hr42, hm42, rfl, rfl, rfl⟩ := hres
    refine Lq (q_field (o' := 3) Un47 rfl ti3 rfl rfl) (WL_main rfl (OW_store1 ti3 rfl rfl rfl (.s (.s (.s (.z)))) (.z) (WL_nil (thenN (WC_draw _ _ [8] (.c 0 0 (.c 1 0 (.c 4 0 (.c 5 0 (.c 2 2 (.c 3 0 (.c 6 2 (.c 7 0 (.c 8 3 .nil))))))))) mixed (fun _ _ _ _ h => h) (Sk (Sk (Sk (Sk (Sr))))) (fun _ h => h) (by kernel_rfl) (by decide) fun ws Z0 => Qe rfl (q_field (o' := 5) Un63 rfl ti3 rfl rfl) (Qe rfl (q_load1 Un3 rfl rfl (ownS (ownS (ownS (own0)))) rfl) (Qe rfl (q_field (o' := 4) Un63 rfl ti3 rfl rfl) (Qe rfl (q_load1 Un3 rfl rfl (ownS (ownS (ownS (own0)))) rfl) (WE_main rfl rfl (OW_call0 (rest_r m.n 12 (by omega)) (.cons rfl (.cons rfl (.nil))) (by decide) mem0 fun u9_2 Lo fs hres => ?_))))))))))
    obtain ⟨r46, hr46, hm46, rfl, rfl, rfl⟩ := hres
    refine ⟨⟨(Sk (Sk (Sk (Sk (Sr))))), M0⟩, ?_⟩
    refine Qe rfl (q_add rfl rfl (wr64 (by omega)) (c := ((1 + r46 : Nat) : Int))) (WE_main rfl rfl (OW_call0 (words_g (1 + r46) m.b (by omega)) (.cons rfl (.cons rfl (.nil))) (by decide) mem0 fun u9_6 Lo fs hres => ?_))
    obtain ⟨ls, hls, rfl, rfl, rfl, hlw⟩ := hres
    refine ⟨⟨(Sk (Sk (Sk (Sk (Sr))))), M0⟩, ?_⟩
    refine Qe rfl (q_field (o' := 4) Un47 rfl ti9 rfl rfl) (WE_end (WF_last rfl rfl (OW_store1 ti9 rfl rfl rfl (.s (.s (.s (.s (.z))))) (.z) (WF_nil (blockN (thenN (WC_fr [(10, _), (6, _)] (.cons rfl (.cons rfl (.nil _))) (WC_seq (WC_region (Lq (q_loadN (vs := [_, _, _, _, _, _, _, _, _]) Un47 rfl ti47 rfl own0 rfl rfl) (WL_main rfl (OW_storeN (cs' := [_, _, _, _, _, _, _, _, _]) (vs := [_, _, _, _, _, _, _, _, _]) ti47 rfl rfl rfl rfl rfl (Nat.le_of_ble_eq_true rfl) (.s (.s (.z))) (WL_nil (thenN (WC_ret ?_)))))))))))))))
    refine ⟨_, [_], [_], fun Z w hs => RV_ownN hs Un47 rfl ti47 rfl (ownS (ownS (own0))) rfl (.nil), ?_, fun Z w hs => hs.out (Sd (Sk (Sd (Sd (Sr))))) T2⟩
    refine ⟨{ zeroOp with c := ((1 + r20 : Nat) : Int), n := x + 1, kind := 1, at_ := (r42 : Int), text := txOf ls }, _, _, x, rfl, rfl, rfl, by show ((1 + r20 : Nat) : Int) = _; omega, by show nx[((1 + r20 : Nat) : Int).toNat]? = _; rw [Int.toNat_natCast]; exact hx, rfl, ⟨fun c k hw hr => ?_, by have := txOf_size ls; show (txOf ls).size ≤ _; omega, by show ([] : List Rg).length ≤ 60000; decide⟩, ?_⟩
    ·exact good_ins (a := (r42 : Int)) (ls := ls) hV hi hw hr (by rw [← hcb]; omega) (by omega)
    ·unfold makeF
     have hc1 : (1 : Int) + m.client % ((8 : Nat) : Int) = ((1 + r20 : Nat) : Int) := by omega
     have hxd : nx.getD (((1 + r20 : Nat) : Int)).toNat 0 = x := by rw [Int.toNat_natCast, List.getD_eq_getElem?_getD, hx]; rfl
     rw [hc1, hxd]
     unfold makeG
     try simp only [Bp, Bq] at *
     rw [if_neg (by unfold cutN; omega), if_neg (by unfold edsN; omega), show (m.n % ((12 : Nat) : Int)).toNat = r46 from by omega, ← hlw]
     unfold cutN
     rw [← hr42]
  ·refine Ln rfl rfl rfl g71 (Ln rfl rfl rfl g71 (Ln rfl rfl rfl g71 (Lq (q_pickF rfl g71 rfl) (Lq (q_assign rfl) (WL_nil (thenN (WC_false rfl rfl (WC_seq (WC_region (Lq (q_field (o' := 0) Un47 rfl ti44 rfl rfl) (Lq (q_field (o' := 2) Un44 rfl ti42 rfl rfl) (WL_main rfl (OW_store1 ti42 rfl rfl rfl (.s (.s (.z))) (.z) (WL_nil (thenN (WC_seq (WC_region ?_)))))))))))))))))
   refine Lq (q_field (o' := 3) Un63 rfl ti3 rfl rfl) (Lq (q_load1 Un3 rfl rfl (ownS (ownS (ownS (own0)))) rfl) (Lq (q_move rfl) (Lq (q_add rfl rfl (wr64 (by omega)) (c := ((cellsN ((textsOf H.ents).take i) + 1 : Nat) : Int))) (WL_main rfl (OW_call0 (rest_r m.a (cellsN ((textsOf H.ents).take i) + 1) (by omega)) (.cons rfl (.cons rfl (.nil))) (by decide) mem0 fun u8_4 Lo fs hres => ?_)))))
   obtain ⟨r42, hr42, hm42, rfl, rfl, rfl⟩ := hres
   refine Lq (q_field (o' := 3) Un47 rfl ti3 rfl rfl) (WL_main rfl (OW_store1 ti3 rfl rfl rfl (.s (.s (.s (.z)))) (.z) (WL_nil (thenN (WC_draw _ _ [8] (.c 0 0 (.c 1 0 (.c 4 0 (.c 5 0 (.c 2 2 (.c 3 0 (.c 6 2 (.c 7 0 (.c 8 3 .nil))))))))) mixed (fun _ _ _ _ h => h) (Sk (Sk (Sk (Sk (Sr))))) (fun _ h => h) (by kernel_rfl) (by decide) fun ws Z0 => Qe rfl (q_field (o' := 5) Un63 rfl ti3 rfl rfl) (Qe rfl (q_load1 Un3 rfl rfl (ownS (ownS (ownS (own0)))) rfl) (Qe rfl (q_field (o' := 4) Un63 rfl ti3 rfl rfl) (Qe rfl (q_load1 Un3 rfl rfl (ownS (ownS (ownS (own0)))) rfl) (WE_main rfl rfl (OW_call0 (rest_r m.n 12 (by omega)) (.cons rfl (.cons rfl (.nil))) (by decide) mem0 fun u9_2 Lo fs hres => ?_))))))))))
   obtain ⟨r46, hr46, hm46, rfl, rfl, rfl⟩ := hres
   refine ⟨⟨(Sk (Sk (Sk (Sk (Sr))))), M0⟩, ?_⟩
   refine Qe rfl (q_add rfl rfl (wr64 (by omega)) (c := ((1 + r46 : Nat) : Int))) (WE_main rfl rfl (OW_call0 (words_g (1 + r46) m.b (by omega)) (.cons rfl (.cons rfl (.nil))) (by decide) mem0 fun u9_6 Lo fs hres => ?_))
   obtain ⟨ls, hls, rfl, rfl, rfl, hlw⟩ := hres
   refine ⟨⟨(Sk (Sk (Sk (Sk (Sr))))), M0⟩, ?_⟩
   refine Qe rfl (q_field (o' := 4) Un47 rfl ti9 rfl rfl) (WE_end (WF_last rfl rfl (OW_store1 ti9 rfl rfl rfl (.s (.s (.s (.s (.z))))) (.z) (WF_nil (blockN (thenN (WC_fr [(10, _), (6, _)] (.cons rfl (.cons rfl (.nil _))) (WC_seq (WC_region (Lq (q_loadN (vs := [_, _, _, _, _, _, _, _, _]) Un47 rfl ti47 rfl own0 rfl rfl) (WL_main rfl (OW_storeN (cs' := [_, _, _, _, _, _, _, _, _]) (vs := [_, _, _, _, _, _, _, _, _]) ti47 rfl rfl rfl rfl rfl (Nat.le_of_ble_eq_true rfl) (.s (.s (.z))) (WL_nil (thenN (WC_ret ?_)))))))))))))))
   refine ⟨_, [_], [_], fun Z w hs => RV_ownN hs Un47 rfl ti47 rfl (ownS (ownS (own0))) rfl (.nil), ?_, fun Z w hs => hs.out (Sd (Sk (Sd (Sd (Sr))))) T2⟩
   refine ⟨{ zeroOp with c := ((1 + r20 : Nat) : Int), n := x + 1, kind := 1, at_ := (r42 : Int), text := txOf ls }, _, _, x, rfl, rfl, rfl, by show ((1 + r20 : Nat) : Int) = _; omega, by show nx[((1 + r20 : Nat) : Int).toNat]? = _; rw [Int.toNat_natCast]; exact hx, rfl, ⟨fun c k hw hr => ?_, by have := txOf_size ls; show (txOf ls).size ≤ _; omega, by show ([] : List Rg).length ≤ 60000; decide⟩, ?_⟩
   ·exact good_ins (a := (r42 : Int)) (ls := ls) hV hi hw hr (by rw [← hcb]; omega) (by omega)
   ·unfold makeF
    have hc1 : (1 : Int) + m.client % ((8 : Nat) : Int) = ((1 + r20 : Nat) : Int) := by omega
    have hxd : nx.getD (((1 + r20 : Nat) : Int)).toNat 0 = x := by rw [Int.toNat_natCast, List.getD_eq_getElem?_getD, hx]; rfl
    rw [hc1, hxd]
    unfold makeG
    try simp only [Bp, Bq] at *
    rw [if_neg (by unfold cutN; omega), if_neg (by unfold edsN; omega), show (m.n % ((12 : Nat) : Int)).toNat = r46 from by omega, ← hlw]
    unfold cutN
    rw [← hr42]

end Go.Proofs.YtcjbjkbghgjmdaaGreatDoor
/- What notes builds, plain. -/
namespace Go.GW
open Go
end Go.GW
namespace Go.Proofs.YtcjbjkbghgjmdaaGreatDoor
open Go Go.GW
def preI {α : Type} (l : List α) (i : Nat) (x : α) (k : Nat) : List α := if k ≤ i then l.take k else (insAt l i x).take (k + 1)
theorem insAt_length {α : Type} {l : List α} {i : Nat} (x : α) (h : i ≤ l.length) : (insAt l i x).length = l.length + 1 := by
 unfold insAt; simp only [List.length_append, List.length_take, List.length_cons, List.length_drop]; omega
theorem insAt_at {α : Type} {l : List α} {i : Nat} {x : α} (h : i ≤ l.length) : (insAt l i x)[i]? = some x := by
 unfold insAt
 rw [List.getElem?_append_right (by rw [List.length_take]; omega), List.length_take, show i - min i l.length = 0 from by omega]; rfl
theorem insAt_hi {α : Type} {l : List α} {i k : Nat} {x : α} (h : i ≤ l.length) (hk : i ≤ k) : (insAt l i x)[k + 1]? = l[k]? := by
 unfold insAt
 rw [List.getElem?_append_right (by rw [List.length_take]; omega), List.length_take, show k + 1 - min i l.length = (k - i) + 1 from by omega, List.getElem?_cons_succ, List.getElem?_drop, show i + (k - i) = k from by omega]
theorem preI_zero {α : Type} (l : List α) (i : Nat) (x : α) : preI l i x 0 = [] := by unfold preI; rw [if_pos (Nat.zero_le _)]; rfl
theorem take_snoc_get {α : Type} {l : List α} {k : Nat} {y : α} (h : l[k]? = some y) : l.take (k + 1) = l.take k ++ [y] := by
 rw [List.take_add_one, h]; rfl
theorem preI_lt {α : Type} {l : List α} {i k : Nat} {x : α} (hk : k < l.length) (h : k < i) : preI l i x (k + 1) = preI l i x k ++ [l[k]] := by
 unfold preI
 rw [if_pos (by omega), if_pos (by omega), List.take_succ_eq_append_getElem hk]
theorem preI_eq {α : Type} {l : List α} {i : Nat} {x : α} (hi : i < l.length) : preI l i x (i + 1) = preI l i x i ++ [x] ++ [l[i]] := by
 unfold preI
 rw [if_neg (by omega), if_pos (Nat.le_refl _)]
 rw [take_snoc_get (k := i + 1) (y := l[i]) (by rw [insAt_hi (by omega) (Nat.le_refl _), List.getElem?_eq_getElem hi]), take_snoc_get (insAt_at (by omega))]
 unfold insAt
 rw [List.take_append_of_le_length (by rw [List.length_take]; omega), List.take_take, Nat.min_self]
theorem preI_eq2 {α : Type} {l : List α} {i : Nat} {x : α} (hi : i = l.length) : preI l i x (i + 1) = preI l i x i ++ [x] := by
 unfold preI
 rw [if_neg (by omega), if_pos (Nat.le_refl _)]
 rw [List.take_of_length_le (by rw [insAt_length x (by omega)]; omega)]
 unfold insAt
 rw [List.drop_eq_nil_of_le (by omega)]
theorem preI_gt {α : Type} {l : List α} {i k : Nat} {x : α} (hi : i ≤ l.length) (hk : k < l.length) (h : i < k) : preI l i x (k + 1) = preI l i x k ++ [l[k]] := by
 unfold preI
 rw [if_neg (by omega), if_neg (by omega)]
 exact take_snoc_get (by rw [insAt_hi hi (by omega), List.getElem?_eq_getElem hk])
theorem preI_end {α : Type} {l : List α} {i k : Nat} {x : α} (hi : i ≤ l.length) (hk : ¬ k < l.length) (h : i < k) : preI l i x (k + 1) = preI l i x k := by
 have := insAt_length x hi
 unfold preI
 rw [if_neg (by omega), if_neg (by omega), List.take_of_length_le (by omega), List.take_of_length_le (by omega)]
theorem preI_done {α : Type} {l : List α} {i k : Nat} {x : α} (hi : i ≤ l.length) (hk : l.length < k) : preI l i x k = insAt l i x := by
 have := insAt_length x hi
 unfold preI
 rw [if_neg (by omega), List.take_of_length_le (by omega)]
theorem preI_len {α : Type} (l : List α) (i : Nat) (x : α) (k : Nat) : (preI l i x k).length ≤ k + 1 := by
 unfold preI; split
 ·rw [List.length_take]; omega
 ·rw [List.length_take]; omega
/-- A round of notes. -/
theorem preI_next {α : Type} {l : List α} {i k : Nat} {x : α} (hi : i ≤ l.length) (hk : k ≤ l.length) : preI l i x (k + 1) = preI l i x k ++ ((if k = i then [x] else []) ++ (match l[k]? with | some y => [y] | none => [])) := by
 by_cases h1 : k < l.length
 ·rw [List.getElem?_eq_getElem h1]
  rcases Nat.lt_trichotomy k i with h | h | h
  ·rw [if_neg (by omega)]; simpa using preI_lt h1 h
  ·subst h; rw [if_pos rfl]; simpa using preI_eq h1
  ·rw [if_neg (by omega)]; simpa using preI_gt hi h1 h
 ·rw [List.getElem?_eq_none (by omega)]
  by_cases h : k = i
  ·subst h; rw [if_pos rfl]; simpa using preI_eq2 (x := x) (by omega : k = l.length)
  ·rw [if_neg h]; simpa using preI_end hi h1 (by omega)
def strs (xs : List ByteArray) : List Value := xs.map Value.string
theorem strs_append (a b : List ByteArray) : strs (a ++ b) = strs a ++ strs b := by unfold strs; simp
theorem strs_flat (xs : List ByteArray) : (xs.map fun x => [Value.string x]).flatten = strs xs := by
 induction xs with
 | nil => rfl
 | cons x xs ih => simp only [List.map_cons, List.flatten_cons, ih]; rfl
theorem vw_nextI {a b c d e : Value} {nx : List Int} {k x : Int} (h : nx[k.toNat]? = some x) : (a :: b :: c :: d :: e :: ints .i64 nx)[5 + k.toNat * 1]? = some (.int .i64 x) := by
 rw [Nat.mul_one, Nat.add_comm 5 k.toNat]
 simp [ints, h]
theorem vw_setI {a b c d e : Value} {nx : List Int} {k x : Int} : (a :: b :: c :: d :: e :: ints .i64 nx).set (5 + k.toNat * 1) (.int .i64 x) = a :: b :: c :: d :: e :: ints .i64 (nx.set k.toNat x) := by
 rw [Nat.mul_one, Nat.add_comm 5 k.toNat]
 simp [ints, List.map_set]
structure NoI (ids : List (Int × Int)) (ks : List Int) (ts : List ByteArray) (i : Nat) (d : Int × Int) (z : Int) (s : ByteArray) (k : Nat) (w1 : Value) (p1 : Part) (w2 : Value) (p2 : Part) (w3 : Value) (p3 : Part) : Prop where
 le : k ≤ ids.length + 1
 r1 : Row 37 2 w1 (preI ids i d k).length (flatC idC (preI ids i d k)) p1
 r2 : Row 3 1 w2 (preI ks i z k).length (ints .i64 (preI ks i z k)) p2
 r3 : Row 9 1 w3 (preI ts i s k).length (strs (preI ts i s k)) p3
def NoteP (v h b n : Nat) (ids : List (Int × Int)) (ks : List Int) (ts : List ByteArray) (nx : List Int) (i : Nat) (o : GOp) : Value → List Part → List Fact → Prop := fun u Lo fs =>
 ∃ (A1 : Option Addr) (c1 : Nat) (A2 : Option Addr) (c2 : Nat) (A3 : Option Addr) (c3 : Nat), u = .tuple #[] ∧ Lo = [vwP v h b A1 (n + 1) c1 A2 c2 A3 c3 (nxF nx o.c o.n)] ∧
  fs = [RdF idD A1 c1 (insAt ids i (o.c, o.n)), RdF (De.int .i64) A2 c2 (insAt ks i (kindN o)), RdF De.str A3 c3 (insAt ts i o.text)]
end Go.Proofs.YtcjbjkbghgjmdaaGreatDoor
/- Walks: notes. -/
namespace Go.Proofs.YtcjbjkbghgjmdaaGreatDoor
open Go Go.GW
set_option maxRecDepth 10000 in
theorem notes_s (v h b n : Nat) (A1 : Option Addr) (c1 : Nat) (A2 : Option Addr) (c2 : Nat) (A3 : Option Addr) (c3 : Nat) (nx : List Int) (ids : List (Int × Int)) (ks : List Int) (ts : List ByteArray) (i : Nat) (o : GOp) (Ao : Option Addr) (co : Nat) (hn : n = ids.length) (hk2 : ks.length = ids.length) (hk3 : ts.length = ids.length) (hi : i ≤ ids.length) (hb : n ≤ 1000000) (hnx : nx.length = 9) (hc : 1 ≤ o.c ∧ o.c ≤ 8) : Sp Tryz.prog 34 [.pointer (some ⟨v, 0, none⟩), .int .i64 i, opV o Ao co] [vwP v h b A1 n c1 A2 c2 A3 c3 nx] [RdF idD A1 c1 ids, RdF (De.int .i64) A2 c2 ks, RdF De.str A3 c3 ts] (NoteP v h b n ids ks ts nx i o) := by
 subst hn
 obtain ⟨x, hx⟩ : ∃ x, nx[o.c.toNat]? = some x := ⟨_, List.getElem?_eq_getElem (by omega)⟩
 refine Sp.of (n := 121) ⟨_, Tryz.func34, rfl, rfl, rfl, rfl⟩ (Nat.le_of_ble_eq_true rfl) fun Ps As => WC_seq (WC_region (WL_main rfl (OW_box (cs := [_, _, _, _, _, _, _, _, _]) rfl rfl (by decide) fun b5 => WL_nil (thenN (WC_seq (WC_region (Lq (q_assign rfl) (WL_nil (thenN ?_)))))))))
 refine WC_meet (α := Int)
  (fun z => [(0, .pointer (some ⟨v, 0, none⟩)), (1, .int .i64 i), (5, .pointer (some ⟨b5, 0, none⟩)), (6, .int .i64 z)])
  (fun z => (([(b5, cellsO (opC o Ao co) 47)]) :: vwP v h b A1 ids.length c1 A2 c2 A3 c3 nx :: Ps))
  (fun z => (RdF idD A1 c1 ids :: RdF (De.int .i64) A2 c2 ks :: RdF De.str A3 c3 ts :: As))
  (fun z => z = if o.kind = 2 then 1 else 0) ?_ ?_
 ·refine WC_seq (WC_region (Lq (q_field (o' := 0) Un47 rfl ti44 rfl rfl) (Lq (q_field (o' := 2) Un44 rfl ti42 rfl rfl) (Lq (q_load1 Un42 rfl rfl own0 rfl) (Lq (q_eql rfl rfl) (WL_nil (thenN (WC_cond rfl (fun h14 => ?_) (fun h14 => ?_)))))))))
  ·refine WC_region (Lq (q_assign rfl) (WL_nil (thenK ?_)))
   refine ⟨_, ?_, (.cons rfl (.cons rfl (.cons rfl (.cons rfl (.nil _))))), (Sk (Sk (Sr))), (fun _ h => h)⟩
   first | exact (if_pos (by simpa using h14)).symm | exact (if_neg (by simpa using h14)).symm
  ·refine WC_skip (thenK ?_)
   refine ⟨_, ?_, (.cons rfl (.cons rfl (.cons rfl (.cons rfl (.nil _))))), (Sk (Sk (Sr))), (fun _ h => h)⟩
   first | exact (if_pos (by simpa using h14)).symm | exact (if_neg (by simpa using h14)).symm
 ·rintro z hz4
  refine WC_meet (α := Int)
   (fun z => [(0, .pointer (some ⟨v, 0, none⟩)), (1, .int .i64 i), (5, .pointer (some ⟨b5, 0, none⟩)), (6, .int .i64 z)])
   (fun z => (([(b5, cellsO (opC o Ao co) 47)]) :: vwP v h b A1 ids.length c1 A2 c2 A3 c3 nx :: Ps))
   (fun z => (RdF idD A1 c1 ids :: RdF (De.int .i64) A2 c2 ks :: RdF De.str A3 c3 ts :: As))
   (fun z => z = kindN o) ?_ ?_
  ·refine WC_seq (WC_region (Lq (q_field (o' := 0) Un47 rfl ti44 rfl rfl) (Lq (q_field (o' := 2) Un44 rfl ti42 rfl rfl) (Lq (q_load1 Un42 rfl rfl own0 rfl) (Lq (q_eql rfl rfl) (WL_nil (thenN (WC_cond rfl (fun h18 => ?_) (fun h18 => ?_)))))))))
   ·refine WC_region (Lq (q_assign rfl) (WL_nil (thenK ?_)))
    refine ⟨_, ?_, (.cons rfl (.cons rfl (.cons rfl (.cons rfl (.nil _))))), (Sk (Sk (Sr))), (fun _ h => h)⟩
    unfold kindN
    first | exact (if_pos (by simpa using h18)).symm | (rw [if_neg (by simpa using h18)]; exact hz4)
   ·refine WC_skip (thenK ?_)
    refine ⟨_, ?_, (.cons rfl (.cons rfl (.cons rfl (.cons rfl (.nil _))))), (Sk (Sk (Sr))), (fun _ h => h)⟩
    unfold kindN
    first | exact (if_pos (by simpa using h18)).symm | (rw [if_neg (by simpa using h18)]; exact hz4)
  ·rintro z hz6
   refine WC_seq (WC_region (Lq (q_assign rfl) (WL_nil (thenN (WC_seq (WC_region (Lq (q_assign rfl) (WL_nil (thenN (WC_seq (WC_region (Lq (q_assign rfl) (WL_nil (thenN (WC_seq (WC_seq (WC_region (Lq (q_assign rfl) (WL_nil (thenN (WC_block (WC_nilPart ?_))))))))))))))))))))))
   refine WC_nilPart (WC_nilPart ?_)
   refine WC_loopE (α := Nat × Value × Part × Value × Part × Value × Part) (fun (k, w1, p1, w2, p2, w3, p3) => ids.length + 1 - k)
    (fun (k, w1, p1, w2, p2, w3, p3) => [(0, .pointer (some ⟨v, 0, none⟩)), (1, .int .i64 i), (5, .pointer (some ⟨b5, 0, none⟩)), (6, .int .i64 z), (7, w1), (8, w2), (9, w3), (10, .int .i64 k)])
    (fun (k, w1, p1, w2, p2, w3, p3) => (p1 :: p2 :: p3 :: ([(b5, cellsO (opC o Ao co) 47)]) :: vwP v h b A1 ids.length c1 A2 c2 A3 c3 nx :: Ps))
    (fun (k, w1, p1, w2, p2, w3, p3) => (RdF idD A1 c1 ids :: RdF (De.int .i64) A2 c2 ks :: RdF De.str A3 c3 ts :: As))
    (fun (k, w1, p1, w2, p2, w3, p3) => NoI ids ks ts i (o.c, o.n) z o.text k w1 p1 w2 p2 w3 p3)
    (0, .slice none 0 0, [], .slice none 0 0, [], .slice none 0 0, []) ?_ (.cons rfl (.cons rfl (.cons rfl (.cons rfl (.cons rfl (.cons rfl (.cons rfl (.cons rfl (.nil _))))))))) (Sk (Sk (Sk (Sk (Sk (Sr)))))) (fun _ h => h) ?_
   ·exact ⟨Nat.zero_le _, by rw [preI_zero]; exact Row.nil _ _, by rw [preI_zero]; exact Row.nil _ _, by rw [preI_zero]; exact Row.nil _ _⟩
   ·rintro ⟨k, w1, p1, w2, p2, w3, p3⟩ hI
    refine WC_seq (WC_seq (WC_region (Lq (q_move rfl) (Lq (q_move rfl) (Lq (q_nil rfl) (Lq (q_field (o' := 2) Un34 rfl ti26 rfl rfl) (Lq (q_load1 Un26 rfl rfl (ownS (ownS (ownS (ownS (own0))))) rfl) (Lq (q_len Un26 rfl) (Lq (q_leq rfl rfl) (WL_nil (thenN (WC_cond rfl (fun h25 => ?_) (fun h25 => ?_)))))))))))))
    ·refine WC_skip (thenN (WC_seq (WC_block (WC_seq (WC_seq ?_)))))
     have hkn : k ≤ ids.length := by simp only [decide_eq_true_eq] at h25; omega
     have l1 := preI_len ids i (o.c, o.n) k
     have l2 := preI_len ks i z k
     have l3 := preI_len ts i o.text k
     have e1 := preI_next (x := (o.c, o.n)) hi hkn
     have e2 := preI_next (x := z) (l := ks) (i := i) (by omega) (by omega : k ≤ ks.length)
     have e3 := preI_next (x := o.text) (l := ts) (i := i) (by omega) (by omega : k ≤ ts.length)
     refine WC_region (Lq (q_move rfl) (Lq (q_move rfl) (Lq (q_eql rfl rfl) (WL_nil (thenN (WC_cond rfl (fun h30 => ?_) (fun h30 => ?_)))))))
     ·refine WC_seq (WC_region (Lq (q_move rfl) (Lq (q_field (o' := 0) Un47 rfl ti44 rfl rfl) (Lq (q_field (o' := 0) Un44 rfl ti37 rfl rfl) (Lq (q_loadN (vs := [_, _]) Un37 rfl ti37 rfl (ownS (ownS (ownS (own0)))) rfl rfl) (WL_main rfl (OW_slice1 (cs := [_, _]) Un26 ti37 (by decide) (by decide) rfl rfl rfl rfl (by decide) fun b35 => WL_main rfl (OW_append1 (news := [_, _]) Un26 ti37 rfl (by decide) rfl rfl hI.r1 own0 rfl rfl (by omega) (by unfold maxLen; omega) (by decide) (DelAt.perm (.s (.z))) fun v36 p36 hr36 => Lq (q_assign rfl) (WL_nil (thenN (WC_seq (WC_region (Lq (q_move rfl) ?_)))))))))))))
      refine Lq (q_move rfl) (WL_main rfl (OW_slice1 (cs := [_]) Un30 ti3 (by decide) (by decide) rfl rfl rfl rfl (by decide) fun b39 => WL_main rfl (OW_append1 (news := [_]) Un30 ti3 rfl (by decide) rfl rfl hI.r2 own0 rfl rfl (by omega) (by unfold maxLen; omega) (by decide) (DelAt.perm (.s (.s (.s (.z))))) fun v40 p40 hr40 => Lq (q_assign rfl) (WL_nil (thenN (WC_region (Lq (q_move rfl) (Lq (q_field (o' := 4) Un47 rfl ti9 rfl rfl) (Lq (q_load1 Un9 rfl rfl (ownS (ownS (ownS (ownS (ownS (own0)))))) rfl) (WL_main rfl (OW_slice1 (cs := [_]) Un31 ti9 (by decide) (by decide) rfl rfl rfl rfl (by decide) fun b44 => WL_main rfl (OW_append1 (news := [_]) Un31 ti9 rfl (by decide) rfl rfl hI.r3 own0 rfl rfl (by omega) (by unfold maxLen; omega) (by decide) (DelAt.perm (.s (.s (.s (.s (.s (.z))))))) fun v45 p45 hr45 => ?_))))))))))))
      refine Lq (q_assign rfl) (WL_nil (thenN (WC_seq (WC_region (Lq (q_move rfl) (Lq (q_move rfl) (Lq (q_nil rfl) (Lq (q_field (o' := 2) Un34 rfl ti26 rfl rfl) (Lq (q_load1 Un26 rfl rfl (ownS (ownS (ownS (ownS (ownS (ownS (ownS (own0)))))))) rfl) (Lq (q_len Un26 rfl) (Lq (q_lss rfl rfl) (WL_nil (thenN ?_)))))))))))))
      refine WC_cond rfl (fun h52 => ?_) (fun h52 => ?_)
      ·refine WC_seq ?_
       have hk1 : k < ids.length := by simp only [decide_eq_true_eq] at h52; omega
       have hk2 : k < ks.length := by omega
       have hk3 : k < ts.length := by omega
       refine WC_elem (k := k) M0 (List.getElem?_eq_getElem hk1) (id_open _) fun b17 q17 y17 e17 => ?_
       cases e17
       refine WC_region (Lq (q_move rfl) (Lq (q_move rfl) (Lq (q_nil rfl) (Lq (q_field (o' := 2) Un34 rfl ti26 rfl rfl) (Lq (q_load1 Un26 rfl rfl (ownS (ownS (ownS (ownS (ownS (ownS (ownS (own0)))))))) rfl) (Lq (q_move rfl) (Lq (q_idxRd Un26 ti37 rfl rfl (by omega) (by omega)) (Lq (q_loadFN (k := 0) (vs := [_, _]) Un37 rfl ti37 rfl M0 rfl rfl rfl) (WL_main rfl (OW_slice1 (cs := [_, _]) Un26 ti37 (by decide) (by decide) rfl rfl rfl rfl (by decide) fun b61 => ?_))))))))))
       refine WL_main rfl (OW_append1 (news := [_, _]) Un26 ti37 rfl (by decide) rfl rfl hr36 own0 rfl rfl (by omega) (by unfold maxLen; omega) (by decide) (DelAt.perm (.s (.s (.s (.s (.s (.z))))))) fun v62 p62 hr62 => Lq (q_assign rfl) (WL_nil (thenN (WC_seq (WC_elem (k := k) M2 (List.getElem?_eq_getElem hk2) (i64_open _) fun b18 q18 y18 e18 => ?_)))))
       cases e18
       refine WC_region (Lq (q_move rfl) (Lq (q_move rfl) (Lq (q_nil rfl) (Lq (q_field (o' := 3) Un34 rfl ti30 rfl rfl) (Lq (q_load1 Un30 rfl rfl (ownS (ownS (ownS (ownS (ownS (ownS (ownS (ownS (own0))))))))) rfl) (Lq (q_move rfl) (Lq (q_idxRd Un30 ti3 rfl rfl (by omega) (by omega)) (Lq (q_loadF1 (j := 0) Un3 rfl rfl M0 rfl rfl) (WL_main rfl (OW_slice1 (cs := [_]) Un30 ti3 (by decide) (by decide) rfl rfl rfl rfl (by decide) fun b71 => ?_))))))))))
       refine WL_main rfl (OW_append1 (news := [_]) Un30 ti3 rfl (by decide) rfl rfl hr40 own0 rfl rfl (by omega) (by unfold maxLen; omega) (by decide) (DelAt.perm (.s (.s (.s (.s (.s (.z))))))) fun v72 p72 hr72 => Lq (q_assign rfl) (WL_nil (thenN (WC_elem (k := k) M4 (List.getElem?_eq_getElem hk3) (str_open _) fun b19 q19 y19 e19 => ?_))))
       cases e19
       refine WC_region (Lq (q_move rfl) (Lq (q_move rfl) (Lq (q_nil rfl) (Lq (q_field (o' := 4) Un34 rfl ti31 rfl rfl) (Lq (q_load1 Un31 rfl rfl (ownS (ownS (ownS (ownS (ownS (ownS (ownS (ownS (ownS (own0)))))))))) rfl) (Lq (q_move rfl) (Lq (q_idxRd Un31 ti9 rfl rfl (by omega) (by omega)) (Lq (q_loadF1 (j := 0) Un9 rfl rfl M0 rfl rfl) (WL_main rfl (OW_slice1 (cs := [_]) Un31 ti9 (by decide) (by decide) rfl rfl rfl rfl (by decide) fun b81 => ?_))))))))))
       refine WL_main rfl (OW_append1 (news := [_]) Un31 ti9 rfl (by decide) rfl rfl hr45 own0 rfl rfl (by omega) (by unfold maxLen; omega) (by decide) (DelAt.perm (.s (.s (.s (.s (.s (.z))))))) fun v82 p82 hr82 => Lq (q_assign rfl) (WL_nil (blockN (thenN (WC_pick (.z) (WC_pick (.s (.s (.z))) (WC_pick (.s (.s (.s (.s (.z))))) ?_)))))))
       have hki : k = i := by have := beq_iff_eq.1 h30; omega
       rw [if_pos hki, List.getElem?_eq_getElem hk1] at e1
       simp only [List.nil_append, List.append_nil, ← List.append_assoc] at e1
       rw [if_pos hki, List.getElem?_eq_getElem hk2] at e2
       simp only [List.nil_append, List.append_nil, ← List.append_assoc] at e2
       rw [if_pos hki, List.getElem?_eq_getElem hk3] at e3
       simp only [List.nil_append, List.append_nil, ← List.append_assoc] at e3
       refine WC_region (Lq (q_move rfl) (Lq (q_add rfl rfl (wr64 (by omega)) (c := ((k + 1 : Nat) : Int))) (Lq (q_assign rfl) (WL_nil (thenK ?_)))))
       refine ⟨(k + 1, v62, p62, v72, p72, v82, p82), ?_, (.cons rfl (.cons rfl (.cons rfl (.cons rfl (.cons rfl (.cons rfl (.cons rfl (.cons rfl (.nil _))))))))), (Sk (Sk (Sk (Sd (Sd (Sd (Sd (Sd (Sd (Sk (Sk (Sr)))))))))))), T3⟩
       exact ⟨by show ids.length + 1 - (k + 1) < ids.length + 1 - k; omega, by show k + 1 ≤ ids.length + 1; omega, by rw [e1]; simp only [List.length_append, flatC_append, flatC_one]; exact hr62, by rw [e2]; simp only [List.length_append, ints_append]; exact hr72, by rw [e3]; simp only [List.length_append, strs_append]; exact hr82⟩
      ·refine WC_skip (blockN (thenN (WC_pick (.z) (WC_pick (.s (.s (.z))) (WC_pick (.s (.s (.s (.s (.z))))) ?_)))))
       have hki : k = i := by have := beq_iff_eq.1 h30; omega
       rw [if_pos hki, List.getElem?_eq_none (by simp only [decide_eq_false_iff_not] at h52; omega)] at e1
       simp only [List.nil_append, List.append_nil, ← List.append_assoc] at e1
       rw [if_pos hki, List.getElem?_eq_none (by simp only [decide_eq_false_iff_not] at h52; omega)] at e2
       simp only [List.nil_append, List.append_nil, ← List.append_assoc] at e2
       rw [if_pos hki, List.getElem?_eq_none (by simp only [decide_eq_false_iff_not] at h52; omega)] at e3
       simp only [List.nil_append, List.append_nil, ← List.append_assoc] at e3
       refine WC_region (Lq (q_move rfl) (Lq (q_add rfl rfl (wr64 (by omega)) (c := ((k + 1 : Nat) : Int))) (Lq (q_assign rfl) (WL_nil (thenK ?_)))))
       refine ⟨(k + 1, v36, p36, v40, p40, v45, p45), ?_, (.cons rfl (.cons rfl (.cons rfl (.cons rfl (.cons rfl (.cons rfl (.cons rfl (.cons rfl (.nil _))))))))), (Sk (Sk (Sk (Sd (Sd (Sd (Sk (Sk (Sr))))))))), (fun _ h => h)⟩
       exact ⟨by show ids.length + 1 - (k + 1) < ids.length + 1 - k; omega, by show k + 1 ≤ ids.length + 1; omega, by rw [e1]; simp only [List.length_append, flatC_append, flatC_one]; exact hr36, by rw [e2]; simp only [List.length_append, ints_append]; exact hr40, by rw [e3]; simp only [List.length_append, strs_append]; exact hr45⟩
     ·refine WC_skip (thenN (WC_seq (WC_region (Lq (q_move rfl) (Lq (q_move rfl) (Lq (q_nil rfl) (Lq (q_field (o' := 2) Un34 rfl ti26 rfl rfl) (Lq (q_load1 Un26 rfl rfl (ownS (ownS (ownS (ownS (own0))))) rfl) (Lq (q_len Un26 rfl) (Lq (q_lss rfl rfl) (WL_nil (thenN (WC_cond rfl (fun h52 => ?_) (fun h52 => ?_))))))))))))))
      ·refine WC_seq ?_
       have hk1 : k < ids.length := by simp only [decide_eq_true_eq] at h52; omega
       have hk2 : k < ks.length := by omega
       have hk3 : k < ts.length := by omega
       refine WC_elem (k := k) M0 (List.getElem?_eq_getElem hk1) (id_open _) fun b17 q17 y17 e17 => ?_
       cases e17
       refine WC_region (Lq (q_move rfl) (Lq (q_move rfl) (Lq (q_nil rfl) (Lq (q_field (o' := 2) Un34 rfl ti26 rfl rfl) (Lq (q_load1 Un26 rfl rfl (ownS (ownS (ownS (ownS (own0))))) rfl) (Lq (q_move rfl) (Lq (q_idxRd Un26 ti37 rfl rfl (by omega) (by omega)) (Lq (q_loadFN (k := 0) (vs := [_, _]) Un37 rfl ti37 rfl M0 rfl rfl rfl) (WL_main rfl (OW_slice1 (cs := [_, _]) Un26 ti37 (by decide) (by decide) rfl rfl rfl rfl (by decide) fun b61 => ?_))))))))))
       refine WL_main rfl (OW_append1 (news := [_, _]) Un26 ti37 rfl (by decide) rfl rfl hI.r1 own0 rfl rfl (by omega) (by unfold maxLen; omega) (by decide) (DelAt.perm (.s (.z))) fun v62 p62 hr62 => Lq (q_assign rfl) (WL_nil (thenN (WC_seq (WC_elem (k := k) M2 (List.getElem?_eq_getElem hk2) (i64_open _) fun b18 q18 y18 e18 => ?_)))))
       cases e18
       refine WC_region (Lq (q_move rfl) (Lq (q_move rfl) (Lq (q_nil rfl) (Lq (q_field (o' := 3) Un34 rfl ti30 rfl rfl) (Lq (q_load1 Un30 rfl rfl (ownS (ownS (ownS (ownS (ownS (own0)))))) rfl) (Lq (q_move rfl) (Lq (q_idxRd Un30 ti3 rfl rfl (by omega) (by omega)) (Lq (q_loadF1 (j := 0) Un3 rfl rfl M0 rfl rfl) (WL_main rfl (OW_slice1 (cs := [_]) Un30 ti3 (by decide) (by decide) rfl rfl rfl rfl (by decide) fun b71 => ?_))))))))))
       refine WL_main rfl (OW_append1 (news := [_]) Un30 ti3 rfl (by decide) rfl rfl hI.r2 own0 rfl rfl (by omega) (by unfold maxLen; omega) (by decide) (DelAt.perm (.s (.s (.s (.z))))) fun v72 p72 hr72 => Lq (q_assign rfl) (WL_nil (thenN (WC_elem (k := k) M4 (List.getElem?_eq_getElem hk3) (str_open _) fun b19 q19 y19 e19 => ?_))))
       cases e19
       refine WC_region (Lq (q_move rfl) (Lq (q_move rfl) (Lq (q_nil rfl) (Lq (q_field (o' := 4) Un34 rfl ti31 rfl rfl) (Lq (q_load1 Un31 rfl rfl (ownS (ownS (ownS (ownS (ownS (ownS (own0))))))) rfl) (Lq (q_move rfl) (Lq (q_idxRd Un31 ti9 rfl rfl (by omega) (by omega)) (Lq (q_loadF1 (j := 0) Un9 rfl rfl M0 rfl rfl) (WL_main rfl (OW_slice1 (cs := [_]) Un31 ti9 (by decide) (by decide) rfl rfl rfl rfl (by decide) fun b81 => ?_))))))))))
       refine WL_main rfl (OW_append1 (news := [_]) Un31 ti9 rfl (by decide) rfl rfl hI.r3 own0 rfl rfl (by omega) (by unfold maxLen; omega) (by decide) (DelAt.perm (.s (.s (.s (.s (.s (.z))))))) fun v82 p82 hr82 => Lq (q_assign rfl) (WL_nil (blockN (thenN (WC_pick (.z) (WC_pick (.s (.s (.z))) (WC_pick (.s (.s (.s (.s (.z))))) ?_)))))))
       have hki : k ≠ i := fun e => by rw [e] at h30; simp at h30
       rw [if_neg hki, List.getElem?_eq_getElem hk1] at e1
       simp only [List.nil_append, List.append_nil, ← List.append_assoc] at e1
       rw [if_neg hki, List.getElem?_eq_getElem hk2] at e2
       simp only [List.nil_append, List.append_nil, ← List.append_assoc] at e2
       rw [if_neg hki, List.getElem?_eq_getElem hk3] at e3
       simp only [List.nil_append, List.append_nil, ← List.append_assoc] at e3
       refine WC_region (Lq (q_move rfl) (Lq (q_add rfl rfl (wr64 (by omega)) (c := ((k + 1 : Nat) : Int))) (Lq (q_assign rfl) (WL_nil (thenK ?_)))))
       refine ⟨(k + 1, v62, p62, v72, p72, v82, p82), ?_, (.cons rfl (.cons rfl (.cons rfl (.cons rfl (.cons rfl (.cons rfl (.cons rfl (.cons rfl (.nil _))))))))), (Sk (Sk (Sk (Sd (Sd (Sd (Sk (Sk (Sr))))))))), T3⟩
       exact ⟨by show ids.length + 1 - (k + 1) < ids.length + 1 - k; omega, by show k + 1 ≤ ids.length + 1; omega, by rw [e1]; simp only [List.length_append, flatC_append, flatC_one]; exact hr62, by rw [e2]; simp only [List.length_append, ints_append]; exact hr72, by rw [e3]; simp only [List.length_append, strs_append]; exact hr82⟩
      ·refine WC_skip (blockN (thenN (WC_pick (.s (.s (.z))) (WC_pick (.s (.s (.z))) (WC_pick (.s (.s (.z))) ?_)))))
       have hki : k ≠ i := fun e => by rw [e] at h30; simp at h30
       rw [if_neg hki, List.getElem?_eq_none (by simp only [decide_eq_false_iff_not] at h52; omega)] at e1
       simp only [List.nil_append, List.append_nil, ← List.append_assoc] at e1
       rw [if_neg hki, List.getElem?_eq_none (by simp only [decide_eq_false_iff_not] at h52; omega)] at e2
       simp only [List.nil_append, List.append_nil, ← List.append_assoc] at e2
       rw [if_neg hki, List.getElem?_eq_none (by simp only [decide_eq_false_iff_not] at h52; omega)] at e3
       simp only [List.nil_append, List.append_nil, ← List.append_assoc] at e3
       refine WC_region (Lq (q_move rfl) (Lq (q_add rfl rfl (wr64 (by omega)) (c := ((k + 1 : Nat) : Int))) (Lq (q_assign rfl) (WL_nil (thenK ?_)))))
       refine ⟨(k + 1, w1, p1, w2, p2, w3, p3), ?_, (.cons rfl (.cons rfl (.cons rfl (.cons rfl (.cons rfl (.cons rfl (.cons rfl (.cons rfl (.nil _))))))))), (Sk (Sk (Sk (Sk (Sk (Sr)))))), (fun _ h => h)⟩
       exact ⟨by show ids.length + 1 - (k + 1) < ids.length + 1 - k; omega, by show k + 1 ≤ ids.length + 1; omega, by rw [e1]; exact hI.r1, by rw [e2]; exact hI.r2, by rw [e3]; exact hI.r3⟩
    ·refine WC_exit (thenExit (thenExit (blockHit (thenN (WC_seq ?_)))))
     have hkd : ids.length < k := by simp only [decide_eq_false_iff_not] at h25; omega
     have d1 := preI_done (x := (o.c, o.n)) hi hkd
     have d2 := preI_done (x := z) (l := ks) (i := i) (k := k) (by omega) (by omega)
     have d3 := preI_done (x := o.text) (l := ts) (i := i) (k := k) (by omega) (by omega)
     have q1 := hI.r1
     have q2 := hI.r2
     have q3 := hI.r3
     rw [d1] at q1
     rw [d2] at q2
     rw [d3] at q3
     refine WC_fact (A := RepsF idD (insAt ids i (o.c, o.n)) ((insAt ids i (o.c, o.n)).map (idC))) (fun Z w _ => reps_of (f := idC) (fun _ _ _ => rfl) _ Z w) (WC_freeze (e := idD) (xs := (insAt ids i (o.c, o.n))) (css := ((insAt ids i (o.c, o.n)).map (idC))) q1 (.z) rfl M0 fun A91 c91 e91 => ?_)
     cases e91
     refine WC_fact (A := RepsF (De.int .i64) (insAt ks i z) ((insAt ks i z).map (fun x => [Value.int .i64 x]))) (fun Z w _ => reps_of (f := fun x => [Value.int .i64 x]) (fun _ _ _ => rfl) _ Z w) (WC_freeze (e := (De.int .i64)) (xs := (insAt ks i z)) (css := ((insAt ks i z).map (fun x => [Value.int .i64 x]))) (by rw [ints_flat]; exact q2) (.z) rfl M0 fun A92 c92 e92 => ?_)
     cases e92
     refine WC_fact (A := RepsF De.str (insAt ts i o.text) ((insAt ts i o.text).map (fun x => [Value.string x]))) (fun Z w _ => reps_of (f := fun x => [Value.string x]) (fun _ _ _ => rfl) _ Z w) (WC_freeze (e := De.str) (xs := (insAt ts i o.text)) (css := ((insAt ts i o.text).map (fun x => [Value.string x]))) (by rw [strs_flat]; exact q3) (.z) rfl M0 fun A93 c93 e93 => ?_)
     cases e93
     have hl1 := insAt_length (o.c, o.n) hi
     have hl2 := insAt_length (l := ks) z (show i ≤ ks.length by omega)
     have hl3 := insAt_length (l := ts) o.text (show i ≤ ts.length by omega)
     rw [hk2] at hl2
     rw [hk3] at hl3
     rw [hl1, hl2, hl3]
     refine WC_region (Lq (q_move rfl) (Lq (q_move rfl) (Lq (q_nil rfl) (Lq (q_field (o' := 2) Un34 rfl ti26 rfl rfl) (WL_main rfl (OW_store1 ti26 rfl rfl rfl (.s (.s (.z))) (.s (.z)) (WL_nil (thenN (WC_seq (WC_region (Lq (q_move rfl) (Lq (q_move rfl) (Lq (q_nil rfl) ?_)))))))))))))
     refine Lq (q_field (o' := 3) Un34 rfl ti30 rfl rfl) (WL_main rfl (OW_store1 ti30 rfl rfl rfl (.s (.s (.s (.z)))) (.s (.z)) (WL_nil (thenN (WC_seq (WC_region (Lq (q_move rfl) (Lq (q_move rfl) (Lq (q_nil rfl) (Lq (q_field (o' := 4) Un34 rfl ti31 rfl rfl) (WL_main rfl (OW_store1 ti31 rfl rfl rfl (.s (.s (.s (.s (.z))))) (.s (.z)) (WL_nil (thenN (WC_seq (WC_draw _ _ [] (.c 0 0 (.c 1 0 (.c 2 0 (.c 3 0 (.c 4 0 (.c 5 0 (.c 6 0 (.c 7 0 (.c 8 0 (.c 9 0 (.c 10 0 (.c 11 0 (.c 12 0 (.c 13 0 .nil)))))))))))))) mixed (fun _ _ _ _ h => h) (Sk (Sk (Sr))) (fun _ h => h) (by kernel_rfl) (by decide) fun ws Z0 => ?_))))))))))))))))
     refine Qe rfl (q_field (o' := 0) Un47 rfl ti44 rfl rfl) (Qe rfl (q_field (o' := 0) Un44 rfl ti37 rfl rfl) (Qe rfl (q_idxA (o' := 1) Un37 ti3 rfl rfl (by decide) (by decide) rfl) (Qe rfl (q_load1 Un3 rfl rfl own0 rfl) (Qe rfl (q_move rfl) (Qe rfl (q_field (o' := 0) Un47 rfl ti44 rfl rfl) (Qe rfl (q_field (o' := 0) Un44 rfl ti37 rfl rfl) (Qe rfl (q_idxA (o' := 0) Un37 ti3 rfl rfl (by decide) (by decide) rfl) (Qe rfl (q_load1 Un3 rfl rfl own0 rfl) (Qe rfl (q_nil rfl) ?_)))))))))
     refine Qe rfl (q_field (o' := 5) Un34 rfl ti32 rfl rfl) (Qe rfl (q_idxA Un32 ti3 rfl rfl (by omega) (by omega) rfl) (Qe rfl (q_load1 Un3 rfl rfl (ownS (own0)) (vw_nextI hx)) (Qe rfl (q_gtr rfl rfl) (WE_end (WF_nil (thenN (WC_fr [(108, _), (0, _), (5, _)] (.cons rfl (.cons rfl (.cons rfl (.nil _)))) (WC_cond rfl (fun h108 => ?_) (fun h108 => ?_)))))))))
     ·refine WC_draw _ _ [12] (.c 0 0 (.c 1 0 (.c 2 0 (.c 3 0 (.c 4 0 (.c 5 0 (.c 6 0 (.c 7 0 (.c 8 0 (.c 9 0 (.c 10 0 (.c 11 0 (.c 12 3 .nil))))))))))))) mixed (fun _ _ _ _ h => h) (Sk (Sk (Sr))) (fun _ h => h) (by kernel_rfl) (by decide) fun ws Z0 => Qe rfl (q_move rfl) (Qe rfl (q_field (o' := 0) Un47 rfl ti44 rfl rfl) (Qe rfl (q_field (o' := 0) Un44 rfl ti37 rfl rfl) (Qe rfl (q_idxA (o' := 0) Un37 ti3 rfl rfl (by decide) (by decide) rfl) (Qe rfl (q_load1 Un3 rfl rfl own0 rfl) (Qe rfl (q_field (o' := 0) Un47 rfl ti44 rfl rfl) (Qe rfl (q_field (o' := 0) Un44 rfl ti37 rfl rfl) (Qe rfl (q_idxA (o' := 1) Un37 ti3 rfl rfl (by decide) (by decide) rfl) (Qe rfl (q_load1 Un3 rfl rfl own0 rfl) ?_))))))))
      refine Qe rfl (q_nil rfl) (Qe rfl (q_field (o' := 5) Un34 rfl ti32 rfl rfl) (Qe rfl (q_idxA Un32 ti3 rfl rfl (by omega) (by omega) rfl) (WE_end (WF_last rfl rfl (OW_storeC ti3 rfl rfl rfl (by simp only [List.length_cons, ints, List.length_map]; omega) (.s (.z)) (WF_nil ?_))))))
      have hnx : nxF nx o.c o.n = nx.set o.c.toNat o.n := by unfold nxF; rw [List.getD_eq_getElem?_getD, hx]; exact if_pos (by simpa using h108)
      rw [vw_setI]
      refine ⟨_, [_], [_, _, _], fun Z w hs => .nil, ?_, fun Z w hs => hs.out (Sd (Sk (Sr))) (memc M6 (memc M4 (memc M2 T8)))⟩
      exact ⟨A91, c91, A92, c92, A93, c93, rfl, by rw [hnx], by rw [hz6]⟩
     ·refine WC_skip ?_
      have hnx : nxF nx o.c o.n = nx := by unfold nxF; rw [List.getD_eq_getElem?_getD, hx]; exact if_neg (by simpa using h108)
      refine ⟨_, [_], [_, _, _], fun Z w hs => .nil, ?_, fun Z w hs => hs.out (Sd (Sk (Sr))) (memc M5 (memc M3 (memc M1 T7)))⟩
      exact ⟨A91, c91, A92, c92, A93, c93, rfl, by rw [hnx], by rw [hz6]⟩

end Go.Proofs.YtcjbjkbghgjmdaaGreatDoor
/- A command that a view takes, plain: all that the walk asks. -/
namespace Go.Proofs.YtcjbjkbghgjmdaaGreatDoor
open Go Go.GW
structure Tk (H : Hist) (X : List Ce) (n i : Nat) (o : GOp) (H2 : Hist) (eff : GOp) : Prop where
 put : putF H i o = (H2, eff, 0)
 ids : insAt (idsOf H.ents) i (o.c, o.n) = idsOf H2.ents
 ks : insAt (kindsOf H.ents) i (kindN o) = kindsOf H2.ents
 ts : insAt (textsOf H.ents) i o.text = textsOf H2.ents
 len : H2.ents.length = n + 1
 tot : (cellsN ((textsOf H2.ents).take (n + 1)) : Int) = H2.total
 cb : ∀ j, cellsN ((textsOf H2.ents).take j) ≤ 60000
 app : eff.kind ≠ 0 → EffOk eff X
 noEff : eff.kind = 0 → eff = zeroOp ∧ o.kind = 4
 text : eff.text.size ≤ o.text.size
 rs : eff.rs.length ≤ 60001
theorem take_facts {N : Int} {n : Nat} {H : Hist} {X : List Ce} {nx : List Int} (h : VI N n H X nx) {i : Nat} {o : GOp} (g : Good H i o) : ∃ H2 eff, Tk H X n i o H2 eff := by
 obtain ⟨es, nw, eff, p⟩ := put_good h.hv g
 have hp := p.put
 have hv2 := put_hv h.hv g p
 have hrow := put_row h.hv g p h.rule (by rw [h.len]; have := h.le; omega)
 refine ⟨_, eff, hp, ?_, ?_, ?_, ?_, ?_, ?_, hrow.1, hrow.2.1, ?_, ?_⟩
 ·have := p.noted (fun o => (o.c, o.n)) (fun a b hs => by rw [hs.c, hs.n]) h.hv g
  rw [hp] at this; exact this.symm
 ·have := p.noted kindN (fun a b hs => by unfold kindN; rw [hs.kind]) h.hv g
  rw [hp] at this; exact this.symm
 ·have := p.noted (·.text) (fun a b hs => hs.text) h.hv g
  rw [hp] at this; exact this.symm
 ·have := p.length h.hv g
  rw [hp, h.len] at this; exact this
 ·rw [cells_before hv2, before_ops, List.take_of_length_le, ← hv2.tot]
  have := p.length h.hv g
  rw [hp, h.len] at this
  unfold Hist.ops
  rw [List.length_map]; exact Nat.le_of_eq this
 ·intro j
  have h1 := cells_before hv2 j
  obtain ⟨s1, s2, s3, s4⟩ := hv2.split j
  have h2 := sumO_nonneg s2
  have h3 := hv2.le
  simp only at *
  omega
 ·rcases g.right.kind with hk | hk | hk
  ·rw [(p.ins hk).2.2]; exact Nat.le_refl _
  ·rw [(p.hide hk).2.2]; exact Nat.zero_le _
  ·rw [(p.status hk).2.2]
   rcases turned_cases H i o with e | ⟨k, e, _, _, _, _, h5⟩
   ·rw [e]; exact Nat.zero_le _
   ·rw [h5]; exact Nat.zero_le _
 ·obtain ⟨c1, c2, c3, c4, c5⟩ := cross_good h.hv g
  have ht := h.total
  have hl := h.le
  rcases g.right.kind with hk | hk | hk
  ·rw [(p.ins hk).2.2]; exact Nat.zero_le _
  ·rw [(p.hide hk).2.2]
   obtain ⟨t1, t2⟩ := c2.cov (c4.kind.trans hk) (by omega)
   have := t2.len (by omega)
   show (carryF o (H.ops.drop i)).1.rs.length ≤ _
   omega
  ·rw [(p.status hk).2.2]
   rcases turned_cases H i o with e | ⟨k, e, _, h2, _, _, h5⟩
   ·rw [e]; exact Nat.zero_le _
   ·rw [h5]
    have := (h.hv.pls e (List.mem_of_getElem? h2)).len (by omega)
    show e.now.length ≤ _
    omega
theorem good_fit {N : Int} {n : Nat} {H : Hist} {X : List Ce} {nx : List Int} (h : VI N n H X nx) {i : Nat} {o : GOp} (g : Good H i o) (ht : o.text.size ≤ 1073741824) : Fit o := by
 have hl := h.le
 have htt := h.total
 have hr := h.room i
 have hrs : o.rs.length ≤ 4398046511104 := by
  by_cases hk : o.kind = 2
  ·have := (g.right.cov hk (by omega)).2.len (by omega)
   omega
  ·rw [g.right.noRs hk]; exact Nat.zero_le _
 have hat : 0 ≤ o.at_ ∧ o.at_ ≤ 65535 := by
  rcases g.right.kind with hk | hk | hk
  ·have := g.right.ins hk; omega
  all_goals
   have hh := (g.right.head g.right.w0).2.2
   have h0 : o.at_ = 0 := by
    unfold extraF at hh
    have h1 : o.kind ≠ 1 := by omega
    rcases Int.lt_trichotomy o.at_ 0 with h2 | h2 | h2
    ·exfalso; apply hh; have : o.at_ ≠ 0 := by omega
     simp [h1, this]
    ·exact h2
    ·exfalso; apply hh; have : o.at_ ≠ 0 := by omega
     simp [h1, this]
   omega
 exact ⟨by omega, hrs, by omega, by omega⟩
def TakeP (v h m b : Nat) (H2 : Hist) (X2 : List Ce) (nx2 : List Int) : Value → List Part → List Fact → Prop := fun u Lo fs => u = .bool true ∧ ViewAt v h m b H2 X2 nx2 Lo fs
end Go.Proofs.YtcjbjkbghgjmdaaGreatDoor
/- Ranges are held against each other. -/
namespace Go.Proofs.YtcjbjkbghgjmdaaGreatDoor
open Go Go.GW
theorem eq119 (a b c d : Int) : EqT Tryz.prog 119 #[.int .i64 a, .int .i64 b] #[.int .i64 c, .int .i64 d] (a == c && b == d) := ⟨by kernel_rfl, fun k w => by
 have h1 : ∀ (cs : List Value) (o : Nat) (v : Value) w, cs[o]? = some v → (part 3 cs.toArray o).run Tryz.prog w = .ok v w := fun cs o v w h => run_part1 Un3 rfl h
 have h2 : ∀ (x y : Int) w, (Op.equalIn (k + 8) 3 (.int .i64 x) (.int .i64 y)).run Tryz.prog w = .ok (x == y) w := fun x y w => run_equalIn_int w (k + 7) 3 .i64 .i64 x y Un3
 have hf : ∃ f1 f2 : Field, (Tryz.prog.fieldsOf 119).toList = [f1, f2] ∧ (f1.name ≠ "_" ∧ f1.type = 3 ∧ f1.offset = 0) ∧ (f2.name ≠ "_" ∧ f2.type = 3 ∧ f2.offset = 1) := ⟨⟨ "Lo", 3, 0, false, "", "", 0⟩, ⟨ "Hi", 3, 1, false, "", "", 8⟩, by kernel_rfl, ⟨by decide, rfl, rfl⟩, ⟨by decide, rfl, rfl⟩⟩
 obtain ⟨f1, f2, e, ⟨n1, t1, o1⟩, ⟨n2, t2, o2⟩⟩ := hf
 rw [show k + 9 = (k + 8) + 1 from rfl, run_equalIn_struct w (k + 8) 119 _ _ (by kernel_rfl) (by kernel_rfl), e]
 simp only [Op.eqFields, n1, n2, t1, t2, o1, o2, ne_eq, not_false_eq_true, if_true, Sem.run_bind, h1 [.int .i64 a, .int .i64 b] 0 _ _ rfl, h1 [.int .i64 c, .int .i64 d] 0 _ _ rfl, h1 [.int .i64 a, .int .i64 b] 1 _ _ rfl, h1 [.int .i64 c, .int .i64 d] 1 _ _ rfl, Result.andThen_ok, h2]
 cases h3 : (a == c) <;> cases h4 : (b == d) <;> simp [h1 [.int .i64 a, .int .i64 b] 1 _ _ rfl, h1 [.int .i64 c, .int .i64 d] 1 _ _ rfl, h2, h4, Op.eqFields]⟩
end Go.Proofs.YtcjbjkbghgjmdaaGreatDoor
