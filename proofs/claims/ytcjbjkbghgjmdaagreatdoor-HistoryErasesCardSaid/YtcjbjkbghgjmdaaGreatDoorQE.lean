/- The walks and laws that this claim's card rests on, part 5. -/
import Derived.Test.YtcjbjkbghgjmdaaGreatDoorQD
set_option linter.unusedVariables false
set_option linter.unusedSimpArgs false
open Go.Proofs.Tryz renaming underlying3 → Un3, underlying4 → Un4, underlying9 → Un9, underlying21 → Un21, underlying22 → Un22, underlying26 → Un26, underlying28 → Un28, underlying29 → Un29, underlying30 → Un30, underlying31 → Un31, underlying32 → Un32, underlying34 → Un34, underlying37 → Un37, underlying42 → Un42, underlying44 → Un44, underlying45 → Un45, underlying47 → Un47, underlying51 → Un51, underlying57 → Un57, underlying63 → Un63, underlying65 → Un65, underlying67 → Un67, underlying69 → Un69, underlying70 → Un70, underlying72 → Un72, underlying74 → Un74, underlying76 → Un76, underlying100 → Un100, underlying102 → Un102, underlying104 → Un104, underlying114 → Un114, underlying119 → Un119, underlying130 → Un130, underlying135 → Un135, underlying136 → Un136, underlying138 → Un138, underlying144 → Un144, underlying166 → Un166, underlying169 → Un169, underlying170 → Un170, underlying177 → Un177
/- Walks: xform, single operations. -/
namespace Go.Proofs.YtcjbjkbghgjmdaaGreatDoor
open Go Go.GW
set_option maxRecDepth 10000 in
theorem own_s (o : GOp) (A : Option Addr) (c : Nat) (hf : Fit o) : Sp Tryz.prog 99 [opV o A c] [] [barF, RdF rgD A c o.rs] (Is (.int .i64 (ownF o))) := by
 refine Sp.of (n := 23) ⟨_, Tryz.func99, rfl, rfl, rfl, rfl⟩ (Nat.le_of_ble_eq_true rfl) fun Ps As => WC_seq (WC_region (WL_main rfl (OW_box (cs := [_, _, _, _, _, _, _, _, _]) rfl rfl (by decide) fun b1 => Lq (q_assign rfl) (WL_nil (thenN (WC_seq (WC_seq (WC_region (Lq (q_field (o' := 0) Un47 rfl ti44 rfl rfl) (Lq (q_field (o' := 2) Un44 rfl ti42 rfl rfl) (Lq (q_load1 Un42 rfl rfl own0 rfl) (Lq (q_eql rfl rfl) (Lq (q_move rfl) ?_)))))))))))))
 refine WL_guard (t := 7) rfl (fun g7 => ?_) (fun g7 => ?_)
 ·refine Lg rfl rfl rfl g7 (q_field (o' := 3) Un47 rfl ti3 rfl rfl) (Lg rfl rfl rfl g7 (q_load1 Un3 rfl rfl own0 rfl) (Lg rfl rfl rfl g7 (q_geq rfl rfl) (Lq (q_pickT rfl g7 rfl) (Lq (q_move rfl) (WL_guard (t := 12) rfl (fun g12 => ?_) (fun g12 => ?_))))))
  ·refine Lg rfl rfl rfl g12 (q_field (o' := 3) Un47 rfl ti3 rfl rfl) (Lg rfl rfl rfl g12 (q_load1 Un3 rfl rfl own0 rfl) (Lg rfl rfl rfl g12 (q_leq rfl rfl) (Lq (q_pickT rfl g12 rfl) (WL_nil (thenN (WC_fr [(16, _), (2, _), (1, _)] (.cons rfl (.cons rfl (.cons rfl (.nil _)))) (WC_cond rfl (fun h16 => ?_) (fun h16 => ?_))))))))
   ·refine WC_seq (WC_region (Lq (q_loadN (vs := [_, _, _, _, _, _, _, _, _]) Un47 rfl ti47 rfl own0 rfl rfl) (Lq (q_field (o' := 3) Un47 rfl ti3 rfl rfl) (Lq (q_load1 Un3 rfl rfl own0 rfl) (WL_main rfl (OW_call0 (opCheck_s o A c o.at_ (by have := hf.text; omega) hf.rs) (.cons rfl (.cons rfl (.nil))) (by decide) (memc M0 (memc M1 mem0)) fun u2_3 Lo fs hres => ?_))))))
    obtain ⟨rfl, rfl, rfl⟩ := hres
    refine Lq (q_assign rfl) (WL_nil (thenN (WC_ret (thenRet ?_))))
    refine ⟨_, [], [], fun Z w hs => .tmp rfl (.nil), ?_, fun Z w hs => hs.out (Sd (Sr)) (fun _ h => h)⟩
    try simp only [Bp, Bq] at *
    exact ⟨congrArg (Value.int .i64) (by unfold ownF; first | (simp_all; done) | (simp_all; intros; omega) | (simp_all; repeat' split; all_goals omega) | (repeat' split; all_goals first | rfl | omega)), rfl, rfl⟩
   ·refine WC_skip (thenN (WC_seq (WC_region (Lq (q_loadN (vs := [_, _, _, _, _, _, _, _, _]) Un47 rfl ti47 rfl own0 rfl rfl) (WL_main rfl (OW_call0 (opCheck_s o A c 1048576 (by have := hf.text; omega) hf.rs) (.cons rfl (.cons rfl (.nil))) (by decide) (memc M0 (memc M1 mem0)) fun u3_1 Lo fs hres => ?_))))))
    obtain ⟨rfl, rfl, rfl⟩ := hres
    refine Lq (q_assign rfl) (WL_nil (thenN (WC_ret ?_)))
    refine ⟨_, [], [], fun Z w hs => .tmp rfl (.nil), ?_, fun Z w hs => hs.out (Sd (Sr)) (fun _ h => h)⟩
    try simp only [Bp, Bq] at *
    exact ⟨congrArg (Value.int .i64) (by unfold ownF; first | (simp_all; done) | (simp_all; intros; omega) | (simp_all; repeat' split; all_goals omega) | (repeat' split; all_goals first | rfl | omega)), rfl, rfl⟩
  ·refine Ln rfl rfl rfl g12 (Ln rfl rfl rfl g12 (Ln rfl rfl rfl g12 (Lq (q_pickF rfl g12 rfl) (WL_nil (thenN (WC_fr [(16, _), (2, _), (1, _)] (.cons rfl (.cons rfl (.cons rfl (.nil _)))) (WC_false rfl rfl (WC_skip (thenN (WC_seq (WC_region (Lq (q_loadN (vs := [_, _, _, _, _, _, _, _, _]) Un47 rfl ti47 rfl own0 rfl rfl) (WL_main rfl (OW_call0 (opCheck_s o A c 1048576 (by have := hf.text; omega) hf.rs) (.cons rfl (.cons rfl (.nil))) (by decide) (memc M0 (memc M1 mem0)) fun u3_1 Lo fs hres => ?_))))))))))))))
   obtain ⟨rfl, rfl, rfl⟩ := hres
   refine Lq (q_assign rfl) (WL_nil (thenN (WC_ret ?_)))
   refine ⟨_, [], [], fun Z w hs => .tmp rfl (.nil), ?_, fun Z w hs => hs.out (Sd (Sr)) (fun _ h => h)⟩
   try simp only [Bp, Bq] at *
   exact ⟨congrArg (Value.int .i64) (by unfold ownF; first | (simp_all; done) | (simp_all; intros; omega) | (simp_all; repeat' split; all_goals omega) | (repeat' split; all_goals first | rfl | omega)), rfl, rfl⟩
 ·refine Ln rfl rfl rfl g7 (Ln rfl rfl rfl g7 (Ln rfl rfl rfl g7 (Lq (q_pickF rfl g7 rfl) (Lq (q_move rfl) (Ln rfl rfl rfl rfl (Ln rfl rfl rfl rfl (Ln rfl rfl rfl rfl (Lq (q_pickF rfl rfl rfl) (WL_nil (thenN ?_))))))))))
  refine WC_fr [(16, _), (2, _), (1, _)] (.cons rfl (.cons rfl (.cons rfl (.nil _)))) (WC_false rfl rfl (WC_skip (thenN (WC_seq (WC_region (Lq (q_loadN (vs := [_, _, _, _, _, _, _, _, _]) Un47 rfl ti47 rfl own0 rfl rfl) (WL_main rfl (OW_call0 (opCheck_s o A c 1048576 (by have := hf.text; omega) hf.rs) (.cons rfl (.cons rfl (.nil))) (by decide) (memc M0 (memc M1 mem0)) fun u3_1 Lo fs hres => ?_))))))))
  obtain ⟨rfl, rfl, rfl⟩ := hres
  refine Lq (q_assign rfl) (WL_nil (thenN (WC_ret ?_)))
  refine ⟨_, [], [], fun Z w hs => .tmp rfl (.nil), ?_, fun Z w hs => hs.out (Sd (Sr)) (fun _ h => h)⟩
  try simp only [Bp, Bq] at *
  exact ⟨congrArg (Value.int .i64) (by unfold ownF; first | (simp_all; done) | (simp_all; intros; omega) | (simp_all; repeat' split; all_goals omega) | (repeat' split; all_goals first | rfl | omega)), rfl, rfl⟩

structure OwI (xs : List GOp) (k : Nat) : Prop where
 le : k ≤ xs.length
 eq : ownsF xs = ownsF (xs.drop k)
theorem OwI.next {xs : List GOp} {k : Nat} (h : OwI xs k) (hk : k < xs.length) (h0 : ownF xs[k] = 0) : OwI xs (k + 1) := by
 refine ⟨hk, ?_⟩
 rw [h.eq, List.drop_eq_getElem_cons hk, ownsF, if_neg (by simpa using h0)]
theorem OwI.bad {xs : List GOp} {k : Nat} (h : OwI xs k) (hk : k < xs.length) (h0 : ownF xs[k] ≠ 0) : ownsF xs = ownF xs[k] := by
 rw [h.eq, List.drop_eq_getElem_cons hk, ownsF, if_pos h0]
theorem OwI.done {xs : List GOp} {k : Nat} (h : OwI xs k) (hk : ¬ k < xs.length) : ownsF xs = 0 := by
 rw [h.eq, List.drop_eq_nil_of_le (by omega)]; rfl

set_option maxRecDepth 10000 in
theorem owns_s (A : Option Addr) (c : Nat) (xs : List GOp) (hf : ∀ o ∈ xs, Fit o) (hl : xs.length ≤ 4398046511104) : Sp Tryz.prog 86 [.slice A xs.length c] [] [barF, RdF opD A c xs] (Is (.int .i64 (ownsF xs))) := by
 refine Sp.of (n := 18) ⟨_, Tryz.func86, rfl, rfl, rfl, rfl⟩ (Nat.le_of_ble_eq_true rfl) fun Ps As => WC_seq (WC_region (Lq (q_assign rfl) (WL_nil (thenN (WC_seq (WC_seq (WC_region (Lq (q_move rfl) (Lq (q_len Un51 rfl) (Lq (q_move rfl) (WL_nil (thenN (WC_block ?_)))))))))))))
 refine WC_loopE (α := Nat) (fun k => xs.length - k)
  (fun k => [(6, .slice A xs.length c), (7, .int .i64 xs.length), (8, .int .i64 k)])
  (fun k => Ps)
  (fun k => (barF :: RdF opD A c xs :: As))
  (fun k => OwI xs k)
  0 ?_ (.cons rfl (.cons rfl (.cons rfl (.nil _)))) (Sr) (fun _ h => h) ?_
 ·exact ⟨Nat.zero_le _, rfl⟩
 ·rintro k hI
  refine WC_seq (WC_region (Lq (q_lss rfl rfl) (WL_nil (thenN (WC_seq (WC_cond rfl (fun h9 => ?_) (fun h9 => ?_)))))))
  ·refine WC_skip (thenN (WC_seq (WC_block (WC_seq ?_))))
   have hk : k < xs.length := by simpa using h9
   refine WC_elem (k := k) M1 (List.getElem?_eq_getElem hk) (op_open _) fun b3 q3 y3 e3 => ?_
   cases e3
   refine WC_region (Lq (q_idxRd Un51 ti47 rfl rfl (by omega) (by omega)) (Lq (q_loadFN (k := 0) (vs := [_, _, _, _, _, _, _, _, _]) Un47 rfl ti47 rfl M0 rfl rfl rfl) (WL_main rfl (OW_alloc (cs := [_, _, _, _, _, _, _, _, _]) ti47 rfl (by decide) fun b4 => WL_main rfl (OW_storeN (cs' := [_, _, _, _, _, _, _, _, _]) (vs := [_, _, _, _, _, _, _, _, _]) ti47 rfl rfl rfl rfl rfl (Nat.le_of_ble_eq_true rfl) (.z) (WL_nil (thenN (WC_seq (WC_region (Lq (q_loadN (vs := [_, _, _, _, _, _, _, _, _]) Un47 rfl ti47 rfl own0 rfl rfl) (WL_main rfl (OW_call0 (own_s xs[k] y3.1 y3.2 (hf _ (List.getElem_mem hk))) (.cons rfl (.nil)) (by decide) (memc M2 (memc M1 mem0)) fun u4_1 Lo fs hres => ?_))))))))))))
   obtain ⟨rfl, rfl, rfl⟩ := hres
   refine Lq (q_assign rfl) (WL_nil (thenN (WC_seq (WC_region (Lq (q_move rfl) (Lq (q_neq rfl rfl) (WL_nil (thenN (WC_cond rfl (fun h15 => ?_) (fun h15 => ?_))))))))))
   ·refine WC_seq (WC_region (Lq (q_move rfl) (Lq (q_assign rfl) (WL_nil (thenN (WC_ret (blockRet (thenRet (thenRet (blockRet (thenRet ?_)))))))))))
    refine ⟨_, [], [], fun Z w hs => .tmp rfl (.nil), ?_, fun Z w hs => hs.out (Sd (Sr)) T2⟩
    try simp only [Bp, Bq] at *
    first
     | exact ⟨by rw [hI.done (by omega)]; rfl, rfl, rfl⟩
     | exact ⟨by rw [hI.bad hk (by omega)]; rfl, rfl, rfl⟩
   ·refine WC_skip (blockN (thenN (WC_region (Lq (q_add rfl rfl (wr64 (by omega))) (Lq (q_move rfl) (WL_nil (thenK ?_)))))))
    refine ⟨k + 1, ?_, (.cons rfl (.cons rfl (.cons rfl (.nil _)))), (Sd (Sr)), T2⟩
    try simp only [Bp, Bq] at *
    exact ⟨by omega, hI.next hk (by omega)⟩
  ·refine WC_exit (thenExit (thenExit (blockHit (thenN (WC_seq (WC_region (Lq (q_assign rfl) (WL_nil (thenN (WC_ret ?_))))))))))
   refine ⟨_, [], [], fun Z w hs => .tmp rfl (.nil), ?_, fun Z w hs => hs.out (Sr) (fun _ h => h)⟩
   try simp only [Bp, Bq] at *
   first
    | exact ⟨by rw [hI.done (by omega)]; rfl, rfl, rfl⟩
    | exact ⟨by rw [hI.bad hk (by omega)]; rfl, rfl, rfl⟩

theorem bd31Xw9  (w : World) : (Instr.build 47 #[]).run Tryz.prog w = .ok (.agg #[.int .i64 0, .int .i64 0, .int .i64 0, .int .i64 0, .string ⟨#[]⟩, .slice none 0 0, .int .i64 0, .int .i64 0, .bool false]) w := by kernel_rfl

set_option maxRecDepth 10000 in
theorem moved_s (a : GOp) (A : Option Addr) (c : Nat) (at_ : Int) (hs : a.text.size ≤ 2305843009213693952) (ha : -4611686018427387904 ≤ at_ ∧ at_ ≤ 4611686018427387904) : Sp Tryz.prog 101 [opV a A c, .int .i64 at_] [] [barF] (OpP (movedF a at_)) := by
 refine Sp.of (n := 16) ⟨_, Tryz.func101, rfl, rfl, rfl, rfl⟩ (Nat.le_of_ble_eq_true rfl) fun Ps As => WC_seq (WC_region (WL_main rfl (OW_box (cs := [_, _, _, _, _, _, _, _, _]) rfl rfl (by decide) fun b2 => WL_main rfl (OW_alloc (cs := [_, _, _, _, _, _, _, _, _]) ti47 rfl (by decide) fun b4 => Lq (q_assign rfl) (WL_nil (thenN (WC_seq (WC_seq (WC_fact (A := RdF rgD none 0 []) (fun Z w hs => RdS.nil _ _ _) ?_)))))))))
 have hw := widthF_le a
 refine WC_region (Lq (q_move rfl) (Lq (q_loadN (vs := [_, _, _, _, _, _, _, _, _]) Un47 rfl ti47 rfl (ownS (own0)) rfl rfl) (WL_main rfl (OW_call0 (width_s a A c (by omega)) (.cons rfl (.nil)) (by decide) (memc M1 mem0) fun u1_2 Lo fs hres => ?_))))
 obtain ⟨rfl, rfl, rfl⟩ := hres
 refine Lq (q_add rfl rfl (wr64 (by omega))) (Lq (q_gtr rfl rfl) (WL_nil (thenN (WC_cond rfl (fun h10 => ?_) (fun h10 => ?_)))))
 ·refine WC_seq (WC_region (Lq (q_build (.nil) (bd31Xw9)) (WL_main rfl (OW_storeN (cs' := [_, _, _, _, _, _, _, _, _]) (vs := [_, _, _, _, _, _, _, _, _]) ti47 rfl rfl rfl rfl rfl (Nat.le_of_ble_eq_true rfl) (.z) (Lq (q_assign rfl) (WL_nil (thenN (WC_ret (thenRet ?_)))))))))
  refine ⟨_, [], [RdF rgD none 0 []], fun Z w hs => RV_ownN hs Un47 rfl ti47 rfl own0 rfl (.tmp rfl (.nil)), ?_, fun Z w hs => hs.out (Sd (Sd (Sr))) (fun _ h => h)⟩
  try simp only [Bp, Bq] at *
  exact ⟨none, 0, by unfold movedF; first | (rw [if_pos (by omega)]; rfl) | (rw [if_neg (by omega)]; rfl), rfl, by unfold movedF; first | (rw [if_pos (by omega)]; rfl) | (rw [if_neg (by omega)])⟩
 ·refine WC_skip (thenN (WC_seq (WC_region (Lq (q_move rfl) (Lq (q_field (o' := 3) Un47 rfl ti3 rfl rfl) (WL_main rfl (OW_store1 ti3 rfl rfl rfl (.s (.s (.s (.z)))) (.s (.z)) (WL_nil (thenN (WC_seq (WC_region (Lq (q_field (o' := 5) Un47 rfl ti45 rfl rfl) (WL_main rfl (OW_store1 ti45 rfl rfl rfl (.s (.s (.s (.s (.s (.z)))))) (.s (.z)) (WL_nil (thenN (WC_seq (WC_region (Lq (q_loadN (vs := [_, _, _, _, _, _, _, _, _]) Un47 rfl ti47 rfl (ownS (own0)) rfl rfl) (WL_main rfl (OW_storeN (cs' := [_, _, _, _, _, _, _, _, _]) (vs := [_, _, _, _, _, _, _, _, _]) ti47 rfl rfl rfl rfl rfl (Nat.le_of_ble_eq_true rfl) (.z) ?_)))))))))))))))))))))
  refine Lq (q_assign rfl) (WL_nil (thenN (WC_fr [(5, _), (4, _)] (.cons rfl (.cons rfl (.nil _))) (WC_ret ?_))))
  refine ⟨_, [], [RdF rgD none 0 []], fun Z w hs => RV_ownN hs Un47 rfl ti47 rfl own0 rfl (.tmp rfl (.nil)), ?_, fun Z w hs => hs.out (Sd (Sd (Sr))) (fun _ h => h)⟩
  try simp only [Bp, Bq] at *
  exact ⟨none, 0, by unfold movedF; first | (rw [if_pos (by omega)]; rfl) | (rw [if_neg (by omega)]; rfl), rfl, by unfold movedF; first | (rw [if_pos (by omega)]; rfl) | (rw [if_neg (by omega)])⟩


set_option maxRecDepth 10000 in
theorem ranged_s (a : GOp) (A A2 : Option Addr) (c c2 : Nat) (l : List Rg) (e : Int) : Sp Tryz.prog 102 [opV a A c, .slice A2 l.length c2, .int .i64 e] [] [RdF rgD A2 c2 l] (OpP (rangedF a l e)) := by
 refine Sp.of (n := 15) ⟨_, Tryz.func102, rfl, rfl, rfl, rfl⟩ (Nat.le_of_ble_eq_true rfl) fun Ps As => WC_seq (WC_region (WL_main rfl (OW_box (cs := [_, _, _, _, _, _, _, _, _]) rfl rfl (by decide) fun b3 => WL_main rfl (OW_alloc (cs := [_, _, _, _, _, _, _, _, _]) ti47 rfl (by decide) fun b6 => Lq (q_assign rfl) (WL_nil (thenN (WC_seq (WC_seq (WC_fact (A := RdF rgD none 0 []) (fun Z w hs => RdS.nil _ _ _) (WC_region (Lq (q_move rfl) (Lq (q_neq rfl rfl) ?_))))))))))))
 refine WL_nil (thenN (WC_cond rfl (fun h9 => ?_) (fun h9 => ?_)))
 ·refine WC_seq (WC_region (Lq (q_build (.nil) (bd31Xw9)) (Lq (q_move rfl) (WL_main rfl (OW_storeN (cs' := [_, _, _, _, _, _, _, _, _]) (vs := [_, _, _, _, _, _, _, _, _]) ti47 rfl rfl rfl rfl rfl (Nat.le_of_ble_eq_true rfl) (.z) (Lq (q_assign rfl) (WL_nil (thenN (WC_ret (thenRet ?_))))))))))
  refine ⟨_, [], [RdF rgD none 0 []], fun Z w hs => RV_ownN hs Un47 rfl ti47 rfl own0 rfl (.tmp rfl (.nil)), ?_, fun Z w hs => hs.out (Sd (Sd (Sr))) (fun _ h => h)⟩
  try simp only [Bp, Bq] at *
  exact ⟨none, 0, by unfold rangedF; rw [if_pos (by omega)]; rfl, rfl, by unfold rangedF; rw [if_pos (by omega)]; rfl⟩
 ·refine WC_skip (thenN (WC_seq (WC_region (Lq (q_move rfl) (Lq (q_field (o' := 5) Un47 rfl ti45 rfl rfl) (WL_main rfl (OW_store1 ti45 rfl rfl rfl (.s (.s (.s (.s (.s (.z)))))) (.s (.z)) (WL_nil (thenN (WC_seq (WC_region (Lq (q_loadN (vs := [_, _, _, _, _, _, _, _, _]) Un47 rfl ti47 rfl (ownS (own0)) rfl rfl) (WL_main rfl (OW_storeN (cs' := [_, _, _, _, _, _, _, _, _]) (vs := [_, _, _, _, _, _, _, _, _]) ti47 rfl rfl rfl rfl rfl (Nat.le_of_ble_eq_true rfl) (.z) (Lq (q_assign rfl) (WL_nil (thenN (WC_ret ?_))))))))))))))))))
  refine ⟨_, [], [RdF rgD A2 c2 l], fun Z w hs => RV_ownN hs Un47 rfl ti47 rfl own0 rfl (.tmp rfl (.nil)), ?_, fun Z w hs => hs.out (Sd (Sd (Sr))) (memc M1 T1)⟩
  try simp only [Bp, Bq] at *
  exact ⟨A2, c2, by unfold rangedF; rw [if_neg (by omega)]; rfl, rfl, by unfold rangedF; rw [if_neg (by omega)]⟩


set_option maxRecDepth 10000 in
theorem include_s (a b : GOp) (Aa Ab : Option Addr) (ca cb : Nat) (earlier : Bool) (ha : Fit a) (hb : Fit b) : Sp Tryz.prog 88 [opV a Aa ca, opV b Ab cb, .bool earlier] [] [barF, RdF rgD Aa ca a.rs] (OpP (includeF a b earlier)) := by
 refine Sp.of (n := 71) ⟨_, Tryz.func88, rfl, rfl, rfl, rfl⟩ (Nat.le_of_ble_eq_true rfl) fun Ps As => WC_seq (WC_region (WL_main rfl (OW_box (cs := [_, _, _, _, _, _, _, _, _]) rfl rfl (by decide) fun b3 => WL_main rfl (OW_box (cs := [_, _, _, _, _, _, _, _, _]) rfl rfl (by decide) fun b4 => WL_main rfl (OW_alloc (cs := [_, _, _, _, _, _, _, _, _]) ti47 rfl (by decide) fun b6 => Lq (q_assign rfl) (WL_nil (thenN (WC_seq (WC_seq (WC_fact (A := RdF rgD none 0 []) (fun Z w hs => RdS.nil _ _ _) (WC_region (Lq (q_loadN (vs := [_, _, _, _, _, _, _, _, _]) Un47 rfl ti47 rfl (ownS (ownS (own0))) rfl rfl) ?_))))))))))))
 refine Lq (q_loadN (vs := [_, _, _, _, _, _, _, _, _]) Un47 rfl ti47 rfl (ownS (own0)) rfl rfl) (WL_main rfl (OW_call0 (clash_s a b Aa Ab ca cb) (.cons rfl (.cons rfl (.nil))) (by decide) mem0 fun u1_2 Lo fs hres => ?_))
 obtain ⟨rfl, rfl, rfl⟩ := hres
 refine WL_nil (thenN (WC_cond rfl (fun h13 => ?_) (fun h13 => ?_)))
 ·refine WC_seq (WC_region (Lq (q_build (.nil) (bd31Xw9)) (WL_main rfl (OW_storeN (cs' := [_, _, _, _, _, _, _, _, _]) (vs := [_, _, _, _, _, _, _, _, _]) ti47 rfl rfl rfl rfl rfl (Nat.le_of_ble_eq_true rfl) (.z) (Lq (q_assign rfl) (WL_nil (thenN (WC_ret (thenRet ?_)))))))))
  refine ⟨_, [], [RdF rgD none 0 []], fun Z w hs => RV_ownN hs Un47 rfl ti47 rfl own0 rfl (.tmp rfl (.nil)), ?_, fun Z w hs => hs.out (Sd (Sd (Sd (Sr)))) (fun _ h => h)⟩
  try simp only [Bp, Bq] at *
  have hF : includeF a b earlier = (zeroOp, 50) := by
   unfold includeF clashF
   first | exact if_pos ‹_› | (simp_all; done) | (simp_all; omega) | (repeat' split; all_goals first | rfl | omega | (simp_all; done) | (simp_all; omega))
  exact ⟨none, 0, by rw [hF]; rfl, rfl, by first | (rw [hF]; done) | (rw [hF]; rfl)⟩
 ·refine WC_skip (thenN (WC_seq (WC_seq (WC_region (Lq (q_field (o' := 0) Un47 rfl ti44 rfl rfl) (Lq (q_field (o' := 2) Un44 rfl ti42 rfl rfl) (Lq (q_load1 Un42 rfl rfl (ownS (own0)) rfl) (Lq (q_neq rfl rfl) (WL_nil (thenN (WC_fr [(18, _), (7, _), (6, _), (4, _), (3, _), (2, _)] (.cons rfl (.cons rfl (.cons rfl (.cons rfl (.cons rfl (.cons rfl (.nil _))))))) (WC_cond rfl (fun h18 => ?_) (fun h18 => ?_)))))))))))))
  ·refine WC_seq (WC_region (Lq (q_loadN (vs := [_, _, _, _, _, _, _, _, _]) Un47 rfl ti47 rfl (ownS (ownS (own0))) rfl rfl) (WL_main rfl (OW_call0 (clone_s a Aa ca ha.rs) (.cons rfl (.nil)) (by decide) (memc M2 mem0) fun u4_1 Lo fs hres => ?_))))
   obtain ⟨A1, c1, rfl, rfl, rfl⟩ := hres
   refine WL_main rfl (OW_storeN (cs' := [_, _, _, _, _, _, _, _, _]) (vs := [_, _, _, _, _, _, _, _, _]) ti47 rfl rfl rfl rfl rfl (Nat.le_of_ble_eq_true rfl) (.z) (Lq (q_assign rfl) (WL_nil (thenN (WC_ret (thenRet ?_))))))
   refine ⟨_, [], [RdF rgD A1 c1 a.rs], fun Z w hs => RV_ownN hs Un47 rfl ti47 rfl own0 rfl (.tmp rfl (.nil)), ?_, fun Z w hs => hs.out (Sd (Sd (Sd (Sr)))) (memc M0 T2)⟩
   try simp only [Bp, Bq] at *
   have hF : includeF a b earlier = (a, 0) := by
    unfold includeF clashF
    first | exact if_pos ‹_› | (simp_all; done) | (simp_all; omega) | (repeat' split; all_goals first | rfl | omega | (simp_all; done) | (simp_all; omega))
   exact ⟨A1, c1, by rw [hF]; rfl, rfl, by first | (rw [hF]; done) | (rw [hF]; rfl)⟩
  ·refine WC_skip (thenN (WC_seq (WC_region (Lq (q_loadN (vs := [_, _, _, _, _, _, _, _, _]) Un47 rfl ti47 rfl (ownS (own0)) rfl rfl) (WL_main rfl (OW_call0 (width_s b Ab cb (by have := hb.text; omega)) (.cons rfl (.nil)) (by decide) (memc M1 mem0) fun u5_1 Lo fs hres => ?_))))))
   obtain ⟨rfl, rfl, rfl⟩ := hres
   refine Lq (q_assign rfl) (WL_nil (thenN (WC_seq (WC_seq (WC_region (Lq (q_field (o' := 0) Un47 rfl ti44 rfl rfl) (Lq (q_field (o' := 2) Un44 rfl ti42 rfl rfl) (Lq (q_load1 Un42 rfl rfl (ownS (ownS (own0))) rfl) (WL_nil (thenN (WC_block (WC_seq (WC_region (Lq (q_eql rfl rfl) (Lq (q_assign rfl) (WL_nil (thenN (WC_fr [(26, _), (25, _), (8, _), (7, _), (6, _), (4, _), (3, _), (2, _)] (.cons rfl (.cons rfl (.cons rfl (.cons rfl (.cons rfl (.cons rfl (.cons rfl (.cons rfl (.nil _))))))))) ?_))))))))))))))))))
   refine WC_cond rfl (fun h26 => ?_) (fun h26 => ?_)
   ·refine WC_seq (WC_region (Lq (q_field (o' := 3) Un47 rfl ti3 rfl rfl) (Lq (q_load1 Un3 rfl rfl (ownS (own0)) rfl) (Lq (q_field (o' := 3) Un47 rfl ti3 rfl rfl) (Lq (q_load1 Un3 rfl rfl (ownS (ownS (own0))) rfl) (Lq (q_lss rfl rfl) (Lq (q_move rfl) (WL_guard (t := 33) rfl (fun g33 => ?_) (fun g33 => ?_)))))))))
    ·refine Ln rfl rfl rfl g33 (Ln rfl rfl rfl g33 (Ln rfl rfl rfl g33 (Ln rfl rfl rfl g33 (Ln rfl rfl rfl g33 (Ln rfl rfl rfl g33 (WL_gun rfl rfl rfl (by decide) (Ln rfl rfl rfl g33 (Lq (q_pickT rfl g33 rfl) (WL_nil (thenN ?_))))))))))
     refine WC_fr [(42, _), (8, _), (7, _), (6, _), (3, _)] (.cons rfl (.cons rfl (.cons rfl (.cons rfl (.cons rfl (.nil _)))))) (WC_true rfl rfl (WC_seq (WC_region (Lq (q_loadN (vs := [_, _, _, _, _, _, _, _, _]) Un47 rfl ti47 rfl (ownS (ownS (own0))) rfl rfl) (Lq (q_field (o' := 3) Un47 rfl ti3 rfl rfl) (Lq (q_load1 Un3 rfl rfl (ownS (ownS (own0))) rfl) (Lq (q_move rfl) (Lq (q_add rfl rfl (wr64 (by have := ha.lo; have := ha.hi; have := hb.text; have := widthF_le b; omega))) (WL_main rfl (OW_call0 (moved_s a Aa ca (a.at_ + widthF b) ha.text (by have := ha.lo; have := ha.hi; have := hb.text; have := widthF_le b; omega)) (.cons rfl (.cons rfl (.nil))) (by decide) (memc M1 mem0) fun u9_5 Lo fs hres => ?_))))))))))
     obtain ⟨A2, c2, rfl, rfl, rfl⟩ := hres
     refine Lq (q_extract (vs := [_, _]) rfl rfl) (Lq (q_extract (vs := [_, _]) rfl rfl) (WL_main rfl (OW_storeN (cs' := [_, _, _, _, _, _, _, _, _]) (vs := [_, _, _, _, _, _, _, _, _]) ti47 rfl rfl rfl rfl rfl (Nat.le_of_ble_eq_true rfl) (.z) (Lq (q_assign rfl) (WL_nil (thenN (WC_ret (blockRet (thenRet ?_)))))))))
     refine ⟨_, [], [RdF rgD A2 c2 (movedF a (a.at_ + widthF b)).1.rs], fun Z w hs => RV_ownN hs Un47 rfl ti47 rfl own0 rfl (.tmp rfl (.nil)), ?_, fun Z w hs => hs.out (Sd (Sd (Sd (Sr)))) (memc M0 T2)⟩
     try simp only [Bp, Bq] at *
     have hF : includeF a b earlier = movedF a (a.at_ + widthF b) := by
      unfold includeF clashF
      first | exact if_pos ‹_› | (simp_all; done) | (simp_all; omega) | (repeat' split; all_goals first | rfl | omega | (simp_all; done) | (simp_all; omega))
     exact ⟨A2, c2, by rw [hF]; rfl, rfl, by first | (rw [hF]; done) | (rw [hF]; rfl)⟩
    ·refine Lg rfl rfl rfl g33 (q_field (o' := 3) Un47 rfl ti3 rfl rfl) (Lg rfl rfl rfl g33 (q_load1 Un3 rfl rfl (ownS (own0)) rfl) (Lg rfl rfl rfl g33 (q_field (o' := 3) Un47 rfl ti3 rfl rfl) (Lg rfl rfl rfl g33 (q_load1 Un3 rfl rfl (ownS (ownS (own0))) rfl) (Lg rfl rfl rfl g33 (q_eql rfl rfl) (Lg rfl rfl rfl g33 (q_move rfl) (WL_guard (t := 39) rfl (fun g39 => ?_) (fun g39 => ?_)))))))
     ·refine Lg rfl rfl rfl g39 (q_move rfl) (Lg rfl rfl rfl g33 (q_pickT rfl g39 rfl) (Lq (q_pickF rfl g33 rfl) (WL_nil (thenN (WC_fr [(42, _), (8, _), (7, _), (6, _), (3, _)] (.cons rfl (.cons rfl (.cons rfl (.cons rfl (.cons rfl (.nil _)))))) (WC_cond rfl (fun h42 => ?_) (fun h42 => ?_)))))))
      ·refine WC_seq (WC_region (Lq (q_loadN (vs := [_, _, _, _, _, _, _, _, _]) Un47 rfl ti47 rfl (ownS (ownS (own0))) rfl rfl) (Lq (q_field (o' := 3) Un47 rfl ti3 rfl rfl) (Lq (q_load1 Un3 rfl rfl (ownS (ownS (own0))) rfl) (Lq (q_move rfl) (Lq (q_add rfl rfl (wr64 (by have := ha.lo; have := ha.hi; have := hb.text; have := widthF_le b; omega))) (WL_main rfl (OW_call0 (moved_s a Aa ca (a.at_ + widthF b) ha.text (by have := ha.lo; have := ha.hi; have := hb.text; have := widthF_le b; omega)) (.cons rfl (.cons rfl (.nil))) (by decide) (memc M1 mem0) fun u9_5 Lo fs hres => ?_))))))))
       obtain ⟨A2, c2, rfl, rfl, rfl⟩ := hres
       refine Lq (q_extract (vs := [_, _]) rfl rfl) (Lq (q_extract (vs := [_, _]) rfl rfl) (WL_main rfl (OW_storeN (cs' := [_, _, _, _, _, _, _, _, _]) (vs := [_, _, _, _, _, _, _, _, _]) ti47 rfl rfl rfl rfl rfl (Nat.le_of_ble_eq_true rfl) (.z) (Lq (q_assign rfl) (WL_nil (thenN (WC_ret (blockRet (thenRet ?_)))))))))
       refine ⟨_, [], [RdF rgD A2 c2 (movedF a (a.at_ + widthF b)).1.rs], fun Z w hs => RV_ownN hs Un47 rfl ti47 rfl own0 rfl (.tmp rfl (.nil)), ?_, fun Z w hs => hs.out (Sd (Sd (Sd (Sr)))) (memc M0 T2)⟩
       try simp only [Bp, Bq] at *
       have hF : includeF a b earlier = movedF a (a.at_ + widthF b) := by
        unfold includeF clashF
        first | exact if_pos ‹_› | (simp_all; done) | (simp_all; omega) | (repeat' split; all_goals first | rfl | omega | (simp_all; done) | (simp_all; omega))
       exact ⟨A2, c2, by rw [hF]; rfl, rfl, by first | (rw [hF]; done) | (rw [hF]; rfl)⟩
      ·refine WC_skip (blockN (thenN (WC_seq (WC_region (Lq (q_loadN (vs := [_, _, _, _, _, _, _, _, _]) Un47 rfl ti47 rfl (ownS (ownS (own0))) rfl rfl) (WL_main rfl (OW_call0 (clone_s a Aa ca ha.rs) (.cons rfl (.nil)) (by decide) (memc M2 mem0) fun u14_1 Lo fs hres => ?_)))))))
       obtain ⟨A1, c1, rfl, rfl, rfl⟩ := hres
       refine WL_main rfl (OW_storeN (cs' := [_, _, _, _, _, _, _, _, _]) (vs := [_, _, _, _, _, _, _, _, _]) ti47 rfl rfl rfl rfl rfl (Nat.le_of_ble_eq_true rfl) (.z) (Lq (q_assign rfl) (WL_nil (thenN (WC_ret ?_)))))
       refine ⟨_, [], [RdF rgD A1 c1 a.rs], fun Z w hs => RV_ownN hs Un47 rfl ti47 rfl own0 rfl (.tmp rfl (.nil)), ?_, fun Z w hs => hs.out (Sd (Sd (Sd (Sr)))) (memc M0 T2)⟩
       try simp only [Bp, Bq] at *
       have hF : includeF a b earlier = (a, 0) := by
        unfold includeF clashF
        first | exact if_pos ‹_› | (simp_all; done) | (simp_all; omega) | (repeat' split; all_goals first | rfl | omega | (simp_all; done) | (simp_all; omega))
       exact ⟨A1, c1, by rw [hF]; rfl, rfl, by first | (rw [hF]; done) | (rw [hF]; rfl)⟩
     ·refine Ln rfl rfl rfl g39 (Lg rfl rfl rfl g33 (q_pickF rfl g39 rfl) (Lq (q_pickF rfl g33 rfl) (WL_nil (thenN (WC_fr [(42, _), (8, _), (7, _), (6, _), (3, _)] (.cons rfl (.cons rfl (.cons rfl (.cons rfl (.cons rfl (.nil _)))))) (WC_false rfl rfl (WC_skip (blockN (thenN (WC_seq (WC_region (Lq (q_loadN (vs := [_, _, _, _, _, _, _, _, _]) Un47 rfl ti47 rfl (ownS (ownS (own0))) rfl rfl) (WL_main rfl (OW_call0 (clone_s a Aa ca ha.rs) (.cons rfl (.nil)) (by decide) (memc M2 mem0) fun u14_1 Lo fs hres => ?_))))))))))))))
      obtain ⟨A1, c1, rfl, rfl, rfl⟩ := hres
      refine WL_main rfl (OW_storeN (cs' := [_, _, _, _, _, _, _, _, _]) (vs := [_, _, _, _, _, _, _, _, _]) ti47 rfl rfl rfl rfl rfl (Nat.le_of_ble_eq_true rfl) (.z) (Lq (q_assign rfl) (WL_nil (thenN (WC_ret ?_)))))
      refine ⟨_, [], [RdF rgD A1 c1 a.rs], fun Z w hs => RV_ownN hs Un47 rfl ti47 rfl own0 rfl (.tmp rfl (.nil)), ?_, fun Z w hs => hs.out (Sd (Sd (Sd (Sr)))) (memc M0 T2)⟩
      try simp only [Bp, Bq] at *
      have hF : includeF a b earlier = (a, 0) := by
       unfold includeF clashF
       first | exact if_pos ‹_› | (simp_all; done) | (simp_all; omega) | (repeat' split; all_goals first | rfl | omega | (simp_all; done) | (simp_all; omega))
      exact ⟨A1, c1, by rw [hF]; rfl, rfl, by first | (rw [hF]; done) | (rw [hF]; rfl)⟩
   ·refine WC_seq (WC_seq (WC_region (Lq (q_eql rfl rfl) (Lq (q_assign rfl) (WL_nil (thenN (WC_cond rfl (fun h51 => ?_) (fun h51 => ?_))))))))
    ·refine WC_skip (thenN (WC_true rfl h51 (WC_seq (WC_region (Lq (q_field (o' := 5) Un47 rfl ti45 rfl rfl) (Lq (q_load1 Un45 rfl rfl (ownS (ownS (own0))) rfl) (Lq (q_field (o' := 3) Un47 rfl ti3 rfl rfl) (Lq (q_load1 Un3 rfl rfl (ownS (own0)) rfl) (Lq (q_move rfl) (WL_main rfl (OW_call0 (through_s Aa ca a.rs b.at_ (widthF b) ha.rs) (.cons rfl (.cons rfl (.cons rfl (.nil)))) (by decide) (memc M2 mem0) fun u12_5 Lo fs hres => ?_)))))))))))
     obtain ⟨A3, c3, rfl, rfl, rfl⟩ := hres
     refine Lq (q_move rfl) (Lq (q_extract (vs := [_, _]) rfl rfl) (Lq (q_extract (vs := [_, _]) rfl rfl) (Lq (q_assign rfl) (Lq (q_assign rfl) (WL_nil (thenN (WC_fr [(10, _), (9, _), (7, _), (6, _), (3, _)] (.cons rfl (.cons rfl (.cons rfl (.cons rfl (.cons rfl (.nil _)))))) (WC_seq (WC_region (Lq (q_loadN (vs := [_, _, _, _, _, _, _, _, _]) Un47 rfl ti47 rfl (ownS (ownS (own0))) rfl rfl) (Lq (q_move rfl) ?_)))))))))))
     refine Lq (q_move rfl) (WL_main rfl (OW_call0 (ranged_s a Aa A3 ca c3 (thrF a.rs b.at_ (widthF b)).1 (thrF a.rs b.at_ (widthF b)).2) (.cons rfl (.cons rfl (.cons rfl (.nil)))) (by decide) (memc M0 mem0) fun u13_3 Lo fs hres => ?_))
     obtain ⟨A4, c4, rfl, rfl, rfl⟩ := hres
     refine Lq (q_extract (vs := [_, _]) rfl rfl) (Lq (q_extract (vs := [_, _]) rfl rfl) (WL_main rfl (OW_storeN (cs' := [_, _, _, _, _, _, _, _, _]) (vs := [_, _, _, _, _, _, _, _, _]) ti47 rfl rfl rfl rfl rfl (Nat.le_of_ble_eq_true rfl) (.z) (Lq (q_assign rfl) (WL_nil (thenN (WC_ret (blockRet (thenRet ?_)))))))))
     refine ⟨_, [], [RdF rgD A4 c4 (rangedF a (thrF a.rs b.at_ (widthF b)).1 (thrF a.rs b.at_ (widthF b)).2).1.rs], fun Z w hs => RV_ownN hs Un47 rfl ti47 rfl own0 rfl (.tmp rfl (.nil)), ?_, fun Z w hs => hs.out (Sd (Sd (Sd (Sr)))) (memc M0 T3)⟩
     try simp only [Bp, Bq] at *
     have hF : includeF a b earlier = rangedF a (thrF a.rs b.at_ (widthF b)).1 (thrF a.rs b.at_ (widthF b)).2 := by
      unfold includeF clashF
      first | exact if_pos ‹_› | (simp_all; done) | (simp_all; omega) | (repeat' split; all_goals first | rfl | omega | (simp_all; done) | (simp_all; omega))
     exact ⟨A4, c4, by rw [hF]; rfl, rfl, by first | (rw [hF]; done) | (rw [hF]; rfl)⟩
    ·refine WC_region (Lq (q_eql rfl rfl) (Lq (q_assign rfl) (WL_nil (thenN (WC_cond rfl (fun h51 => ?_) (fun h51 => ?_))))))
     ·refine WC_seq (WC_region (Lq (q_field (o' := 5) Un47 rfl ti45 rfl rfl) (Lq (q_load1 Un45 rfl rfl (ownS (ownS (own0))) rfl) (Lq (q_field (o' := 3) Un47 rfl ti3 rfl rfl) (Lq (q_load1 Un3 rfl rfl (ownS (own0)) rfl) (Lq (q_move rfl) (WL_main rfl (OW_call0 (through_s Aa ca a.rs b.at_ (widthF b) ha.rs) (.cons rfl (.cons rfl (.cons rfl (.nil)))) (by decide) (memc M2 mem0) fun u12_5 Lo fs hres => ?_))))))))
      obtain ⟨A3, c3, rfl, rfl, rfl⟩ := hres
      refine Lq (q_move rfl) (Lq (q_extract (vs := [_, _]) rfl rfl) (Lq (q_extract (vs := [_, _]) rfl rfl) (Lq (q_assign rfl) (Lq (q_assign rfl) (WL_nil (thenN (WC_fr [(10, _), (9, _), (7, _), (6, _), (3, _)] (.cons rfl (.cons rfl (.cons rfl (.cons rfl (.cons rfl (.nil _)))))) (WC_seq (WC_region (Lq (q_loadN (vs := [_, _, _, _, _, _, _, _, _]) Un47 rfl ti47 rfl (ownS (ownS (own0))) rfl rfl) (Lq (q_move rfl) ?_)))))))))))
      refine Lq (q_move rfl) (WL_main rfl (OW_call0 (ranged_s a Aa A3 ca c3 (thrF a.rs b.at_ (widthF b)).1 (thrF a.rs b.at_ (widthF b)).2) (.cons rfl (.cons rfl (.cons rfl (.nil)))) (by decide) (memc M0 mem0) fun u13_3 Lo fs hres => ?_))
      obtain ⟨A4, c4, rfl, rfl, rfl⟩ := hres
      refine Lq (q_extract (vs := [_, _]) rfl rfl) (Lq (q_extract (vs := [_, _]) rfl rfl) (WL_main rfl (OW_storeN (cs' := [_, _, _, _, _, _, _, _, _]) (vs := [_, _, _, _, _, _, _, _, _]) ti47 rfl rfl rfl rfl rfl (Nat.le_of_ble_eq_true rfl) (.z) (Lq (q_assign rfl) (WL_nil (thenN (WC_ret (blockRet (thenRet ?_)))))))))
      refine ⟨_, [], [RdF rgD A4 c4 (rangedF a (thrF a.rs b.at_ (widthF b)).1 (thrF a.rs b.at_ (widthF b)).2).1.rs], fun Z w hs => RV_ownN hs Un47 rfl ti47 rfl own0 rfl (.tmp rfl (.nil)), ?_, fun Z w hs => hs.out (Sd (Sd (Sd (Sr)))) (memc M0 T3)⟩
      try simp only [Bp, Bq] at *
      have hF : includeF a b earlier = rangedF a (thrF a.rs b.at_ (widthF b)).1 (thrF a.rs b.at_ (widthF b)).2 := by
       unfold includeF clashF
       first | exact if_pos ‹_› | (simp_all; done) | (simp_all; omega) | (repeat' split; all_goals first | rfl | omega | (simp_all; done) | (simp_all; omega))
      exact ⟨A4, c4, by rw [hF]; rfl, rfl, by first | (rw [hF]; done) | (rw [hF]; rfl)⟩
     ·refine WC_skip (blockN (thenN (WC_seq (WC_region (Lq (q_loadN (vs := [_, _, _, _, _, _, _, _, _]) Un47 rfl ti47 rfl (ownS (ownS (own0))) rfl rfl) (WL_main rfl (OW_call0 (clone_s a Aa ca ha.rs) (.cons rfl (.nil)) (by decide) (memc M2 mem0) fun u14_1 Lo fs hres => ?_)))))))
      obtain ⟨A1, c1, rfl, rfl, rfl⟩ := hres
      refine WL_main rfl (OW_storeN (cs' := [_, _, _, _, _, _, _, _, _]) (vs := [_, _, _, _, _, _, _, _, _]) ti47 rfl rfl rfl rfl rfl (Nat.le_of_ble_eq_true rfl) (.z) (Lq (q_assign rfl) (WL_nil (thenN (WC_ret ?_)))))
      refine ⟨_, [], [RdF rgD A1 c1 a.rs], fun Z w hs => RV_ownN hs Un47 rfl ti47 rfl own0 rfl (.tmp rfl (.nil)), ?_, fun Z w hs => hs.out (Sd (Sd (Sd (Sr)))) (memc M0 T2)⟩
      try simp only [Bp, Bq] at *
      have hF : includeF a b earlier = (a, 0) := by
       unfold includeF clashF
       first | exact if_pos ‹_› | (simp_all; done) | (simp_all; omega) | (repeat' split; all_goals first | rfl | omega | (simp_all; done) | (simp_all; omega))
      exact ⟨A1, c1, by rw [hF]; rfl, rfl, by first | (rw [hF]; done) | (rw [hF]; rfl)⟩

end Go.Proofs.YtcjbjkbghgjmdaaGreatDoor
/- Walks: xform.clones. -/
namespace Go.Proofs.YtcjbjkbghgjmdaaGreatDoor
open Go Go.GW
set_option maxRecDepth 10000 in
theorem clones_s (A : Option Addr) (c : Nat) (xs : List GOp) (hf : ∀ o ∈ xs, Fit o) (hl : xs.length ≤ 1000000000) : Sp Tryz.prog 87 [.slice A xs.length c] [] [RdF opD A c xs] (fun v Lo fs => ∃ p css, RowS 47 9 v xs.length css.flatten p ∧ Lo = [p] ∧ fs = [RepsF opD xs css]) := by
 refine Sp.of (n := 22) ⟨_, Tryz.func87, rfl, rfl, rfl, rfl⟩ (Nat.le_of_ble_eq_true rfl) fun Ps As => WC_seq (WC_region (Lq (q_assign rfl) (WL_nil (thenN (WC_seq (WC_region (Lq (q_move rfl) (Lq (q_len Un51 rfl) (WL_main rfl (OW_make0 Un51 ti47 rfl rfl (by omega) (by unfold maxLen; omega) (by decide) fun v0 p0 hr0 => Lq (q_assign rfl) (WL_nil (thenN (WC_seq (WC_seq (WC_region (Lq (q_move rfl) ?_))))))))))))))))
 refine Lq (q_len Un51 rfl) (Lq (q_move rfl) (WL_nil (thenN (WC_block (WC_fact (A := RepsF opD (xs.take 0) []) (fun Z w hs => Reps.nil) ?_)))))
 refine WC_loopE (α := Nat × Value × Part × List (List Value)) (fun (k, v, p, css) => xs.length - k)
  (fun (k, v, p, css) => [(9, .slice A xs.length c), (10, .int .i64 xs.length), (11, .int .i64 k), (3, v)])
  (fun (k, v, p, css) => (p :: Ps))
  (fun (k, v, p, css) => (RepsF opD (xs.take k) css :: RdF opD A c xs :: As))
  (fun (k, v, p, css) => k ≤ xs.length ∧ RowS 47 9 v k css.flatten p)
  (0, v0, p0, []) ?_ (.cons rfl (.cons rfl (.cons rfl (.cons rfl (.nil _))))) (Sr) (fun _ h => h) ?_
 ·exact ⟨Nat.zero_le _, hr0⟩
 ·rintro ⟨k, v, p, css⟩ hI
  have hle : k ≤ xs.length := hI.1
  refine WC_seq (WC_region (Lq (q_lss rfl rfl) (WL_nil (thenN (WC_seq (WC_cond rfl (fun h12 => ?_) (fun h12 => ?_)))))))
  ·refine WC_skip (thenN (WC_seq (WC_block (WC_seq ?_))))
   have hk : k < xs.length := by simpa using h12
   refine WC_elem (k := k) M1 (List.getElem?_eq_getElem hk) (op_open _) fun b4 q4 y4 e4 => ?_
   cases e4
   refine WC_region (Lq (q_idxRd Un51 ti47 rfl rfl (by omega) (by omega)) (Lq (q_loadFN (k := 0) (vs := [_, _, _, _, _, _, _, _, _]) Un47 rfl ti47 rfl M0 rfl rfl rfl) (WL_main rfl (OW_alloc (cs := [_, _, _, _, _, _, _, _, _]) ti47 rfl (by decide) fun b5 => WL_main rfl (OW_storeN (cs' := [_, _, _, _, _, _, _, _, _]) (vs := [_, _, _, _, _, _, _, _, _]) ti47 rfl rfl rfl rfl rfl (Nat.le_of_ble_eq_true rfl) (.z) (WL_nil (thenN (WC_region (Lq (q_move rfl) (Lq (q_loadN (vs := [_, _, _, _, _, _, _, _, _]) Un47 rfl ti47 rfl own0 rfl rfl) (WL_main rfl (OW_call0 (clone_s xs[k] y4.1 y4.2 (hf _ (List.getElem_mem hk)).rs) (.cons rfl (.nil)) (by decide) (memc M1 mem0) fun u5_2 Lo fs hres => ?_))))))))))))
   obtain ⟨A1, c1, rfl, rfl, rfl⟩ := hres
   refine WL_main rfl (OW_slice1 (cs := [_, _, _, _, _, _, _, _, _]) Un51 ti47 (by decide) (by decide) rfl rfl rfl rfl (by decide) fun b18 => WL_main rfl (OW_append1 (news := [_, _, _, _, _, _, _, _, _]) Un51 ti47 rfl (by decide) rfl rfl hI.2.row own0 rfl rfl (by omega) (by unfold maxLen; omega) (by decide) (DelAt.perm (.s (.s (.z)))) fun v19 p19 hr19 => Lq (q_assign rfl) (WL_nil (blockN (thenN (WC_repsAdd (u := xs[k]) (cs := opC xs[k] A1 c1) M3 (fun Z w hs => ⟨A1, c1, rfl, hs.facts _ M0⟩) (List.take_succ_eq_append_getElem hk) (WC_region (Lq (q_add rfl rfl (wr64 (by omega))) (Lq (q_move rfl) (WL_nil (thenK ?_)))))))))))
   refine ⟨(k + 1, v19, p19, css ++ [opC xs[k] A1 c1]), ?_, (.cons rfl (.cons rfl (.cons rfl (.cons rfl (.nil _))))), (Sk (Sd (Sd (Sr)))), (memc M0 T5)⟩
   refine ⟨by show xs.length - (k + 1) < xs.length - k; omega, by show k + 1 ≤ xs.length; omega, ?_⟩
   have := hr19.toS (by omega)
   rw [List.flatten_append, show [opC xs[k] A1 c1].flatten = opC xs[k] A1 c1 from by simp]
   exact this
  ·refine WC_exit (thenExit (thenExit (blockHit (thenN (WC_seq (WC_region (Lq (q_move rfl) (Lq (q_assign rfl) (WL_nil (thenN (WC_ret ?_)))))))))))
   refine ⟨_, [p], [RepsF opD (xs.take k) css], fun Z w hs => .tmp rfl (.nil), ?_, fun Z w hs => hs.out (Sk (Sr)) (fun _ h => h)⟩
   try simp only [Bp, Bq] at *
   obtain rfl : k = xs.length := by omega
   exact ⟨p, css, hI.2, rfl, by rw [List.take_length]⟩

end Go.Proofs.YtcjbjkbghgjmdaaGreatDoor
/- Walks: xform.Cross. -/
namespace Go.Proofs.YtcjbjkbghgjmdaaGreatDoor
open Go Go.GW
set_option maxRecDepth 10000 in
theorem cross_s (A B : Option Addr) (c d : Nat) (xs ys : List GOp) (hx : ∀ o ∈ xs, Fit o) (hy : ∀ o ∈ ys, Fit o) (hlx : xs.length ≤ 1000000000) (hly : ys.length ≤ 1000000000) : Sp Tryz.prog 64 [.slice A xs.length c, .slice B ys.length d] [] [barF, RdF opD A c xs, RdF opD B d ys] (CrP (crossF xs ys)) := by
 refine Sp.of (n := 71) ⟨_, Tryz.func64, rfl, rfl, rfl, rfl⟩ (Nat.le_of_ble_eq_true rfl) fun Ps As => WC_seq (WC_region (Lq (q_assign rfl) (Lq (q_assign rfl) (Lq (q_assign rfl) (WL_nil (thenN (WC_seq (WC_seq (WC_fact (A := RdF opD none 0 []) (fun Z w hs => RdS.nil _ _ _) (WC_region (Lq (q_move rfl) (WL_main rfl (OW_call0 (owns_s A c xs hx (by omega)) (.cons rfl (.nil)) (by decide) (memc M1 (memc M2 mem0)) fun u1_1 Lo fs hres => ?_)))))))))))))
 obtain ⟨rfl, rfl, rfl⟩ := hres
 refine Lq (q_assign rfl) (WL_nil (thenN (WC_seq (WC_region (Lq (q_move rfl) (Lq (q_neq rfl rfl) (WL_nil (thenN (WC_cond rfl (fun h14 => ?_) (fun h14 => ?_))))))))))
 ·refine WC_seq (WC_region (Lq (q_move rfl) (Lq (q_assign rfl) (Lq (q_assign rfl) (Lq (q_assign rfl) (WL_nil (thenN (WC_ret (thenRet ?_)))))))))
  refine ⟨_, [], [RdF opD none 0 [], RdF opD none 0 []], fun Z w hs => .tmp rfl (.tmp rfl (.tmp rfl (.nil))), ?_, fun Z w hs => hs.out (Sr) (memc M0 (memc M0 T1))⟩
  try simp only [Bp, Bq] at *
  have hF : crossF xs ys = _ := crossF_1 (by omega)
  exact ⟨none, 0, none, 0, by rw [hF]; rfl, rfl, by rw [hF]⟩
 ·refine WC_skip (thenN (WC_seq (WC_seq (WC_region (Lq (q_move rfl) (WL_main rfl (OW_call0 (owns_s B d ys hy (by omega)) (.cons rfl (.nil)) (by decide) (memc M1 (memc M3 mem0)) fun u4_1 Lo fs hres => ?_)))))))
  obtain ⟨rfl, rfl, rfl⟩ := hres
  refine Lq (q_assign rfl) (WL_nil (thenN (WC_seq (WC_region (Lq (q_move rfl) (Lq (q_neq rfl rfl) (WL_nil (thenN (WC_cond rfl (fun h19 => ?_) (fun h19 => ?_))))))))))
  ·refine WC_seq (WC_region (Lq (q_move rfl) (Lq (q_assign rfl) (Lq (q_assign rfl) (Lq (q_assign rfl) (WL_nil (thenN (WC_fr [(6, _), (5, _), (4, _), (0, _), (1, _)] (.cons rfl (.cons rfl (.cons rfl (.cons rfl (.cons rfl (.nil _)))))) (WC_ret (thenRet ?_))))))))))
   refine ⟨_, [], [RdF opD none 0 [], RdF opD none 0 []], fun Z w hs => .tmp rfl (.tmp rfl (.tmp rfl (.nil))), ?_, fun Z w hs => hs.out (Sr) (memc M0 (memc M0 T1))⟩
   try simp only [Bp, Bq] at *
   have hF : crossF xs ys = _ := crossF_2 (by omega) (by omega)
   exact ⟨none, 0, none, 0, by rw [hF]; rfl, rfl, by rw [hF]⟩
  ·refine WC_skip (thenN (WC_seq (WC_region (Lq (q_move rfl) (WL_main rfl (OW_call0 (clones_s A c xs hx hlx) (.cons rfl (.nil)) (by decide) (memc M2 mem0) fun u7_1 Lo fs hres => ?_))))))
   obtain ⟨pF0, cssF0, hF0, rfl, rfl⟩ := hres
   refine Lq (q_assign rfl) (WL_nil (thenN (WC_fr [(4, _), (6, _), (5, _), (1, _)] (.cons rfl (.cons rfl (.cons rfl (.cons rfl (.nil _))))) (WC_seq (WC_region (Lq (q_move rfl) (WL_main rfl (OW_call0 (clones_s B d ys hy hly) (.cons rfl (.nil)) (by decide) (memc M4 mem0) fun u8_1 Lo fs hres => ?_))))))))
   obtain ⟨pL0, cssL0, hL0, rfl, rfl⟩ := hres
   refine Lq (q_assign rfl) (WL_nil (thenN (WC_seq (WC_seq ?_))))
   try simp only [Bp, Bq] at *
   obtain ⟨hF1, bF, cF, jF, rfl, rfl, hF2, hF3, hF4⟩ := hF0
   obtain ⟨hL1, bL, cL, jL, rfl, rfl, hL2, hL3, hL4⟩ := hL0
   refine WC_region (Lq (q_move rfl) (Lq (q_len Un51 rfl) (Lq (q_move rfl) (WL_nil (thenN (WC_block ?_))))))
   refine WC_loopE (α := Nat × List GOp × List GOp × List (List Value) × List (List Value)) (fun (i, F, L, cssF, cssL) => ys.length - i)
    (fun (i, F, L, cssF, cssL) => [(4, .slice (some ⟨bF, 0, none⟩) xs.length cF), (5, .slice (some ⟨bL, 0, none⟩) ys.length cL), (26, .int .i64 ys.length), (27, .int .i64 i)])
    (fun (i, F, L, cssF, cssL) => ([(bL, cellsO (cssL.flatten ++ jL) 47)] :: [(bF, cellsO (cssF.flatten ++ jF) 47)] :: Ps))
    (fun (i, F, L, cssF, cssL) => (RepsF opD L cssL :: RepsF opD F cssF :: RdF opD none 0 [] :: barF :: RdF opD A c xs :: RdF opD B d ys :: As))
    (fun (i, F, L, cssF, cssL) => CoI xs ys F L i)
    (0, xs, ys, cssF0, cssL0) ?_ (.cons rfl (.cons rfl (.cons rfl (.cons rfl (.nil _))))) (Sk (Sk (Sr))) (fun _ h => h) ?_
   ·exact CoI.zero hx hy
   ·rintro ⟨i, F, L, cssF, cssL⟩ hI
    refine WC_seq (WC_region (Lq (q_lss rfl rfl) (WL_nil (thenN (WC_seq (WC_cond rfl (fun h28 => ?_) (fun h28 => ?_)))))))
    ·refine WC_skip (thenN (WC_seq (WC_block (WC_seq (WC_region (Lq (q_move rfl) (Lq (q_assign rfl) (WL_nil (thenN (WC_seq (WC_region (Lq (q_move rfl) (Lq (q_len Un51 rfl) (Lq (q_move rfl) (WL_nil (thenN (WC_block ?_)))))))))))))))))
     have hi : i < L.length := by simp only [decide_eq_true_eq] at h28; have := hI.lenL; omega
     refine WC_fact (A := RepsF opD (L.set i L[i]) cssL) (fun Z w hs => by rw [List.set_getElem_self]; exact hs.facts _ M0) ?_
     refine WC_loopE (α := Nat × List GOp × GOp × List (List Value) × List (List Value)) (fun (k, G, l, cssG, cssM) => xs.length - k)
      (fun (k, G, l, cssG, cssM) => [(4, .slice (some ⟨bF, 0, none⟩) xs.length cF), (5, .slice (some ⟨bL, 0, none⟩) ys.length cL), (26, .int .i64 ys.length), (27, .int .i64 i), (7, .int .i64 i), (31, .int .i64 xs.length), (32, .int .i64 k)])
      (fun (k, G, l, cssG, cssM) => ([(bL, cellsO (cssM.flatten ++ jL) 47)] :: [(bF, cellsO (cssG.flatten ++ jF) 47)] :: Ps))
      (fun (k, G, l, cssG, cssM) => (RepsF opD (L.set i l) cssM :: RepsF opD G cssG :: RdF opD none 0 [] :: barF :: RdF opD A c xs :: RdF opD B d ys :: As))
      (fun (k, G, l, cssG, cssM) => CiI L[i] F G l k)
      (0, F, L[i], cssF, cssL) ?_ (.cons rfl (.cons rfl (.cons rfl (.cons rfl (.cons rfl (.cons rfl (.cons rfl (.nil _)))))))) (Sk (Sk (Sr))) (memc M0 T2) ?_
     ·exact CiI.zero hI.fitF (hI.fitL _ (List.getElem_mem hi))
     ·rintro ⟨k, G, l, cssG, cssM⟩ hI2
      refine WC_seq (WC_region (Lq (q_lss rfl rfl) (WL_nil (thenN (WC_seq (WC_cond rfl (fun h33 => ?_) (fun h33 => ?_)))))))
      ·refine WC_skip (thenN (WC_seq (WC_block (WC_seq (WC_region (Lq (q_move rfl) (Lq (q_assign rfl) (WL_nil (thenN (WC_seq ?_))))))))))
       have hk : k < G.length := by simp only [decide_eq_true_eq] at h33; have := hI.lenF; have := hI2.len; omega
       have hi2 : i < ys.length := by have := hI.lenL; omega
       have hk2 : k < xs.length := by have := hI.lenF; have := hI2.len; omega
       refine WC_reps (k := i) (u := l) M0 (by simp [hi]) (op_open _) fun yl hyl => WC_reps (k := k) M2 (List.getElem?_eq_getElem hk) (op_open _) fun yf hyf => ?_
       refine WC_repsLen M2 fun hlM hlsM => WC_repsLen M3 fun hlG hlsG => ?_
       rw [List.length_set] at hlM
       refine WC_draw _ _ [11] (.c 0 0 (.c 1 0 (.c 2 0 (.c 3 0 (.c 4 0 (.c 5 0 (.c 6 0 (.c 7 0 (.c 8 4 (.c 9 4 (.c 10 2 (.c 11 3 .nil)))))))))))) mixed (fun _ _ _ _ h => h) (Sk (Sk (Sr))) (fun _ h => h) (by kernel_rfl) (by decide) fun ws Z0 => Qe rfl (q_move rfl) (Qe rfl (q_move rfl) (Qe rfl (q_idxOwn Un51 ti47 rfl rfl (by omega) (by omega)) (Qe rfl (q_loadR (i := i) Un47 rfl ti47 rfl (by simp) own0 hlsM hyl) (Qe rfl (q_move rfl) (Qe rfl (q_move rfl) (Qe rfl (q_idxOwn Un51 ti47 rfl rfl (by omega) (by omega)) (Qe rfl (q_loadR (i := k) Un47 rfl ti47 rfl (by simp) (ownS (own0)) hlsG hyf) ?_)))))))
       refine WE_alloc2 rfl rfl (cs1 := [_, _, _, _, _, _, _, _, _]) (cs2 := [_, _, _, _, _, _, _, _, _]) ti47 rfl ti47 rfl (by decide) (by decide) (by decide) (Sk (Sk (Sr))) M0 fun b9 b10 => WE_main rfl rfl (OW_storeN (cs' := [_, _, _, _, _, _, _, _, _]) (vs := [_, _, _, _, _, _, _, _, _]) ti47 rfl rfl rfl rfl rfl (Nat.le_of_ble_eq_true rfl) (.s (.z)) ?_)
       refine ⟨⟨(Sd (Sd (Sk (Sk (Sr))))), M0⟩, ?_⟩
       refine WE_end (WF_last rfl rfl (OW_storeN (cs' := [_, _, _, _, _, _, _, _, _]) (vs := [_, _, _, _, _, _, _, _, _]) ti47 rfl rfl rfl rfl rfl (Nat.le_of_ble_eq_true rfl) (.z) (WF_nil (thenN (WC_seq (WC_seq (WC_region (Lq (q_move rfl) (Lq (q_move rfl) (Lq (q_loadN (vs := [_, _, _, _, _, _, _, _, _]) Un47 rfl ti47 rfl (ownS (own0)) rfl rfl) (Lq (q_loadN (vs := [_, _, _, _, _, _, _, _, _]) Un47 rfl ti47 rfl own0 rfl rfl) (WL_main rfl (OW_call0 (include_s l G[k] yl.1 yf.1 yl.2 yf.2 true hI2.fitl (hI2.fit _ (List.getElem_mem hk))) (.cons rfl (.cons rfl (.cons rfl (.nil)))) (by decide) (memc M6 (memc M2 mem0)) fun u16_4 Lo fs hres => ?_)))))))))))))
       obtain ⟨A1, c1, rfl, rfl, rfl⟩ := hres
       refine Lq (q_move rfl) (Lq (q_extract (vs := [_, _]) rfl rfl) (Lq (q_extract (vs := [_, _]) rfl rfl) (Lq (q_idxOwn Un51 ti47 rfl rfl (by omega) (by omega)) (WL_main rfl (OW_storeR (i := i) (c := opC (includeF l G[k] true).1 A1 c1) ti47 rfl (by simp) rfl rfl rfl hlsM (by omega) (.s (.s (.z))) (WL_repsSet (xs' := L.set i (includeF l G[k] true).1) i M4 (fun Z w hs => ⟨A1, c1, rfl, hs.facts _ M0⟩) (by rw [List.set_set]) (Lq (q_assign rfl) (WL_nil (thenN (WC_seq (WC_region (Lq (q_move rfl) (Lq (q_neq rfl rfl) ?_)))))))))))))
       refine WL_nil (thenN (WC_cond rfl (fun h53 => ?_) (fun h53 => ?_)))
       ·refine WC_seq (WC_region (Lq (q_move rfl) (Lq (q_assign rfl) (Lq (q_assign rfl) (Lq (q_assign rfl) (WL_nil (thenN (WC_ret (thenRet (blockRet (thenRet (thenRet (blockRet (blockRet (thenRet (thenRet (blockRet (thenRet ?_))))))))))))))))))
        refine ⟨_, [], [RdF opD none 0 [], RdF opD none 0 []], fun Z w hs => .tmp rfl (.tmp rfl (.tmp rfl (.nil))), ?_, fun Z w hs => hs.out (Sd (Sd (Sd (Sd (Sr))))) (memc M7 (memc M7 T8))⟩
        try simp only [Bp, Bq] at *
        have hF : crossF xs ys = _ := crossF_3 (by omega) (by omega) (hI.err hi (hI2.err1 hk (by omega)))
        exact ⟨none, 0, none, 0, by rw [hF]; rfl, rfl, by rw [hF]⟩
       ·refine WC_skip (thenN (WC_seq (WC_region (Lq (q_move rfl) (Lq (q_move rfl) (Lq (q_loadN (vs := [_, _, _, _, _, _, _, _, _]) Un47 rfl ti47 rfl own0 rfl rfl) (Lq (q_loadN (vs := [_, _, _, _, _, _, _, _, _]) Un47 rfl ti47 rfl (ownS (own0)) rfl rfl) (WL_main rfl (OW_call0 (include_s G[k] l yf.1 yl.1 yf.2 yl.2 false (hI2.fit _ (List.getElem_mem hk)) hI2.fitl) (.cons rfl (.cons rfl (.cons rfl (.nil)))) (by decide) (memc M8 (memc M3 mem0)) fun u19_4 Lo fs hres => ?_)))))))))
        obtain ⟨A2, c2, rfl, rfl, rfl⟩ := hres
        refine Lq (q_move rfl) (Lq (q_extract (vs := [_, _]) rfl rfl) (Lq (q_extract (vs := [_, _]) rfl rfl) (Lq (q_idxOwn Un51 ti47 rfl rfl (by omega) (by omega)) (WL_main rfl (OW_storeR (i := k) (c := opC (includeF G[k] l false).1 A2 c2) ti47 rfl (by simp) rfl rfl rfl hlsG (by omega) (.s (.s (.s (.z)))) (WL_repsSet k M7 (fun Z w hs => ⟨A2, c2, rfl, hs.facts _ M0⟩) rfl (Lq (q_assign rfl) (WL_nil (thenN (WC_seq (WC_region (Lq (q_move rfl) (Lq (q_neq rfl rfl) ?_)))))))))))))
        refine WL_nil (thenN (WC_cond rfl (fun h65 => ?_) (fun h65 => ?_)))
        ·refine WC_seq (WC_region (Lq (q_move rfl) (Lq (q_assign rfl) (Lq (q_assign rfl) (Lq (q_assign rfl) (WL_nil (thenN (WC_ret (blockRet (thenRet (thenRet (blockRet (blockRet (thenRet (thenRet (blockRet (thenRet ?_)))))))))))))))))
         refine ⟨_, [], [RdF opD none 0 [], RdF opD none 0 []], fun Z w hs => .tmp rfl (.tmp rfl (.tmp rfl (.nil))), ?_, fun Z w hs => hs.out (Sd (Sd (Sd (Sd (Sr))))) (memc M9 (memc M9 T10))⟩
         try simp only [Bp, Bq] at *
         have hF : crossF xs ys = _ := crossF_3 (by omega) (by omega) (hI.err hi (hI2.err2 hk (by omega) (by omega)))
         exact ⟨none, 0, none, 0, by rw [hF]; rfl, rfl, by rw [hF]⟩
        ·refine WC_skip (blockN (thenN (WC_region (Lq (q_add rfl rfl (wr64 (by omega))) (Lq (q_move rfl) (WL_nil (thenK ?_)))))))
         refine ⟨(k + 1, G.set k (includeF G[k] l false).1, (includeF l G[k] true).1, cssG.set k (opC (includeF G[k] l false).1 A2 c2), cssM.set i (opC (includeF l G[k] true).1 A1 c1)), ?_, (.cons rfl (.cons rfl (.cons rfl (.cons rfl (.cons rfl (.cons rfl (.cons rfl (.nil _)))))))), (Sd (Sd (Sk (Sk (Sr))))), (memc M2 (memc M0 T9))⟩
         try simp only [Bp, Bq] at *
         exact ⟨by show xs.length - (k + 1) < xs.length - k; omega, hI2.next hk (by omega) (by omega)⟩
      ·refine WC_exit (thenExit (thenExit (blockHit (blockN (thenN (WC_region (Lq (q_add rfl rfl (wr64 (by have := hI.lenL; omega))) (Lq (q_move rfl) (WL_nil (thenK ?_))))))))))
       refine ⟨(i + 1, G, L.set i l, cssG, cssM), ?_, (.cons rfl (.cons rfl (.cons rfl (.cons rfl (.nil _))))), (Sk (Sk (Sr))), (fun _ h => h)⟩
       try simp only [Bp, Bq] at *
       exact ⟨by show ys.length - (i + 1) < ys.length - i; omega, hI.next hi (hI2.done (by have := hI.lenF; have := hI2.len; omega)) hI2.len hI2.fit hI2.fitl⟩
    ·refine WC_exit (thenExit (thenExit (blockHit (thenN (WC_seq ?_)))))
     try simp only [Bp, Bq] at *
     have hcr := hI.done (by have := hI.lenL; omega)
     refine WC_repsLen M0 fun hlL hlsL => WC_repsLen M1 fun hlF hlsF => WC_freeze (e := opD) (css := cssL) (xs := L) (Row.again hL1 hL2 hL3 hL4 (by have := hI.lenL; omega) hlsL) (.z) (by have := hI.lenL; omega) M0 fun AL cL' eL => ?_
     obtain ⟨rfl, _, rfl⟩ := Value.slice.inj eL
     refine WC_freeze (e := opD) (css := cssF) (xs := F) (Row.again hF1 hF2 hF3 hF4 (by have := hI.lenF; omega) hlsF) (.z) (by have := hI.lenF; omega) M2 fun AF cF' eF => ?_
     obtain ⟨rfl, _, rfl⟩ := Value.slice.inj eF
     refine WC_region (Lq (q_move rfl) (Lq (q_move rfl) (Lq (q_assign rfl) (Lq (q_assign rfl) (Lq (q_assign rfl) (WL_nil (thenN (WC_ret ?_))))))))
     refine ⟨_, [], [RdF opD (some ⟨bF, 0, none⟩) cF F, RdF opD (some ⟨bL, 0, none⟩) cL L], fun Z w hs => .tmp rfl (.tmp rfl (.tmp rfl (.nil))), ?_, fun Z w hs => hs.out (Sr) (memc M0 (memc M1 T5))⟩
     have hF := crossF_4 (by omega) (by omega) hcr
     exact ⟨some ⟨bF, 0, none⟩, cF, some ⟨bL, 0, none⟩, cL, by rw [hF, hI.lenF, hI.lenL]; rfl, rfl, by rw [hF]⟩

end Go.Proofs.YtcjbjkbghgjmdaaGreatDoor
/- Walks: history, what it tells of itself. -/
namespace Go.Proofs.YtcjbjkbghgjmdaaGreatDoor
open Go Go.GW
theorem ops_len (H : Hist) : H.ops.length = H.ents.length := by simp [Hist.ops]
theorem ops_at {H : Hist} {k : Nat} (h : k < H.ents.length) : H.ops[k]'(by rw [ops_len]; exact h) = H.ents[k].op := by simp [Hist.ops]
theorem bd97_1Xw12 (x1_ : Option Nat) (w : World) : (Instr.build 67 #[(1, .map x1_)]).run Tryz.prog w = .ok (.agg #[.slice none 0 0, .map x1_, .int .i64 0]) w := by kernel_rfl

set_option maxRecDepth 10000 in
theorem new_s : Sp Tryz.prog 30 [] [] [] (fun v Lo fs => ∃ h m, v = .pointer (some ⟨h, 0, none⟩) ∧ Lo = [hdP h none 0 0 m 0, mpP m [], mkP []] ∧ fs = [RdF opD none 0 [], AllF ([] : List MR) nowF]) := by
 refine Sp.of (n := 4) ⟨_, Tryz.func30, rfl, rfl, rfl, rfl⟩ (Nat.le_of_ble_eq_true rfl) fun Ps As => WC_seq (WC_region (Lq (q_assign rfl) (WL_nil (thenN (WC_seq (WC_nilPart (WC_fact (A := AllF ([] : List MR) nowF) (fun Z w hs x hx => by cases hx) (WC_fact (A := RdF opD none 0 []) (fun Z w hs => RdS.nil _ _ _) (WC_region (WL_main rfl (OW_makeMap (by decide) fun b1 => Lq (q_build (.cons rfl (.nil)) (bd97_1Xw12 _)) ?_)))))))))))
 refine WL_main rfl (OW_box (cs := [_, _, _]) rfl rfl (by decide) fun b3 => Lq (q_assign rfl) (WL_nil (thenN (WC_ret ?_))))
 refine ⟨_, [_, _, _], [_, _], fun Z w hs => .tmp rfl (.nil), ?_, fun Z w hs => hs.out (Sk (Sk (Sk (Sr)))) (fun _ h => h)⟩
 exact ⟨b3, b1, rfl, rfl, rfl⟩


set_option maxRecDepth 10000 in
theorem hlen_s (h m len cap : Nat) (A : Option Addr) (total : Int) : Sp Tryz.prog 6 [.pointer (some ⟨h, 0, none⟩)] [hdP h A len cap m total] [] (fun v Lo fs => v = .int .i64 len ∧ Lo = [hdP h A len cap m total] ∧ fs = []) := by
 refine Sp.of (n := 8) ⟨_, Tryz.func6, rfl, rfl, rfl, rfl⟩ (Nat.le_of_ble_eq_true rfl) fun Ps As => WC_seq (WC_region (Lq (q_assign rfl) (WL_nil (thenN (WC_seq (WC_region (Lq (q_move rfl) (Lq (q_nil rfl) (Lq (q_field (o' := 0) Un67 rfl ti51 rfl rfl) (Lq (q_load1 Un51 rfl rfl own0 rfl) (Lq (q_len Un51 rfl) (Lq (q_assign rfl) ?_))))))))))))
 refine WL_nil (thenN (WC_ret ?_))
 refine ⟨_, [_], [], fun Z w hs => .tmp rfl (.nil), ?_, fun Z w hs => hs.out (Sk (Sr)) (fun _ h => h)⟩
 exact ⟨rfl, rfl, rfl⟩


set_option maxRecDepth 10000 in
theorem htotal_s (h m len cap : Nat) (A : Option Addr) (total : Int) : Sp Tryz.prog 35 [.pointer (some ⟨h, 0, none⟩)] [hdP h A len cap m total] [] (fun v Lo fs => v = .int .i64 total ∧ Lo = [hdP h A len cap m total] ∧ fs = []) := by
 refine Sp.of (n := 7) ⟨_, Tryz.func35, rfl, rfl, rfl, rfl⟩ (Nat.le_of_ble_eq_true rfl) fun Ps As => WC_seq (WC_region (Lq (q_assign rfl) (WL_nil (thenN (WC_seq (WC_region (Lq (q_move rfl) (Lq (q_nil rfl) (Lq (q_field (o' := 2) Un67 rfl ti3 rfl rfl) (Lq (q_load1 Un3 rfl rfl own0 rfl) (Lq (q_assign rfl) (WL_nil (thenN (WC_ret ?_))))))))))))))
 refine ⟨_, [_], [], fun Z w hs => .tmp rfl (.nil), ?_, fun Z w hs => hs.out (Sk (Sr)) (fun _ h => h)⟩
 exact ⟨rfl, rfl, rfl⟩


set_option maxRecDepth 10000 in
theorem before_s (h m cap : Nat) (A : Option Addr) (H : Hist) (L : List MR) (hr : HR H L) (i : Nat) (hi : i ≤ H.ents.length) : Sp Tryz.prog 85 [.pointer (some ⟨h, 0, none⟩), .int .i64 i] [hdP h A H.ops.length cap m H.total] [barF, RdF opD A cap H.ops] (fun v Lo fs => v = .int .i64 (beforeF H i) ∧ Lo = [hdP h A H.ops.length cap m H.total] ∧ fs = []) := by
 have hol := ops_len H
 have hlen := hr.len
 refine Sp.of (n := 25) ⟨_, Tryz.func85, rfl, rfl, rfl, rfl⟩ (Nat.le_of_ble_eq_true rfl) fun Ps As => WC_seq (WC_region (Lq (q_assign rfl) (WL_nil (thenN (WC_seq (WC_region (Lq (q_assign rfl) (WL_nil (thenN (WC_seq (WC_seq (WC_capLe M1 fun hcap hcap2 => ?_))))))))))))
 obtain ⟨B, hB⟩ : ∃ B, B = cutA A 0 cap 9 := ⟨_, rfl⟩
 refine WC_fact (A := RdF opD B cap (H.ops.take i)) (fun Z w hs => by rw [hB]; exact RdS.cut (lo := 0) (hi := i) (m := cap) (hs.facts _ M1) (Nat.zero_le _) (by omega) (by omega) (Nat.le_refl _)) (WC_region (Lq (q_move rfl) (Lq (q_nil rfl) (Lq (q_field (o' := 0) Un67 rfl ti51 rfl rfl) (Lq (q_load1 Un51 rfl rfl own0 rfl) (Lq (q_move rfl) (Lq (q_cutHi Un51 ti47 rfl rfl (by omega) (by omega)) (Lq (q_len Un51 rfl) (Lq (q_move rfl) ?_)))))))))
 refine WL_nil (thenN (WC_block ?_))
 refine WC_loopE (α := Nat) (fun k => i - k)
  (fun k => [(5, .int .i64 (sumW (H.ents.take k))), (13, .slice B i cap), (14, .int .i64 i), (15, .int .i64 k)])
  (fun k => (hdP h A H.ops.length cap m H.total :: Ps))
  (fun k => (RdF opD B cap (H.ops.take i) :: barF :: RdF opD A cap H.ops :: As))
  (fun k => k ≤ i)
  0 ?_ (.cons rfl (.cons (by rw [hB]; rfl) (.cons rfl (.cons rfl (.nil _))))) (Sk (Sr)) (fun _ h => h) ?_
 ·exact Nat.zero_le _
 ·rintro k hI
  refine WC_seq (WC_region (Lq (q_lss rfl rfl) (WL_nil (thenN (WC_seq (WC_cond rfl (fun h16 => ?_) (fun h16 => ?_)))))))
  ·refine WC_skip (thenN (WC_seq (WC_block (WC_seq ?_))))
   try simp only [Bp, Bq] at *
   have hk : k < (H.ops.take i).length := by rw [List.length_take]; omega
   have hke : k < H.ents.length := by rw [List.length_take] at hk; omega
   have hop : (H.ops.take i)[k] = H.ents[k].op := by rw [List.getElem_take, ops_at]
   refine WC_elem (k := k) M0 (List.getElem?_eq_getElem hk) (op_open _) fun b4 q4 y4 e4 => ?_
   cases e4
   refine WC_region (Lq (q_idxRd Un51 ti47 rfl rfl (by omega) (by omega)) (Lq (q_loadFN (k := 0) (vs := [_, _, _, _, _, _, _, _, _]) Un47 rfl ti47 rfl M0 rfl rfl rfl) (WL_main rfl (OW_alloc (cs := [_, _, _, _, _, _, _, _, _]) ti47 rfl (by decide) fun b7 => WL_main rfl (OW_storeN (cs' := [_, _, _, _, _, _, _, _, _]) (vs := [_, _, _, _, _, _, _, _, _]) ti47 rfl rfl rfl rfl rfl (Nat.le_of_ble_eq_true rfl) (.z) (WL_nil (thenN (WC_region (Lq (q_move rfl) (Lq (q_loadN (vs := [_, _, _, _, _, _, _, _, _]) Un47 rfl ti47 rfl own0 rfl rfl) (WL_main rfl (OW_call0 (width_s (H.ops.take i)[k] y4.1 y4.2 (by have := (hr.fit _ (List.getElem_mem hke)).text; rw [hop]; omega)) (.cons rfl (.nil)) (by decide) (memc M3 mem0) fun u5_2 Lo fs hres => ?_))))))))))))
   obtain ⟨rfl, rfl, rfl⟩ := hres
   refine Lq (q_add rfl rfl (wr64 (by have h1 := sumW_le (H.ents.take k) (fun e he => hr.wid e (List.mem_of_mem_take he)); have h2 := hr.wid _ (List.getElem_mem hke); have h3 := widthF_le (H.ops.take i)[k]; rw [hop] at h3; rw [hop]; rw [List.length_take] at h1; omega))) (Lq (q_assign rfl) (WL_nil (blockN (thenN (WC_region (Lq (q_add rfl rfl (wr64 (by omega))) (Lq (q_move rfl) (WL_nil (thenK ?_)))))))))
   have hsum : sumW (H.ents.take k) + widthF (H.ops.take i)[k] = sumW (H.ents.take (k + 1)) := by
    rw [List.take_succ_eq_append_getElem hke, sumW_append, hop]; simp [sumW]
   refine ⟨k + 1, ?_, (.cons (congrArg (fun z => some (Value.int .i64 z)) hsum) (.cons rfl (.cons rfl (.cons rfl (.nil _))))), (Sd (Sk (Sr))), T2⟩
   exact ⟨by omega, by omega⟩
  ·refine WC_exit (thenExit (thenExit (blockHit (thenN (WC_seq (WC_region (Lq (q_move rfl) (Lq (q_assign rfl) (WL_nil (thenN (WC_ret ?_)))))))))))
   try simp only [Bp, Bq] at *
   obtain rfl : k = i := by omega
   refine ⟨_, [_], [], fun Z w hs => .tmp rfl (.nil), ?_, fun Z w hs => hs.out (Sk (Sr)) T1⟩
   exact ⟨rfl, rfl, rfl⟩

end Go.Proofs.YtcjbjkbghgjmdaaGreatDoor
/- Walks: history.fits. -/
namespace Go.Proofs.YtcjbjkbghgjmdaaGreatDoor
open Go Go.GW
theorem keyT : KeyT Tryz.prog 37 := ⟨⟨3, _, _, Un37, Un3, ti3⟩, eq37⟩
theorem bd25Xw13  (w : World) : (Instr.build 37 #[]).run Tryz.prog w = .ok (.agg #[.int .i64 0, .int .i64 0]) w := by kernel_rfl

set_option maxRecDepth 10000 in
theorem fits_s (h m cap : Nat) (A : Option Addr) (H : Hist) (L : List MR) (hr : HR H L) (i : Int) (o : GOp) (Ao : Option Addr) (co : Nat) (ho : Fit o) : Sp Tryz.prog 63 [.pointer (some ⟨h, 0, none⟩), .int .i64 i, opV o Ao co] [hdP h A H.ops.length cap m H.total, mpP m L, mkP L] [barF, RdF opD A cap H.ops, RdF rgD Ao co o.rs] (HIs (.int .i64 (fitsF H i o)) [hdP h A H.ops.length cap m H.total, mpP m L, mkP L]) := by
 have hol := ops_len H
 have hlen := hr.len
 refine Sp.of (n := 91) ⟨_, Tryz.func63, rfl, rfl, rfl, rfl⟩ (Nat.le_of_ble_eq_true rfl) fun Ps As => WC_seq (WC_region (WL_main rfl (OW_box (cs := [_, _, _, _, _, _, _, _, _]) rfl rfl (by decide) fun b5 => Lq (q_assign rfl) (WL_nil (thenN (WC_seq (WC_seq (WC_region (Lq (q_move rfl) (Lq (q_lss rfl rfl) (Lq (q_move rfl) (WL_guard (t := 11) rfl (fun g11 => ?_) (fun g11 => ?_)))))))))))))
 ·refine Ln rfl rfl rfl g11 (Ln rfl rfl rfl g11 (Ln rfl rfl rfl g11 (Ln rfl rfl rfl g11 (Ln rfl rfl rfl g11 (Ln rfl rfl rfl g11 (Ln rfl rfl rfl g11 (Lq (q_pickT rfl g11 rfl) (WL_nil (thenN (WC_fr [(19, _), (6, _), (5, _), (0, _), (1, _)] (.cons rfl (.cons rfl (.cons rfl (.cons rfl (.cons rfl (.nil _)))))) ?_))))))))))
  refine WC_true rfl rfl (WC_seq (WC_region (Lq (q_assign rfl) (WL_nil (thenN (WC_ret (thenRet ?_)))))))
  refine ⟨_, [_, _, _], [], fun Z w hs => .tmp rfl (.nil), ?_, fun Z w hs => hs.out (Sd (Sk (Sk (Sk (Sr))))) (fun _ h => h)⟩
  try simp only [Bp, Bq] at *
  refine ⟨congrArg (Value.int .i64) ?_, rfl, rfl⟩
  unfold fitsF fitsT fitsRest
  first | (simp_all; done) | (simp_all; omega) | (repeat' split; all_goals first | rfl | omega | (simp_all; done) | (simp_all; omega))
 ·refine Lg rfl rfl rfl g11 (q_move rfl) (Lg rfl rfl rfl g11 (q_move rfl) (Lg rfl rfl rfl g11 (q_nil rfl) (Lg rfl rfl rfl g11 (q_field (o' := 0) Un67 rfl ti51 rfl rfl) (Lg rfl rfl rfl g11 (q_load1 Un51 rfl rfl (ownS (own0)) rfl) (Lg rfl rfl rfl g11 (q_len Un51 rfl) (Lg rfl rfl rfl g11 (q_gtr rfl rfl) (Lq (q_pickF rfl g11 rfl) (WL_nil (thenN (WC_fr [(19, _), (6, _), (5, _), (0, _), (1, _)] (.cons rfl (.cons rfl (.cons rfl (.cons rfl (.cons rfl (.nil _)))))) ?_))))))))))
  refine WC_cond rfl (fun h19 => ?_) (fun h19 => ?_)
  ·refine WC_seq (WC_region (Lq (q_assign rfl) (WL_nil (thenN (WC_ret (thenRet ?_))))))
   refine ⟨_, [_, _, _], [], fun Z w hs => .tmp rfl (.nil), ?_, fun Z w hs => hs.out (Sd (Sk (Sk (Sk (Sr))))) (fun _ h => h)⟩
   try simp only [Bp, Bq] at *
   refine ⟨congrArg (Value.int .i64) ?_, rfl, rfl⟩
   unfold fitsF fitsT fitsRest
   first | (simp_all; done) | (simp_all; omega) | (repeat' split; all_goals first | rfl | omega | (simp_all; done) | (simp_all; omega))
  ·refine WC_skip (thenN (WC_seq (WC_seq ?_)))
   try simp only [Bp, Bq] at *
   obtain ⟨i, rfl⟩ : ∃ k : Nat, i = (k : Int) := ⟨i.toNat, by omega⟩
   refine WC_draw _ _ [] (.c 0 0 (.c 1 0 (.c 2 0 (.c 3 2 (.c 4 2 (.c 5 0 .nil)))))) mixed (fun _ _ _ _ h => h) (Sk (Sd (Sk (Sk (Sr))))) (fun _ h => h) (by kernel_rfl) (by decide) fun ws Z0 => Qe rfl (q_loadN (vs := [_, _, _, _, _, _, _, _, _]) Un47 rfl ti47 rfl own0 rfl rfl) (Qe rfl (q_move rfl) (Qe rfl (q_move rfl) (WE_main rfl rfl (OW_call1 (before_s h m cap A H L hr i (by omega)) (.cons rfl (.cons rfl (.nil))) (by decide) (.s (.z)) (memc M1 (memc M2 mem0)) fun u3_3 Lo fs hres => ?_))))
   obtain ⟨rfl, rfl, rfl⟩ := hres
   refine ⟨⟨(Sd (Sk (Sk (Sk (Sr))))), M0⟩, ?_⟩
   refine WE_main rfl rfl (OW_call0 (opCheck_s o Ao co (beforeF H i) (by have := ho.text; omega) ho.rs) (.cons rfl (.cons rfl (.nil))) (by decide) (memc M1 (memc M3 mem0)) fun u3_4 Lo fs hres => ?_)
   obtain ⟨rfl, rfl, rfl⟩ := hres
   refine ⟨⟨(Sd (Sk (Sk (Sk (Sr))))), M0⟩, ?_⟩
   refine Qe rfl (q_assign rfl) (WE_end (WF_nil (thenN (WC_seq (WC_region (Lq (q_move rfl) (Lq (q_neq rfl rfl) (WL_nil (thenN (WC_cond rfl (fun h26 => ?_) (fun h26 => ?_)))))))))))
   ·refine WC_seq (WC_region (Lq (q_move rfl) (Lq (q_assign rfl) (WL_nil (thenN (WC_fr [(6, _), (5, _), (0, _), (1, _)] (.cons rfl (.cons rfl (.cons rfl (.cons rfl (.nil _))))) (WC_ret (thenRet ?_))))))))
    refine ⟨_, [_, _, _], [], fun Z w hs => .tmp rfl (.nil), ?_, fun Z w hs => hs.out (Sk (Sd (Sk (Sk (Sr))))) T1⟩
    try simp only [Bp, Bq] at *
    refine ⟨congrArg (Value.int .i64) ?_, rfl, rfl⟩
    unfold fitsF fitsT fitsRest
    first | (simp_all; done) | (simp_all; omega) | (repeat' split; all_goals first | rfl | omega | (simp_all; done) | (simp_all; omega))
   ·refine WC_skip (thenN (WC_seq (WC_block (WC_seq (WC_region (Lq (q_field (o' := 0) Un47 rfl ti44 rfl rfl) (Lq (q_field (o' := 2) Un44 rfl ti42 rfl rfl) (Lq (q_load1 Un42 rfl rfl (ownS (own0)) rfl) (Lq (q_eql rfl rfl) (Lq (q_assign rfl) (WL_nil (thenN (WC_fr [(28, _), (6, _), (5, _), (0, _), (1, _)] (.cons rfl (.cons rfl (.cons rfl (.cons rfl (.cons rfl (.nil _)))))) (WC_cond rfl (fun h28 => ?_) (fun h28 => ?_)))))))))))))))
    ·refine WC_seq (WC_region (Lq (q_assign rfl) (WL_nil (thenN (WC_ret (blockRet (thenRet ?_)))))))
     refine ⟨_, [_, _, _], [], fun Z w hs => .tmp rfl (.nil), ?_, fun Z w hs => hs.out (Sk (Sd (Sk (Sk (Sr))))) T1⟩
     try simp only [Bp, Bq] at *
     refine ⟨congrArg (Value.int .i64) ?_, rfl, rfl⟩
     unfold fitsF fitsT fitsRest
     first | (simp_all; done) | (simp_all; omega) | (repeat' split; all_goals first | rfl | omega | (simp_all; done) | (simp_all; omega))
    ·refine WC_seq (WC_region (Lq (q_field (o' := 0) Un47 rfl ti44 rfl rfl) (Lq (q_field (o' := 0) Un44 rfl ti37 rfl rfl) (Lq (q_loadN (vs := [_, _]) Un37 rfl ti37 rfl (ownS (own0)) rfl rfl) (Lq (q_build (.nil) (bd25Xw13)) (Lq (q_aggeql rfl rfl (eq37 _ _ _ _)) (Lq (q_assign rfl) (WL_nil (thenN (WC_cond rfl (fun h33 => ?_) (fun h33 => ?_)))))))))))
     ·refine WC_seq (WC_region (Lq (q_assign rfl) (WL_nil (thenN (WC_ret (blockRet (thenRet ?_)))))))
      refine ⟨_, [_, _, _], [], fun Z w hs => .tmp rfl (.nil), ?_, fun Z w hs => hs.out (Sk (Sd (Sk (Sk (Sr))))) T1⟩
      try simp only [Bp, Bq] at *
      refine ⟨congrArg (Value.int .i64) ?_, rfl, rfl⟩
      unfold fitsF fitsT fitsRest
      first | (simp_all; done) | (simp_all; omega) | (repeat' split; all_goals first | rfl | omega | (simp_all; done) | (simp_all; omega))
     ·refine WC_seq ?_
      cases hwd : whereId H.ents o.c o.n with
      | none =>
       have hgd := hr.look0 hwd
       refine WC_draw _ _ [] (.c 0 0 (.c 1 0 (.c 2 0 (.c 3 0 (.c 4 0 (.c 5 0 (.c 6 0 (.c 7 0 (.c 8 0 (.c 9 0 .nil)))))))))) mixed (fun _ _ _ _ h => h) (Sk (Sk (Sk (Sk (Sr))))) (fun _ h => h) (by kernel_rfl) (by decide) fun ws Z0 => Qe rfl (q_move rfl) (Qe rfl (q_nil rfl) (Qe rfl (q_field (o' := 1) Un67 rfl ti65 rfl rfl) (Qe rfl (q_load1 Un65 rfl rfl own0 rfl) (Qe rfl (q_field (o' := 0) Un47 rfl ti44 rfl rfl) (Qe rfl (q_field (o' := 0) Un44 rfl ti37 rfl rfl) (Qe rfl (q_loadN (vs := [_, _]) Un37 rfl ti37 rfl (ownS (own0)) rfl rfl) (Qe rfl (q_lookN keyT hgd Un65 ti74 rfl rfl (ownS (ownS (own0)))) (Qe rfl (q_pneq Un74 rfl rfl (by simp)) ?_))))))))
       refine Qe rfl (q_assign rfl) (WE_end (WF_nil (thenN (WC_fr [(39, _), (6, _), (5, _), (0, _), (1, _)] (.cons rfl (.cons rfl (.cons rfl (.cons rfl (.cons rfl (.nil _)))))) (WC_false rfl rfl (WC_skip (blockN (thenN (WC_seq (WC_seq (WC_region (Lq (q_field (o' := 0) Un47 rfl ti44 rfl rfl) (Lq (q_field (o' := 2) Un44 rfl ti42 rfl rfl) (Lq (q_load1 Un42 rfl rfl (ownS (own0)) rfl) (Lq (q_eql rfl rfl) (WL_nil (thenN ?_)))))))))))))))))
       refine WC_cond rfl (fun h52 => ?_) (fun h52 => ?_)
       ·refine WC_seq ?_
        cases hwt : whereId H.ents o.tc o.tn with
        | none =>
         have hgt := hr.look0 hwt
         refine WC_draw _ _ [] (.c 0 0 (.c 1 0 (.c 2 0 (.c 3 0 (.c 4 0 (.c 5 0 (.c 6 0 (.c 7 0 .nil)))))))) mixed (fun _ _ _ _ h => h) (Sk (Sk (Sk (Sk (Sr))))) (fun _ h => h) (by kernel_rfl) (by decide) fun ws Z0 => Qe rfl (q_move rfl) (Qe rfl (q_nil rfl) (Qe rfl (q_field (o' := 1) Un67 rfl ti65 rfl rfl) (Qe rfl (q_load1 Un65 rfl rfl own0 rfl) (Qe rfl (q_field (o' := 6) Un47 rfl ti37 rfl rfl) (Qe rfl (q_loadN (vs := [_, _]) Un37 rfl ti37 rfl (ownS (own0)) rfl rfl) (Qe rfl (q_lookN keyT hgt Un65 ti74 rfl rfl (ownS (ownS (own0)))) (Qe rfl (q_assign rfl) (WE_end (WF_nil ?_)))))))))
         refine thenN (WC_fr [(8, _), (6, _), (5, _), (0, _), (1, _)] (.cons rfl (.cons rfl (.cons rfl (.cons rfl (.cons rfl (.nil _)))))) (WC_seq (WC_seq (WC_region (Lq (q_move rfl) (Lq (q_peql Un74 rfl rfl (by simp)) (Lq (q_move rfl) (Ln rfl rfl rfl rfl (Ln rfl rfl rfl rfl (Ln rfl rfl rfl rfl (Ln rfl rfl rfl rfl ?_)))))))))))
         refine Ln rfl rfl rfl rfl (Ln rfl rfl rfl rfl (Lq (q_pickT rfl rfl rfl) (WL_nil (thenN (WC_fr [(69, _), (8, _), (6, _), (5, _), (0, _)] (.cons rfl (.cons rfl (.cons rfl (.cons rfl (.cons rfl (.nil _)))))) (WC_true rfl rfl (WC_seq (WC_region (Lq (q_assign rfl) (WL_nil (thenN (WC_ret (thenRet (thenRet ?_))))))))))))))
         refine ⟨_, [_, _, _], [], fun Z w hs => .tmp rfl (.nil), ?_, fun Z w hs => hs.out (Sk (Sd (Sk (Sk (Sr))))) T3⟩
         try simp only [Bp, Bq] at *
         refine ⟨congrArg (Value.int .i64) ?_, rfl, rfl⟩
         unfold fitsF fitsT fitsRest
         first | (simp_all; done) | (simp_all; omega) | (repeat' split; all_goals first | rfl | omega | (simp_all; done) | (simp_all; omega))
        | some kt =>
         obtain ⟨hkt, jt, xt, hct, hnt, hjt, hmt, hgt⟩ := hr.look1 hwt
         obtain ⟨xmt, xbt, xAt, xct⟩ := xt
         obtain rfl : xmt = markAt kt H.ents[kt] := hmt
         refine WC_draw _ _ [] (.c 0 0 (.c 1 0 (.c 2 0 (.c 3 0 (.c 4 0 (.c 5 0 (.c 6 0 (.c 7 0 .nil)))))))) mixed (fun _ _ _ _ h => h) (Sk (Sk (Sk (Sk (Sr))))) (fun _ h => h) (by kernel_rfl) (by decide) fun ws Z0 => Qe rfl (q_move rfl) (Qe rfl (q_nil rfl) (Qe rfl (q_field (o' := 1) Un67 rfl ti65 rfl rfl) (Qe rfl (q_load1 Un65 rfl rfl own0 rfl) (Qe rfl (q_field (o' := 6) Un47 rfl ti37 rfl rfl) (Qe rfl (q_loadN (vs := [_, _]) Un37 rfl ti37 rfl (ownS (own0)) rfl rfl) (Qe rfl (q_lookS keyT hgt Un65 ti74 rfl rfl (ownS (ownS (own0)))) (Qe rfl (q_assign rfl) (WE_end (WF_nil ?_)))))))))
         refine thenN (WC_fr [(8, _), (6, _), (5, _), (0, _), (1, _)] (.cons rfl (.cons rfl (.cons rfl (.cons rfl (.cons rfl (.nil _)))))) (WC_seq (WC_seq (WC_region (Lq (q_move rfl) (Lq (q_peql Un74 rfl rfl (by simp)) (Lq (q_move rfl) (Lg rfl rfl rfl rfl (q_move rfl) (Lg rfl rfl rfl rfl (q_nil rfl) (Lg rfl rfl rfl rfl (q_field (o' := 0) Un76 rfl ti3 rfl rfl) (Lg rfl rfl rfl rfl (q_load1 (v := .int .i64 (kt : Int)) Un3 rfl rfl (ownS (ownS (ownS (ownI (mkP_mem hjt))))) rfl) ?_)))))))))))
         refine Lg rfl rfl rfl rfl (q_move rfl) (Lg rfl rfl rfl rfl (q_geq rfl rfl) (Lq (q_pickF rfl rfl rfl) (WL_nil (thenN (WC_fr [(69, _), (8, _), (6, _), (5, _), (0, _)] (.cons rfl (.cons rfl (.cons rfl (.cons rfl (.cons rfl (.nil _)))))) (WC_cond rfl (fun h69 => ?_) (fun h69 => ?_)))))))
         ·refine WC_seq (WC_region (Lq (q_assign rfl) (WL_nil (thenN (WC_ret (thenRet (thenRet ?_)))))))
          refine ⟨_, [_, _, _], [], fun Z w hs => .tmp rfl (.nil), ?_, fun Z w hs => hs.out (Sk (Sd (Sk (Sk (Sr))))) T3⟩
          try simp only [Bp, Bq] at *
          refine ⟨congrArg (Value.int .i64) ?_, rfl, rfl⟩
          unfold fitsF fitsT fitsRest
          first | (simp_all; done) | (simp_all; omega) | (repeat' split; all_goals first | rfl | omega | (simp_all; done) | (simp_all; omega))
         ·refine WC_skip (thenN (WC_seq ?_))
          have hko : kt < H.ops.length := by omega
          refine WC_elem (k := kt) M4 (List.getElem?_eq_getElem hko) (op_open _) fun bo qo yo eo => ?_
          cases eo
          have hop := ops_at hkt
          refine WC_draw _ _ [] (.c 0 0 (.c 1 0 (.c 2 0 (.c 3 0 (.c 4 0 (.c 5 0 (.c 6 0 (.c 7 0 (.c 8 0 (.c 9 0 (.c 10 0 (.c 11 0 (.c 12 0 .nil))))))))))))) mixed (fun _ _ _ _ h => h) (Sk (Sk (Sk (Sk (Sr))))) (fun _ h => h) (by kernel_rfl) (by decide) fun ws Z0 => Qe rfl (q_move rfl) (Qe rfl (q_nil rfl) (Qe rfl (q_field (o' := 0) Un67 rfl ti51 rfl rfl) (Qe rfl (q_load1 Un51 rfl rfl own0 rfl) (Qe rfl (q_move rfl) (Qe rfl (q_nil rfl) (Qe rfl (q_field (o' := 0) Un76 rfl ti3 rfl rfl) (Qe rfl (q_load1 (v := .int .i64 (kt : Int)) Un3 rfl rfl (ownS (ownS (ownS (ownI (mkP_mem hjt))))) rfl) (Qe rfl (q_idxRd Un51 ti47 rfl rfl (by omega) (by omega)) ?_))))))))
          refine Qe rfl (q_field (o' := _ + 0) Un47 rfl ti44 rfl rfl) (Qe rfl (q_field (o' := _ + 2) Un44 rfl ti42 rfl rfl) (Qe rfl (q_loadF1 (j := 2) Un42 rfl rfl M0 rfl rfl) (Qe rfl (q_eql rfl rfl) (WE_end (WF_nil (thenN (WC_fr [(82, _), (6, _), (5, _), (0, _)] (.cons rfl (.cons rfl (.cons rfl (.cons rfl (.nil _))))) (WC_cond rfl (fun h82 => ?_) (fun h82 => ?_)))))))))
          ·refine WC_seq (WC_region (Lq (q_assign rfl) (WL_nil (thenN (WC_ret (thenRet ?_))))))
           refine ⟨_, [_, _, _], [], fun Z w hs => .tmp rfl (.nil), ?_, fun Z w hs => hs.out (Sk (Sd (Sk (Sk (Sr))))) T6⟩
           try simp only [Bp, Bq] at *
           refine ⟨congrArg (Value.int .i64) ?_, rfl, rfl⟩
           unfold fitsF fitsT fitsRest
           first | (simp_all; done) | (simp_all; omega) | (repeat' split; all_goals first | rfl | omega | (simp_all; done) | (simp_all; omega))
          ·refine WC_skip (thenN (WC_seq (WC_seq (WC_draw _ _ [] (.c 0 0 (.c 1 0 (.c 2 0 (.c 3 0 (.c 4 0 (.c 5 2 (.c 6 0 (.c 7 0 .nil)))))))) mixed (fun _ _ _ _ h => h) (Sk (Sk (Sk (Sk (Sr))))) (fun _ h => h) (by kernel_rfl) (by decide) fun ws Z0 => Qe rfl (q_move rfl) (Qe rfl (q_nil rfl) (Qe rfl (q_field (o' := 2) Un67 rfl ti3 rfl rfl) (Qe rfl (q_load1 Un3 rfl rfl own0 rfl) (Qe rfl (q_loadN (vs := [_, _, _, _, _, _, _, _, _]) Un47 rfl ti47 rfl (ownS (own0)) rfl rfl) (WE_main rfl rfl (OW_call0 (width_s o Ao co (by have := ho.text; omega)) (.cons rfl (.nil)) (by decide) (memc M7 mem0) fun u18_5 Lo fs hres => ?_))))))))))
           obtain ⟨rfl, rfl, rfl⟩ := hres
           refine ⟨⟨(Sk (Sk (Sk (Sk (Sr))))), M0⟩, ?_⟩
           refine Qe rfl (q_add rfl rfl (wr64 (by have := hr.tot; have := widthF_le o; have := ho.text; omega))) (Qe rfl (q_gtr rfl rfl) (WE_end (WF_nil (thenN (WC_cond rfl (fun h90 => ?_) (fun h90 => ?_))))))
           ·refine WC_seq (WC_region (Lq (q_assign rfl) (WL_nil (thenN (WC_ret (thenRet ?_))))))
            refine ⟨_, [_, _, _], [], fun Z w hs => .tmp rfl (.nil), ?_, fun Z w hs => hs.out (Sk (Sd (Sk (Sk (Sr))))) T7⟩
            try simp only [Bp, Bq] at *
            refine ⟨congrArg (Value.int .i64) ?_, rfl, rfl⟩
            unfold fitsF fitsT fitsRest
            first | (simp_all; done) | (simp_all; omega) | (repeat' split; all_goals first | rfl | omega | (simp_all; done) | (simp_all; omega))
           ·refine WC_skip (thenN (WC_seq (WC_region (Lq (q_assign rfl) (WL_nil (thenN (WC_ret ?_)))))))
            refine ⟨_, [_, _, _], [], fun Z w hs => .tmp rfl (.nil), ?_, fun Z w hs => hs.out (Sk (Sd (Sk (Sk (Sr))))) T7⟩
            try simp only [Bp, Bq] at *
            refine ⟨congrArg (Value.int .i64) ?_, rfl, rfl⟩
            unfold fitsF fitsT fitsRest
            first | (simp_all; done) | (simp_all; omega) | (repeat' split; all_goals first | rfl | omega | (simp_all; done) | (simp_all; omega))
       ·refine WC_skip (thenN (WC_seq (WC_seq (WC_draw _ _ [] (.c 0 0 (.c 1 0 (.c 2 0 (.c 3 0 (.c 4 0 (.c 5 2 (.c 6 0 (.c 7 0 .nil)))))))) mixed (fun _ _ _ _ h => h) (Sk (Sk (Sk (Sk (Sr))))) (fun _ h => h) (by kernel_rfl) (by decide) fun ws Z0 => Qe rfl (q_move rfl) (Qe rfl (q_nil rfl) (Qe rfl (q_field (o' := 2) Un67 rfl ti3 rfl rfl) (Qe rfl (q_load1 Un3 rfl rfl own0 rfl) (Qe rfl (q_loadN (vs := [_, _, _, _, _, _, _, _, _]) Un47 rfl ti47 rfl (ownS (own0)) rfl rfl) (WE_main rfl rfl (OW_call0 (width_s o Ao co (by have := ho.text; omega)) (.cons rfl (.nil)) (by decide) (memc M3 mem0) fun u18_5 Lo fs hres => ?_))))))))))
        obtain ⟨rfl, rfl, rfl⟩ := hres
        refine ⟨⟨(Sk (Sk (Sk (Sk (Sr))))), M0⟩, ?_⟩
        refine Qe rfl (q_add rfl rfl (wr64 (by have := hr.tot; have := widthF_le o; have := ho.text; omega))) (Qe rfl (q_gtr rfl rfl) (WE_end (WF_nil (thenN (WC_fr [(90, _), (6, _)] (.cons rfl (.cons rfl (.nil _))) (WC_cond rfl (fun h90 => ?_) (fun h90 => ?_)))))))
        ·refine WC_seq (WC_region (Lq (q_assign rfl) (WL_nil (thenN (WC_ret (thenRet ?_))))))
         refine ⟨_, [_, _, _], [], fun Z w hs => .tmp rfl (.nil), ?_, fun Z w hs => hs.out (Sk (Sd (Sk (Sk (Sr))))) T3⟩
         try simp only [Bp, Bq] at *
         refine ⟨congrArg (Value.int .i64) ?_, rfl, rfl⟩
         unfold fitsF fitsT fitsRest
         first | (simp_all; done) | (simp_all; omega) | (repeat' split; all_goals first | rfl | omega | (simp_all; done) | (simp_all; omega))
        ·refine WC_skip (thenN (WC_seq (WC_region (Lq (q_assign rfl) (WL_nil (thenN (WC_ret ?_)))))))
         refine ⟨_, [_, _, _], [], fun Z w hs => .tmp rfl (.nil), ?_, fun Z w hs => hs.out (Sk (Sd (Sk (Sk (Sr))))) T3⟩
         try simp only [Bp, Bq] at *
         refine ⟨congrArg (Value.int .i64) ?_, rfl, rfl⟩
         unfold fitsF fitsT fitsRest
         first | (simp_all; done) | (simp_all; omega) | (repeat' split; all_goals first | rfl | omega | (simp_all; done) | (simp_all; omega))
      | some kd =>
       obtain ⟨hkd, jd, xd, hcd, hnd, hjd, hmd, hgd⟩ := hr.look1 hwd
       obtain ⟨xmd, xbd, xAd, xcd⟩ := xd
       obtain rfl : xmd = markAt kd H.ents[kd] := hmd
       refine WC_draw _ _ [] (.c 0 0 (.c 1 0 (.c 2 0 (.c 3 0 (.c 4 0 (.c 5 0 (.c 6 0 (.c 7 0 (.c 8 0 (.c 9 0 .nil)))))))))) mixed (fun _ _ _ _ h => h) (Sk (Sk (Sk (Sk (Sr))))) (fun _ h => h) (by kernel_rfl) (by decide) fun ws Z0 => Qe rfl (q_move rfl) (Qe rfl (q_nil rfl) (Qe rfl (q_field (o' := 1) Un67 rfl ti65 rfl rfl) (Qe rfl (q_load1 Un65 rfl rfl own0 rfl) (Qe rfl (q_field (o' := 0) Un47 rfl ti44 rfl rfl) (Qe rfl (q_field (o' := 0) Un44 rfl ti37 rfl rfl) (Qe rfl (q_loadN (vs := [_, _]) Un37 rfl ti37 rfl (ownS (own0)) rfl rfl) (Qe rfl (q_lookS keyT hgd Un65 ti74 rfl rfl (ownS (ownS (own0)))) (Qe rfl (q_pneq Un74 rfl rfl (by simp)) ?_))))))))
       refine Qe rfl (q_assign rfl) (WE_end (WF_nil (thenN (WC_fr [(39, _), (6, _), (5, _), (0, _), (1, _)] (.cons rfl (.cons rfl (.cons rfl (.cons rfl (.cons rfl (.nil _)))))) (WC_true rfl rfl (WC_seq (WC_region (Lq (q_assign rfl) (WL_nil (thenN (WC_ret (blockRet (thenRet ?_)))))))))))))
       refine ⟨_, [_, _, _], [], fun Z w hs => .tmp rfl (.nil), ?_, fun Z w hs => hs.out (Sk (Sd (Sk (Sk (Sr))))) T2⟩
       try simp only [Bp, Bq] at *
       refine ⟨congrArg (Value.int .i64) ?_, rfl, rfl⟩
       unfold fitsF fitsT fitsRest
       first | (simp_all; done) | (simp_all; omega) | (repeat' split; all_goals first | rfl | omega | (simp_all; done) | (simp_all; omega))

end Go.Proofs.YtcjbjkbghgjmdaaGreatDoor
/- Walks: history.moved. -/
namespace Go.Proofs.YtcjbjkbghgjmdaaGreatDoor
open Go Go.GW
/-- Cells of the answers. -/
def slC (x : List Rg × Option Addr × Nat) : Value := .slice x.2.1 x.1.length x.2.2
def slsF (ys : List (List Rg × Option Addr × Nat)) : Fact := AllF ys fun x => RdF rgD x.2.1 x.2.2 x.1
structure MvI (ents : List Ent) (at_ n : Int) (k : Nat) (ys : List (List Rg × Option Addr × Nat)) : Prop where
 le : k ≤ ents.length
 len : ys.length = k
 eq : movedAll ents at_ n = (match movedAll (ents.drop k) at_ n with | .error e => .error e | .ok ls => .ok (ys.map Prod.fst ++ ls))
theorem MvI.err {ents : List Ent} {at_ n : Int} {k : Nat} {ys : List (List Rg × Option Addr × Nat)} (h : MvI ents at_ n k ys) (hk : k < ents.length) (h1 : (thrF ents[k].now at_ n).2 ≠ 0) : movedAll ents at_ n = .error (thrF ents[k].now at_ n).2 := by
 rw [h.eq, List.drop_eq_getElem_cons hk, movedAll, if_pos h1]
theorem MvI.next {ents : List Ent} {at_ n : Int} {k : Nat} {ys : List (List Rg × Option Addr × Nat)} (h : MvI ents at_ n k ys) (hk : k < ents.length) (h1 : ¬ (thrF ents[k].now at_ n).2 ≠ 0) (A : Option Addr) (c : Nat) : MvI ents at_ n (k + 1) (ys ++ [((thrF ents[k].now at_ n).1, A, c)]) := by
 refine ⟨hk, by simp [h.len], ?_⟩
 rw [h.eq, List.drop_eq_getElem_cons hk, movedAll, if_neg h1]
 cases movedAll (ents.drop (k + 1)) at_ n with
 | error e => rfl
 | ok ls => simp
theorem MvI.done {ents : List Ent} {at_ n : Int} {k : Nat} {ys : List (List Rg × Option Addr × Nat)} (h : MvI ents at_ n k ys) (hk : ¬ k < ents.length) : movedAll ents at_ n = .ok (ys.map Prod.fst) := by
 rw [h.eq, List.drop_eq_nil_of_le (by have := h.le; omega)]
 simp [movedAll]
theorem sls_reps {ys : List (List Rg × Option Addr × Nat)} {Z : Nat → Prop} {w : World} (h : (slsF ys).holds Z w) : Reps (rsl.rep Z w) (ys.map Prod.fst) (ys.map fun x => [slC x]) := by
 induction ys with
 | nil => exact .nil
 | cons y ys ih => exact .cons ⟨y.2.1, y.2.2, rfl, h y List.mem_cons_self⟩ (ih fun x hx => h x (List.mem_cons_of_mem _ hx))
theorem sls_flat (ys : List (List Rg × Option Addr × Nat)) : (ys.map fun x => [slC x]).flatten = ys.map slC := by
 induction ys with
 | nil => rfl
 | cons y ys ih => simp [ih]
def MvP (r : Except Int (List (List Rg))) (ps : List Part) : Value → List Part → List Fact → Prop := fun v Lo fs => Lo = ps ∧
 match r with
 | .error e => v = .tuple #[.slice none 0 0, .int .i64 e] ∧ fs = []
 | .ok ls => ∃ A c, v = .tuple #[.slice A ls.length c, .int .i64 0] ∧ fs = [RdF rsl A c ls]

set_option maxRecDepth 10000 in
theorem hmoved_s (h m cap : Nat) (A : Option Addr) (H : Hist) (L : List MR) (hr : HR H L) (at_ n : Int) : Sp Tryz.prog 65 [.pointer (some ⟨h, 0, none⟩), .int .i64 at_, .int .i64 n] [hdP h A H.ops.length cap m H.total, mpP m L, mkP L] [RdF opD A cap H.ops, AllF L nowF] (MvP (movedAll H.ents at_ n) [hdP h A H.ops.length cap m H.total, mpP m L, mkP L]) := by
 have hol := ops_len H
 have hlen := hr.len
 refine Sp.of (n := 55) ⟨_, Tryz.func65, rfl, rfl, rfl, rfl⟩ (Nat.le_of_ble_eq_true rfl) fun Ps As => WC_seq (WC_region (Lq (q_assign rfl) (Lq (q_assign rfl) (WL_nil (thenN (WC_seq (WC_region (Lq (q_move rfl) (Lq (q_nil rfl) (Lq (q_field (o' := 0) Un67 rfl ti51 rfl rfl) (Lq (q_load1 Un51 rfl rfl own0 rfl) (Lq (q_len Un51 rfl) ?_))))))))))))
 refine WL_main rfl (OW_make1 Un130 ti45 rfl rfl rfl (by omega) (by unfold maxLen; omega) (by decide) fun bo => Lq (q_assign rfl) (WL_nil (thenN (WC_seq (WC_seq (WC_region (Lq (q_move rfl) (Lq (q_nil rfl) (Lq (q_field (o' := 0) Un67 rfl ti51 rfl rfl) (Lq (q_load1 Un51 rfl rfl (ownS (own0)) rfl) (Lq (q_len Un51 rfl) (Lq (q_move rfl) (WL_nil (thenN ?_))))))))))))))
 refine WC_fr [(24, _), (23, _), (22, _), (8, _), (7, _), (6, _), (0, _), (1, _), (2, _)] (.cons rfl (.cons rfl (.cons rfl (.cons rfl (.cons rfl (.cons rfl (.cons rfl (.cons rfl (.cons rfl (.nil _)))))))))) (WC_block (WC_fact (A := slsF []) (fun Z w hs x hx => by cases hx) ?_))
 refine WC_loopE (α := Nat × List (List Rg × Option Addr × Nat)) (fun (k, ys) => H.ops.length - k)
  (fun (k, ys) => [(0, .pointer (some ⟨h, 0, none⟩)), (1, .int .i64 at_), (2, .int .i64 n), (8, .slice (some ⟨bo, 0, none⟩) H.ops.length H.ops.length), (22, .slice A H.ops.length cap), (23, .int .i64 H.ops.length), (24, .int .i64 k)])
  (fun (k, ys) => ([(bo, cellsO (ys.map slC ++ List.replicate (H.ops.length - k) (Value.slice none 0 0)) 45)] :: hdP h A H.ops.length cap m H.total :: mpP m L :: mkP L :: Ps))
  (fun (k, ys) => (slsF ys :: RdF opD A cap H.ops :: AllF L nowF :: As))
  (fun (k, ys) => MvI H.ents at_ n k ys)
  (0, []) ?_ (.cons rfl (.cons rfl (.cons rfl (.cons rfl (.cons rfl (.cons rfl (.cons rfl (.nil _)))))))) (Sk (Sk (Sk (Sk (Sr))))) (fun _ h => h) ?_
 ·exact ⟨Nat.zero_le _, rfl, by cases hq : movedAll H.ents at_ n <;> simp [hq]⟩
 ·rintro ⟨k, ys⟩ hI
  refine WC_seq (WC_region (Lq (q_lss rfl rfl) (WL_nil (thenN (WC_seq (WC_cond rfl (fun h25 => ?_) (fun h25 => ?_)))))))
  ·refine WC_skip (thenN (WC_seq (WC_block (WC_seq ?_))))
   try simp only [Bp, Bq] at *
   have hke : k < H.ents.length := by omega
   have hk : k < H.ops.length := by omega
   have hop := ops_at hke
   refine WC_elem (k := k) M1 (List.getElem?_eq_getElem hk) (op_open _) fun b4 q4 y4 e4 => ?_
   cases e4
   refine WC_region (Lq (q_move rfl) (Lq (q_idxRd Un51 ti47 rfl rfl (by omega) (by omega)) (Lq (q_loadFN (k := 0) (vs := [_, _, _, _, _, _, _, _, _]) Un47 rfl ti47 rfl M0 rfl rfl rfl) (WL_main rfl (OW_alloc (cs := [_, _, _, _, _, _, _, _, _]) ti47 rfl (by decide) fun b10 => Lq (q_assign rfl) (WL_main rfl (OW_storeN (cs' := [_, _, _, _, _, _, _, _, _]) (vs := [_, _, _, _, _, _, _, _, _]) ti47 rfl rfl rfl rfl rfl (Nat.le_of_ble_eq_true rfl) (.z) (WL_nil (thenN (WC_seq ?_))))))))))
   obtain ⟨jm, xm, hjm, hxm, hgm⟩ := hr.look hke
   obtain ⟨xk, xb, xA, xc⟩ := xm
   obtain rfl : xk = markAt k H.ents[k] := hxm
   rw [← hop] at hgm
   refine WC_all _ M4 (List.mem_of_getElem? hjm) (WC_draw _ _ [] (.c 0 0 (.c 1 0 (.c 2 0 (.c 3 0 (.c 4 0 (.c 5 0 (.c 6 0 (.c 7 0 (.c 8 0 (.c 9 0 (.c 10 0 (.c 11 0 (.c 12 0 (.c 13 2 (.c 14 0 (.c 15 0 (.c 16 0 (.c 17 0 (.c 18 0 .nil))))))))))))))))))) mixed (fun _ _ _ _ h => h) (Sk (Sk (Sk (Sk (Sk (Sr)))))) (fun _ h => h) (by kernel_rfl) (by decide) fun ws Z0 => Qe rfl (q_move rfl) (Qe rfl (q_nil rfl) (Qe rfl (q_field (o' := 1) Un67 rfl ti65 rfl rfl) (Qe rfl (q_load1 Un65 rfl rfl (ownS (ownS (own0))) rfl) (Qe rfl (q_field (o' := 0) Un47 rfl ti44 rfl rfl) (Qe rfl (q_field (o' := 0) Un44 rfl ti37 rfl rfl) ?_))))))
   refine Qe rfl (q_loadN (vs := [_, _]) Un37 rfl ti37 rfl own0 rfl rfl) (Qe rfl (q_lookS keyT hgm Un65 ti74 rfl rfl (ownS (ownS (ownS (own0))))) (Qe rfl (q_nil rfl) (Qe rfl (q_field (o' := 1) Un76 rfl ti45 rfl rfl) (Qe rfl (q_load1 Un45 rfl rfl (ownS (ownS (ownS (ownS (ownI (mkP_mem hjm)))))) rfl) (Qe rfl (q_move rfl) (Qe rfl (q_move rfl) (WE_main rfl rfl (OW_call0 (through_s xA xc H.ents[k].now at_ n (hr.now _ (List.getElem_mem hke))) (.cons rfl (.cons rfl (.cons rfl (.nil)))) (by decide) (memc M1 mem0) fun u5_13 Lo fs hres => ?_))))))))
   obtain ⟨A3, c3, rfl, rfl, rfl⟩ := hres
   refine ⟨⟨(Sk (Sk (Sk (Sk (Sk (Sr)))))), M1⟩, ?_⟩
   refine Qe rfl (q_move rfl) (Qe rfl (q_extract (vs := [_, _]) rfl rfl) (Qe rfl (q_extract (vs := [_, _]) rfl rfl) (Qe rfl (q_assign rfl) (Qe rfl (q_assign rfl) (WE_end (WF_nil (thenN (WC_seq (WC_seq (WC_region (Lq (q_move rfl) (Lq (q_neq rfl rfl) (WL_nil (thenN ?_))))))))))))))
   refine WC_cond rfl (fun h47 => ?_) (fun h47 => ?_)
   ·refine WC_seq (WC_region (Lq (q_move rfl) (Lq (q_assign rfl) (Lq (q_assign rfl) (WL_nil (thenN (WC_ret (thenRet (blockRet (thenRet (thenRet (blockRet (thenRet ?_)))))))))))))
    refine ⟨_, [_, _, _], [], fun Z w hs => .tmp rfl (.tmp rfl (.nil)), ?_, fun Z w hs => hs.out (Sd (Sd (Sk (Sk (Sk (Sr)))))) T6⟩
    try simp only [Bp, Bq] at *
    refine ⟨rfl, ?_⟩
    rw [hI.err hke (by omega)]
    exact ⟨rfl, rfl⟩
   ·refine WC_skip (thenN ?_)
    try simp only [Bp, Bq] at *
    have hrep : List.replicate (H.ops.length - k) (Value.slice none 0 0) = .slice none 0 0 :: List.replicate (H.ops.length - (k + 1)) (Value.slice none 0 0) := by rw [show H.ops.length - k = (H.ops.length - (k + 1)) + 1 from by omega, List.replicate_succ]
    have hyl := hI.len
    refine WC_region (Lq (q_move rfl) (Lq (q_move rfl) (Lq (q_move rfl) (Lq (q_idxOwn Un130 ti45 rfl rfl (by omega) (by omega)) (WL_main rfl (OW_storeC ti45 rfl rfl rfl (by rw [List.length_append, List.length_map, List.length_replicate]; omega) (.s (.z)) (WL_nil (blockN (thenN ?_)))))))))
    have hcell : (ys.map slC ++ List.replicate (H.ops.length - k) (Value.slice none 0 0)).set ((k : Int).toNat * 1) (.slice A3 (thrF (H.ents[k].now) at_ n).1.length c3) = (ys ++ [((thrF H.ents[k].now at_ n).1, A3, c3)]).map slC ++ List.replicate (H.ops.length - (k + 1)) (Value.slice none 0 0) := by
     have hk0 : (k : Int).toNat * 1 = (ys.map slC).length := by rw [List.length_map]; omega
     rw [hk0, List.set_append_right _ _ (Nat.le_refl _), Nat.sub_self, hrep]; simp [slC]
    refine WC_fact (A := slsF (ys ++ [((thrF H.ents[k].now at_ n).1, A3, c3)])) (fun Z w hs x hx => ?_) ?_
    ·rcases List.mem_append.1 hx with hx | hx
     ·exact hs.facts _ M5 x hx
     ·obtain rfl := List.mem_singleton.1 hx; exact hs.facts _ M0
    rw [hcell]
    refine WC_region (Lq (q_add rfl rfl (wr64 (by omega))) (Lq (q_move rfl) (WL_nil (thenK ?_))))
    refine ⟨(k + 1, ys ++ [((thrF H.ents[k].now at_ n).1, A3, c3)]), ?_, (.cons rfl (.cons rfl (.cons rfl (.cons rfl (.cons rfl (.cons rfl (.cons rfl (.nil _)))))))), (Sd (Sk (Sk (Sk (Sk (Sr)))))), (memc M0 T7)⟩
    exact ⟨by show H.ops.length - (k + 1) < H.ops.length - k; omega, hI.next hke (by omega) A3 c3⟩
  ·refine WC_exit (thenExit (thenExit (blockHit (thenN (WC_seq ?_)))))
   try simp only [Bp, Bq] at *
   have hyl := hI.len
   have hle := hI.le
   have hdone := hI.done (by omega)
   refine WC_fact (A := RepsF rsl (ys.map Prod.fst) (ys.map fun x => [slC x])) (fun Z w hs => sls_reps (hs.facts _ M0)) ?_
   have hrow : Row 45 rsl.sz (.slice (some ⟨bo, 0, none⟩) H.ops.length H.ops.length) H.ops.length (ys.map fun x => [slC x]).flatten [(bo, cellsO (ys.map slC ++ List.replicate (H.ops.length - k) (Value.slice none 0 0)) 45)] := by
    rw [sls_flat]
    exact ⟨by rw [List.length_map]; show _ = _ * 1; omega, .inr ⟨bo, _, _, rfl, rfl, by rw [List.length_append, List.length_map, List.length_replicate]; show _ = _ * 1; omega, Nat.le_refl _, by unfold maxLen; omega⟩⟩
   refine WC_freeze (e := rsl) (css := ys.map fun x => [slC x]) (xs := ys.map Prod.fst) hrow (.z) (by rw [List.length_map]; omega) M0 fun Ao co eo => ?_
   obtain ⟨rfl, _, rfl⟩ := Value.slice.inj eo
   refine WC_region (Lq (q_move rfl) (Lq (q_assign rfl) (Lq (q_assign rfl) (WL_nil (thenN (WC_ret ?_))))))
   refine ⟨_, [_, _, _], [_], fun Z w hs => .tmp rfl (.tmp rfl (.nil)), ?_, fun Z w hs => hs.out (Sk (Sk (Sk (Sr)))) (memc M0 T3)⟩
   refine ⟨rfl, ?_⟩
   rw [hdone]
   exact ⟨_, _, by rw [List.length_map, hyl, show k = H.ops.length from by omega]; rfl, rfl⟩

end Go.Proofs.YtcjbjkbghgjmdaaGreatDoor
/- Walks: history.turn, turned. -/
namespace Go.Proofs.YtcjbjkbghgjmdaaGreatDoor
open Go Go.GW
/-- What a method answers that makes an operation. -/
def OpR (r : GOp) (ps : List Part) : Value → List Part → List Fact → Prop := fun v Lo fs => ∃ (A' : Option Addr) (c' : Nat), v = opV r A' c' ∧ Lo = ps ∧ fs = [RdF rgD A' c' r.rs]
theorem bd28_1Xw15 (x1_ : Int) (w : World) : (Instr.build 44 #[(1, .int .i64 x1_)]).run Tryz.prog w = .ok (.agg #[.int .i64 0, .int .i64 0, .int .i64 x1_]) w := by kernel_rfl
theorem bd31_0_3Xw15 (x0_0a0 : Int) (x0_0a1 : Int) (x0_1 : Int) (x3_A : Option Addr) (x3_n x3_c : Nat) (w : World) : (Instr.build 47 #[(0, .agg #[.int .i64 x0_0a0, .int .i64 x0_0a1, .int .i64 x0_1]), (3, .slice x3_A x3_n x3_c)]).run Tryz.prog w = .ok (.agg #[.int .i64 x0_0a0, .int .i64 x0_0a1, .int .i64 x0_1, .int .i64 0, .string ⟨#[]⟩, .slice x3_A x3_n x3_c, .int .i64 0, .int .i64 0, .bool false]) w := by kernel_rfl

set_option maxRecDepth 10000 in
theorem turn_s (h m cap : Nat) (A : Option Addr) (H : Hist) (L : List MR) (hr : HR H L) (xs : List GOp) (tot : Int) (hx : xs = H.ops) (j k : Nat) (xb : Nat) (xA : Option Addr) (xc : Nat) (hk : k < H.ents.length) (hj : L[j]? = some ⟨markAt k H.ents[k], xb, xA, xc⟩) (on : Bool) : Sp Tryz.prog 20 [.pointer (some ⟨h, 0, none⟩), .pointer (some ⟨xb, 0, none⟩), .bool on] [hdP h A xs.length cap m tot, mkP L] [RdF opD A cap xs, AllF L nowF] (OpR (turnF H.ents[k] on) [hdP h A xs.length cap m tot, mkP L]) := by
 subst hx
 have hol := ops_len H
 have hlen := hr.len
 refine Sp.of (n := 31) ⟨_, Tryz.func20, rfl, rfl, rfl, rfl⟩ (Nat.le_of_ble_eq_true rfl) fun Ps As => WC_seq (WC_region (WL_main rfl (OW_alloc (cs := [_, _, _, _, _, _, _, _, _]) ti47 rfl (by decide) fun b6 => WL_nil (thenN (WC_seq (WC_region (Lq (q_assign rfl) (WL_nil (thenN (WC_seq (WC_seq ?_)))))))))))
 have hko : k < H.ops.length := by omega
 have hop := ops_at hk
 refine WC_elem (k := k) M0 (List.getElem?_eq_getElem hko) (op_open _) fun bo qo yo eo => ?_
 cases eo
 refine WC_all _ M3 (List.mem_of_getElem? hj) (WC_draw _ _ [] (.c 0 0 (.c 1 0 (.c 2 0 (.c 3 0 (.c 4 0 (.c 5 0 (.c 6 0 (.c 7 0 (.c 8 0 (.c 9 0 (.c 10 0 (.c 11 0 (.c 12 0 (.c 13 0 (.c 14 0 .nil))))))))))))))) mixed (fun _ _ _ _ h => h) (Sk (Sk (Sk (Sr)))) (fun _ h => h) (by kernel_rfl) (by decide) fun ws Z0 => Qe rfl (q_move rfl) (Qe rfl (q_nil rfl) (Qe rfl (q_field (o' := 0) Un67 rfl ti51 rfl rfl) (Qe rfl (q_load1 Un51 rfl rfl (ownS (own0)) rfl) (Qe rfl (q_move rfl) (Qe rfl (q_nil rfl) (Qe rfl (q_field (o' := 0) Un76 rfl ti3 rfl rfl) (Qe rfl (q_load1 (v := .int .i64 (k : Int)) Un3 rfl rfl (ownS (ownS (ownI (mkP_mem hj)))) rfl) ?_))))))))
 refine Qe rfl (q_idxRd Un51 ti47 rfl rfl (by omega) (by omega)) (Qe rfl (q_field (o' := _ + 0) Un47 rfl ti44 rfl rfl) (Qe rfl (q_field (o' := _ + 2) Un44 rfl ti42 rfl rfl) (Qe rfl (q_loadF1 (j := 2) Un42 rfl rfl M1 rfl rfl) (Qe rfl (q_eql rfl rfl) (Qe rfl (q_move rfl) (Qe rfl (q_beql' Un4 rfl rfl) (WE_end (WF_nil (thenN (WC_fr [(22, _), (7, _), (6, _), (1, _)] (.cons rfl (.cons rfl (.cons rfl (.cons rfl (.nil _))))) ?_))))))))))
 refine WC_cond rfl (fun h22 => ?_) (fun h22 => ?_)
 ·refine WC_region (Lq (q_assign rfl) (WL_nil (thenN (WC_seq (WC_region (Lq (q_move rfl) (Lq (q_build (.cons rfl (.nil)) (bd28_1Xw15 _)) (Lq (q_move rfl) (Lq (q_nil rfl) (Lq (q_field (o' := 1) Un76 rfl ti45 rfl rfl) (Lq (q_load1 Un45 rfl rfl (ownS (ownS (ownI (mkP_mem hj)))) rfl) (Lq (q_build (.cons rfl (.cons rfl (.nil))) (bd31_0_3Xw15 _ _ _ _ _ _)) ?_))))))))))))
  refine WL_main rfl (OW_call0 (clone_s { zeroOp with kind := 2, rs := H.ents[k].now } xA xc (hr.now _ (List.getElem_mem hk))) (.cons rfl (.nil)) (by decide) (memc M1 mem0) fun u4_7 Lo fs hres => ?_)
  obtain ⟨A1, c1, rfl, rfl, rfl⟩ := hres
  refine WL_main rfl (OW_storeN (cs' := [_, _, _, _, _, _, _, _, _]) (vs := [_, _, _, _, _, _, _, _, _]) ti47 rfl rfl rfl rfl rfl (Nat.le_of_ble_eq_true rfl) (.z) (WL_nil (thenN (WC_ret ?_))))
  refine ⟨_, [_, _], [_], fun Z w hs => RV_ownN hs Un47 rfl ti47 rfl own0 rfl (.nil), ?_, fun Z w hs => hs.out (Sd (Sk (Sk (Sr)))) (memc M0 T5)⟩
  try simp only [Bp, Bq] at *
  rw [hop] at h22
  have hT : turnF H.ents[k] on = { zeroOp with kind := 2, rs := H.ents[k].now } := by unfold turnF; cases on <;> simp_all
  exact ⟨A1, c1, by rw [hT]; rfl, rfl, by rw [hT]⟩
 ·refine WC_skip (thenN (WC_seq (WC_region (Lq (q_move rfl) (Lq (q_build (.cons rfl (.nil)) (bd28_1Xw15 _)) (Lq (q_move rfl) (Lq (q_nil rfl) (Lq (q_field (o' := 1) Un76 rfl ti45 rfl rfl) (Lq (q_load1 Un45 rfl rfl (ownS (ownS (ownI (mkP_mem hj)))) rfl) (Lq (q_build (.cons rfl (.cons rfl (.nil))) (bd31_0_3Xw15 _ _ _ _ _ _)) (WL_main rfl (OW_call0 (clone_s { zeroOp with kind := 3, rs := H.ents[k].now } xA xc (hr.now _ (List.getElem_mem hk))) (.cons rfl (.nil)) (by decide) (memc M1 mem0) fun u4_7 Lo fs hres => ?_))))))))))))
  obtain ⟨A1, c1, rfl, rfl, rfl⟩ := hres
  refine WL_main rfl (OW_storeN (cs' := [_, _, _, _, _, _, _, _, _]) (vs := [_, _, _, _, _, _, _, _, _]) ti47 rfl rfl rfl rfl rfl (Nat.le_of_ble_eq_true rfl) (.z) (WL_nil (thenN (WC_ret ?_))))
  refine ⟨_, [_, _], [_], fun Z w hs => RV_ownN hs Un47 rfl ti47 rfl own0 rfl (.nil), ?_, fun Z w hs => hs.out (Sd (Sk (Sk (Sr)))) (memc M0 T5)⟩
  try simp only [Bp, Bq] at *
  rw [hop] at h22
  have hT : turnF H.ents[k] on = { zeroOp with kind := 3, rs := H.ents[k].now } := by unfold turnF; cases on <;> simp_all
  exact ⟨A1, c1, by rw [hT]; rfl, rfl, by rw [hT]⟩

def TdP (H : Hist) (i : Nat) (o : GOp) (h m cap : Nat) (A : Option Addr) (L : List MR) : Value → List Part → List Fact → Prop := fun v Lo fs =>
 ∃ (L' : List MR) (A' : Option Addr) (c' : Nat), HR ⟨(turnedF H i o).1, H.total⟩ L' ∧ keys L' = keys L ∧ v = opV (turnedF H i o).2 A' c' ∧ Lo = [hdP h A H.ops.length cap m H.total, mpP m L, mkP L'] ∧ fs = [RdF rgD A' c' (turnedF H i o).2.rs, AllF L' nowF]
structure TdI (H : Hist) (i : Nat) (o : GOp) (k : Nat) : Prop where
 le : k ≤ (H.ops.drop i).length
 eq : laterT (H.ents.drop i) o.tc o.tn = laterT (H.ents.drop (i + k)) o.tc o.tn
theorem laterT_cons (e : Ent) (l : List Ent) (c n : Int) : laterT (e :: l) c n = ((decide (e.op.kind = 4) && (decide (e.op.tc = c) && decide (e.op.tn = n))) || laterT l c n) := rfl
theorem TdI.hit {H : Hist} {i : Nat} {o : GOp} {k : Nat} (h : TdI H i o k) (hk : i + k < H.ents.length) (h1 : H.ents[i + k].op.kind = 4 ∧ H.ents[i + k].op.tc = o.tc ∧ H.ents[i + k].op.tn = o.tn) : laterT (H.ents.drop i) o.tc o.tn = true := by
 rw [h.eq, List.drop_eq_getElem_cons hk, laterT_cons]; simp [h1]
theorem TdI.next {H : Hist} {i : Nat} {o : GOp} {k : Nat} (h : TdI H i o k) (hk : i + k < H.ents.length) (h1 : ¬ (H.ents[i + k].op.kind = 4 ∧ H.ents[i + k].op.tc = o.tc ∧ H.ents[i + k].op.tn = o.tn)) : TdI H i o (k + 1) := by
 refine ⟨by rw [List.length_drop, ops_len]; omega, ?_⟩
 rw [h.eq, List.drop_eq_getElem_cons hk, laterT_cons]
 have : (decide (H.ents[i + k].op.kind = 4) && (decide (H.ents[i + k].op.tc = o.tc) && decide (H.ents[i + k].op.tn = o.tn))) = false := by
  rw [Bool.eq_false_iff]; intro hh; simp at hh; exact h1 hh
 rw [this, Bool.false_or]; rfl
theorem TdI.done {H : Hist} {i : Nat} {o : GOp} {k : Nat} (h : TdI H i o k) (hk : ¬ i + k < H.ents.length) : laterT (H.ents.drop i) o.tc o.tn = false := by
 rw [h.eq, List.drop_eq_nil_of_le (by omega)]; rfl
theorem turnedF_1 {H : Hist} {i : Nat} {o : GOp} (h : laterT (H.ents.drop i) o.tc o.tn = true) : turnedF H i o = (H.ents, zeroOp) := by unfold turnedF; rw [if_pos h]
theorem turnedF_2 {H : Hist} {i : Nat} {o : GOp} {k : Nat} (h : laterT (H.ents.drop i) o.tc o.tn = false) (hw : whereId H.ents o.tc o.tn = some k) (hk : k < H.ents.length) (h2 : H.ents[k].off = !o.on) : turnedF H i o = (H.ents, zeroOp) := by
 unfold turnedF; rw [if_neg (by rw [h]; decide), hw]; simp only [List.getElem?_eq_getElem hk, if_pos h2]
theorem turnedF_3 {H : Hist} {i : Nat} {o : GOp} {k : Nat} (h : laterT (H.ents.drop i) o.tc o.tn = false) (hw : whereId H.ents o.tc o.tn = some k) (hk : k < H.ents.length) (h2 : ¬ H.ents[k].off = !o.on) : turnedF H i o = (H.ents.set k (offE H.ents[k] (!o.on)), turnF H.ents[k] o.on) := by
 unfold turnedF; rw [if_neg (by rw [h]; decide), hw]; simp only [List.getElem?_eq_getElem hk, if_neg h2]
theorem bd31Xw15  (w : World) : (Instr.build 47 #[]).run Tryz.prog w = .ok (.agg #[.int .i64 0, .int .i64 0, .int .i64 0, .int .i64 0, .string ⟨#[]⟩, .slice none 0 0, .int .i64 0, .int .i64 0, .bool false]) w := by kernel_rfl

set_option maxRecDepth 10000 in
theorem turned_s (h m cap : Nat) (A : Option Addr) (H : Hist) (L : List MR) (hr : HR H L) (i : Nat) (hi : i ≤ H.ents.length) (o : GOp) (Ao : Option Addr) (co k : Nat) (hw : whereId H.ents o.tc o.tn = some k) : Sp Tryz.prog 66 [.pointer (some ⟨h, 0, none⟩), .int .i64 i, opV o Ao co] [hdP h A H.ops.length cap m H.total, mpP m L, mkP L] [RdF opD A cap H.ops, AllF L nowF] (TdP H i o h m cap A L) := by
 have hol := ops_len H
 have hlen := hr.len
 obtain ⟨hk, j, x, hc, hn, hj, hm, hg⟩ := hr.look1 hw
 obtain ⟨xm, xb, xA, xc⟩ := x
 obtain rfl : xm = markAt k H.ents[k] := hm
 refine Sp.of (n := 61) ⟨_, Tryz.func66, rfl, rfl, rfl, rfl⟩ (Nat.le_of_ble_eq_true rfl) fun Ps As => WC_seq (WC_region (WL_main rfl (OW_box (cs := [_, _, _, _, _, _, _, _, _]) rfl rfl (by decide) fun b5 => WL_main rfl (OW_alloc (cs := [_, _, _, _, _, _, _, _, _]) ti47 rfl (by decide) fun b6 => WL_nil (thenN (WC_seq (WC_seq (WC_fact (A := RdF rgD none 0 []) (fun Z w hs => RdS.nil _ _ _) (WC_capLe M1 fun hcap hcap2 => ?_)))))))))
 obtain ⟨B, hB⟩ : ∃ B, B = cutA A i cap 9 := ⟨_, rfl⟩
 have hdl : H.ops.length - i = (H.ops.drop i).length := by rw [List.length_drop]
 refine WC_fact (A := RdF opD B (cap - i) (H.ops.drop i)) (fun Z w hs => by rw [hB]; have h1 := RdS.cut (lo := i) (hi := H.ops.length) (m := cap) (hs.facts _ M1) (by omega) (by omega) (by omega) (Nat.le_refl _); rw [List.take_length] at h1; exact h1) (WC_region (Lq (q_move rfl) (Lq (q_nil rfl) (Lq (q_field (o' := 0) Un67 rfl ti51 rfl rfl) (Lq (q_load1 Un51 rfl rfl (ownS (ownS (own0))) rfl) (Lq (q_move rfl) (Lq (q_cutLo Un51 ti47 rfl rfl (by omega) (by omega)) (Lq (q_len Un51 rfl) (Lq (q_move rfl) ?_)))))))))
 refine WL_nil (thenN (WC_block ?_))
 refine WC_loopE (α := Nat) (fun q => (H.ops.drop i).length - q)
  (fun q => [(0, .pointer (some ⟨h, 0, none⟩)), (5, .pointer (some ⟨b5, 0, none⟩)), (6, .pointer (some ⟨b6, 0, none⟩)), (15, .slice B (H.ops.drop i).length (cap - i)), (16, .int .i64 (H.ops.drop i).length), (17, .int .i64 q)])
  (fun q => ([(b6, cellsO (opC zeroOp none 0) 47)] :: [(b5, cellsO (opC o Ao co) 47)] :: hdP h A H.ops.length cap m H.total :: mpP m L :: mkP L :: Ps))
  (fun q => (RdF opD B (cap - i) (H.ops.drop i) :: RdF rgD none 0 [] :: RdF opD A cap H.ops :: AllF L nowF :: As))
  (fun q => TdI H i o q)
  0 ?_ (.cons rfl (.cons rfl (.cons rfl (.cons (by rw [hB, ← hdl]; rfl) (.cons (by rw [← hdl]; rfl) (.cons rfl (.nil _))))))) (Sk (Sk (Sk (Sk (Sk (Sr)))))) (fun _ h => h) ?_
 ·exact ⟨Nat.zero_le _, rfl⟩
 ·rintro q hI
  refine WC_seq (WC_region (Lq (q_lss rfl rfl) (WL_nil (thenN (WC_seq (WC_cond rfl (fun h18 => ?_) (fun h18 => ?_)))))))
  ·refine WC_skip (thenN (WC_seq (WC_block (WC_seq ?_))))
   try simp only [Bp, Bq] at *
   have hq : q < (H.ops.drop i).length := by omega
   have hqe : i + q < H.ents.length := by rw [List.length_drop] at hq; omega
   have hop : (H.ops.drop i)[q] = H.ents[i + q].op := by rw [List.getElem_drop, ops_at]
   refine WC_elem (k := q) M0 (List.getElem?_eq_getElem hq) (op_open _) fun b3 q3 y3 e3 => ?_
   cases e3
   refine WC_region (Lq (q_idxRd Un51 ti47 rfl rfl (by omega) (by omega)) (Lq (q_loadFN (k := 0) (vs := [_, _, _, _, _, _, _, _, _]) Un47 rfl ti47 rfl M0 rfl rfl rfl) (WL_main rfl (OW_alloc (cs := [_, _, _, _, _, _, _, _, _]) ti47 rfl (by decide) fun b8 => WL_main rfl (OW_storeN (cs' := [_, _, _, _, _, _, _, _, _]) (vs := [_, _, _, _, _, _, _, _, _]) ti47 rfl rfl rfl rfl rfl (Nat.le_of_ble_eq_true rfl) (.z) (WL_nil (thenN (WC_seq (WC_region (Lq (q_field (o' := 0) Un47 rfl ti44 rfl rfl) (Lq (q_field (o' := 2) Un44 rfl ti42 rfl rfl) (Lq (q_load1 Un42 rfl rfl own0 rfl) (Lq (q_eql rfl rfl) ?_)))))))))))))
   refine Lq (q_move rfl) (WL_guard (t := 25) rfl (fun g25 => ?_) (fun g25 => ?_))
   ·refine Lg rfl rfl rfl g25 (q_field (o' := 6) Un47 rfl ti37 rfl rfl) (Lg rfl rfl rfl g25 (q_loadN (vs := [_, _]) Un37 rfl ti37 rfl own0 rfl rfl) (Lg rfl rfl rfl g25 (q_field (o' := 6) Un47 rfl ti37 rfl rfl) (Lg rfl rfl rfl g25 (q_loadN (vs := [_, _]) Un37 rfl ti37 rfl (ownS (ownS (own0))) rfl rfl) (Lg rfl rfl rfl g25 (q_aggeql rfl rfl (eq37 _ _ _ _)) (Lq (q_pickT rfl g25 rfl) (WL_nil (thenN (WC_cond rfl (fun h31 => ?_) (fun h31 => ?_)))))))))
    ·refine WC_seq (WC_region (Lq (q_build (.nil) (bd31Xw15)) (WL_main rfl (OW_storeN (cs' := [_, _, _, _, _, _, _, _, _]) (vs := [_, _, _, _, _, _, _, _, _]) ti47 rfl rfl rfl rfl rfl (Nat.le_of_ble_eq_true rfl) (.s (.z)) (WL_nil (thenN (WC_ret (blockRet (thenRet (thenRet (blockRet (thenRet ?_))))))))))))
     refine ⟨_, [_, _, _], [_, _], fun Z w hs => RV_ownN hs Un47 rfl ti47 rfl (ownS (own0)) rfl (.nil), ?_, fun Z w hs => hs.out (Sd (Sd (Sd (Sk (Sk (Sk (Sr))))))) (memc M3 (memc M5 T4))⟩
     try simp only [Bp, Bq] at *
     have hF : turnedF H i o = _ := turnedF_1 (hI.hit hqe (by rw [← hop]; exact ⟨g25, h31.1, h31.2⟩))
     exact ⟨L, none, 0, by rw [hF]; exact hr, rfl, by rw [hF]; rfl, rfl, by rw [hF]; rfl⟩
    ·refine WC_skip (blockN (thenN (WC_region (Lq (q_add rfl rfl (wr64 (by omega))) (Lq (q_move rfl) (WL_nil (thenK ?_)))))))
     try simp only [Bp, Bq] at *
     refine ⟨q + 1, ?_, (.cons rfl (.cons rfl (.cons rfl (.cons rfl (.cons rfl (.cons rfl (.nil _))))))), (Sd (Sk (Sk (Sk (Sk (Sk (Sr))))))), T2⟩
     exact ⟨by omega, hI.next hqe (fun ⟨e1, e2, e3⟩ => by rw [← hop] at e1 e2 e3; first | exact absurd e1 g25 | (rcases h31 with h31 | h31; exact h31 e2; exact h31 e3))⟩
   ·refine Ln rfl rfl rfl g25 (Ln rfl rfl rfl g25 (Ln rfl rfl rfl g25 (Ln rfl rfl rfl g25 (Ln rfl rfl rfl g25 (Lq (q_pickF rfl g25 rfl) (WL_nil (thenN (WC_false rfl rfl (WC_skip (blockN (thenN (WC_region (Lq (q_add rfl rfl (wr64 (by omega))) (Lq (q_move rfl) (WL_nil (thenK ?_))))))))))))))))
    try simp only [Bp, Bq] at *
    refine ⟨q + 1, ?_, (.cons rfl (.cons rfl (.cons rfl (.cons rfl (.cons rfl (.cons rfl (.nil _))))))), (Sd (Sk (Sk (Sk (Sk (Sk (Sr))))))), T2⟩
    exact ⟨by omega, hI.next hqe (fun ⟨e1, e2, e3⟩ => by rw [← hop] at e1 e2 e3; first | exact absurd e1 g25 | (rcases h31 with h31 | h31; exact h31 e2; exact h31 e3))⟩
  ·refine WC_exit (thenExit (thenExit (blockHit (thenN (WC_seq (WC_draw _ _ [] (.c 0 0 (.c 1 0 (.c 2 0 (.c 3 0 (.c 4 0 (.c 5 0 (.c 6 0 (.c 7 0 .nil)))))))) mixed (fun _ _ _ _ h => h) (Sk (Sk (Sk (Sk (Sk (Sr)))))) (fun _ h => h) (by kernel_rfl) (by decide) fun ws Z0 => Qe rfl (q_move rfl) (Qe rfl (q_nil rfl) (Qe rfl (q_field (o' := 1) Un67 rfl ti65 rfl rfl) (Qe rfl (q_load1 Un65 rfl rfl (ownS (ownS (own0))) rfl) (Qe rfl (q_field (o' := 6) Un47 rfl ti37 rfl rfl) (Qe rfl (q_loadN (vs := [_, _]) Un37 rfl ti37 rfl (ownS (own0)) rfl rfl) (Qe rfl (q_lookS keyT hg Un65 ti74 rfl rfl (ownS (ownS (ownS (own0))))) (Qe rfl (q_assign rfl) ?_)))))))))))))
   refine WE_end (WF_nil (thenN (WC_fr [(9, _), (0, _), (5, _), (6, _)] (.cons rfl (.cons rfl (.cons rfl (.cons rfl (.nil _))))) (WC_seq (WC_seq (WC_draw _ _ [] (.c 0 0 (.c 1 0 (.c 2 0 (.c 3 0 (.c 4 0 (.c 5 0 (.c 6 0 (.c 7 0 .nil)))))))) mixed (fun _ _ _ _ h => h) (Sk (Sk (Sk (Sk (Sk (Sr)))))) (fun _ h => h) (by kernel_rfl) (by decide) fun ws Z0 => Qe rfl (q_move rfl) (Qe rfl (q_nil rfl) (Qe rfl (q_field (o' := 2) Un76 rfl ti4 rfl rfl) (Qe rfl (q_load1 (v := .bool H.ents[k].off) Un4 rfl rfl (ownS (ownS (ownS (ownS (ownI (mkP_mem hj)))))) rfl) (Qe rfl (q_field (o' := 8) Un47 rfl ti4 rfl rfl) ?_))))))))))
   refine Qe rfl (q_load1 Un4 rfl rfl (ownS (own0)) rfl) (Qe rfl (q_not rfl) (Qe rfl (q_beql' Un4 rfl rfl) (WE_end (WF_nil (thenN (WC_cond rfl (fun h48 => ?_) (fun h48 => ?_)))))))
   ·refine WC_seq (WC_region (Lq (q_build (.nil) (bd31Xw15)) (WL_main rfl (OW_storeN (cs' := [_, _, _, _, _, _, _, _, _]) (vs := [_, _, _, _, _, _, _, _, _]) ti47 rfl rfl rfl rfl rfl (Nat.le_of_ble_eq_true rfl) (.z) (WL_nil (thenN (WC_ret (thenRet ?_))))))))
    refine ⟨_, [_, _, _], [_, _], fun Z w hs => RV_ownN hs Un47 rfl ti47 rfl own0 rfl (.nil), ?_, fun Z w hs => hs.out (Sd (Sd (Sk (Sk (Sk (Sr)))))) (memc M3 (memc M5 T4))⟩
    try simp only [Bp, Bq] at *
    have hF : turnedF H i o = _ := turnedF_2 (hI.done (by have := hI.le; rw [List.length_drop] at this; omega)) hw hk (by simpa using h48)
    exact ⟨L, none, 0, by rw [hF]; exact hr, rfl, by rw [hF]; rfl, rfl, by rw [hF]; rfl⟩
   ·refine WC_skip (thenN (WC_seq (WC_region (Lq (q_move rfl) (Lq (q_field (o' := 8) Un47 rfl ti4 rfl rfl) (Lq (q_load1 Un4 rfl rfl (ownS (own0)) rfl) (Lq (q_not rfl) (Lq (q_nil rfl) (Lq (q_field (o' := 2) Un76 rfl ti4 rfl rfl) (WL_main rfl (OW_storeP (i := j) ti4 rfl rfl rfl (mkP_get hj) (.s (.s (.z))) (.s (.s (.s (.s (.z))))) (WL_nil (thenN (WC_fr [(9, _), (0, _), (5, _), (6, _)] (.cons rfl (.cons rfl (.cons rfl (.cons rfl (.nil _))))) ?_))))))))))))))
    refine WC_seq ?_
    try simp only [Bp, Bq] at *
    have hmk : (mkP L).set j (xb, cellsO [.int .i64 (markAt k H.ents[k]).num, .slice xA (markAt k H.ents[k]).now.length xc, .bool (!o.on)] 76) = mkP (L.set j ⟨markAt k (offE H.ents[k] (!o.on)), xb, xA, xc⟩) := by rw [mkP_set]; rfl
    rw [hmk]
    have hr' := hr.upd hk hj rfl (offE H.ents[k] (!o.on)) rfl (hr.now H.ents[k] (List.getElem_mem hk)) xA xc
    refine WC_fact (A := AllF (L.set j ⟨markAt k (offE H.ents[k] (!o.on)), xb, xA, xc⟩) nowF) (fun Z w hs => now_set (hs.facts _ M5) (hs.facts _ M5 ⟨markAt k H.ents[k], xb, xA, xc⟩ (List.mem_of_getElem? hj))) (WC_region (Lq (q_move rfl) (Lq (q_move rfl) (Lq (q_field (o' := 8) Un47 rfl ti4 rfl rfl) (Lq (q_load1 Un4 rfl rfl (ownS (own0)) rfl) ?_)))))
    refine WL_main rfl (OW_call2 (turn_s h m cap A _ _ hr' H.ops H.total (hops_set hk (offE H.ents[k] (!o.on)) rfl H.total).symm j k xb xA xc (by simpa using hk) (by rw [List.getElem?_set_self (by rcases Nat.lt_or_ge j L.length with hh | hh; exact hh; rw [List.getElem?_eq_none hh] at hj; cases hj)]; simp) o.on) (.cons rfl (.cons rfl (.cons rfl (.nil)))) (by decide) (.s (.s (.z))) (.s (.s (.s (.z)))) (memc M5 (memc M0 mem0)) fun u11_4 Lo fs hres => ?_)
    obtain ⟨A1, c1, rfl, rfl, rfl⟩ := hres
    refine WL_main rfl (OW_storeN (cs' := [_, _, _, _, _, _, _, _, _]) (vs := [_, _, _, _, _, _, _, _, _]) ti47 rfl rfl rfl rfl rfl (Nat.le_of_ble_eq_true rfl) (.s (.s (.z))) (WL_nil (thenN (WC_ret ?_))))
    refine ⟨_, [_, _, _], [_, _], fun Z w hs => RV_ownN hs Un47 rfl ti47 rfl (ownS (ownS (own0))) rfl (.nil), ?_, fun Z w hs => (((hs.pick (.s (.z))).pick (.s (.s (.s (.s (.z)))))).pick (.s (.s (.z)))).out (Sk (Sk (Sk (Sd (Sd (Sr)))))) (memc M0 (memc M1 T6))⟩
    have hF := turnedF_3 (hI.done (by have := hI.le; rw [List.length_drop] at this; omega)) hw hk (by simpa using h48)
    refine ⟨L.set j ⟨markAt k (offE H.ents[k] (!o.on)), xb, xA, xc⟩, A1, c1, by rw [hF]; exact hr', keys_set hj rfl rfl rfl, ?_, rfl, ?_⟩
    ·rw [hF]; simp only [List.getElem_set_self]; rfl
    ·rw [hF]; simp only [List.getElem_set_self]; rfl

end Go.Proofs.YtcjbjkbghgjmdaaGreatDoor
/- Walks: history.Entry, Ops. -/
namespace Go.Proofs.YtcjbjkbghgjmdaaGreatDoor
open Go Go.GW
structure GEn where
 c : Int
 n : Int
 kind : Int
 on : Bool
 rs : List Rg
 tc : Int
 tn : Int
def enC (e : GEn) (A : Option Addr) (c : Nat) : List Value := [.int .i64 e.c, .int .i64 e.n, .int .i64 e.kind, .bool e.on, .slice A e.rs.length c, .int .i64 e.tc, .int .i64 e.tn]
def enV (e : GEn) (A : Option Addr) (c : Nat) : Value := .agg (enC e A c).toArray
def entE (e : Ent) : GEn := if e.op.kind = 4 then ⟨e.op.c, e.op.n, e.op.kind, e.op.on, [], e.op.tc, e.op.tn⟩ else ⟨e.op.c, e.op.n, e.op.kind, !e.off, e.now, 0, 0⟩
def entryF (H : Hist) (i : Int) : GEn × Int := match H.ents[i.toNat]? with
 | none => (⟨0, 0, 0, false, [], 0, 0⟩, 12)
 | some e => if i < 0 then (⟨0, 0, 0, false, [], 0, 0⟩, 12) else (entE e, 0)
theorem entryF_bad {H : Hist} {i : Int} (h : i < 0 ∨ i ≥ H.ents.length) : entryF H i = (⟨0, 0, 0, false, [], 0, 0⟩, 12) := by
 unfold entryF
 cases hq : H.ents[i.toNat]? with
 | none => rfl
 | some e =>
  rcases h with h | h
  ·simp [h]
  ·rw [List.getElem?_eq_none (by omega)] at hq; cases hq
theorem entryF_at {H : Hist} {k : Nat} (h : k < H.ents.length) : entryF H k = (entE H.ents[k], 0) := by
 unfold entryF
 rw [Int.toNat_natCast, List.getElem?_eq_getElem h]
 simp only [if_neg (by omega : ¬ (k : Int) < 0)]
def EnP (r : GEn × Int) (ps : List Part) : Value → List Part → List Fact → Prop := fun v Lo fs => ∃ (A' : Option Addr) (c' : Nat), v = .tuple #[enV r.1 A' c', .int .i64 r.2] ∧ Lo = ps ∧ fs = [RdF rgD A' c' r.1.rs]
theorem bd42Xw16  (w : World) : (Instr.build 57 #[]).run Tryz.prog w = .ok (.agg #[.int .i64 0, .int .i64 0, .int .i64 0, .bool false, .slice none 0 0, .int .i64 0, .int .i64 0]) w := by kernel_rfl
theorem bd42_0_1_2_4Xw16 (x0_a0 : Int) (x0_a1 : Int) (x1_ : Int) (x2_ : Bool) (x4_a0 : Int) (x4_a1 : Int) (w : World) : (Instr.build 57 #[(0, .agg #[.int .i64 x0_a0, .int .i64 x0_a1]), (1, .int .i64 x1_), (2, .bool x2_), (4, .agg #[.int .i64 x4_a0, .int .i64 x4_a1])]).run Tryz.prog w = .ok (.agg #[.int .i64 x0_a0, .int .i64 x0_a1, .int .i64 x1_, .bool x2_, .slice none 0 0, .int .i64 x4_a0, .int .i64 x4_a1]) w := by kernel_rfl
theorem bd31_3Xw16 (x3_A : Option Addr) (x3_n x3_c : Nat) (w : World) : (Instr.build 47 #[(3, .slice x3_A x3_n x3_c)]).run Tryz.prog w = .ok (.agg #[.int .i64 0, .int .i64 0, .int .i64 0, .int .i64 0, .string ⟨#[]⟩, .slice x3_A x3_n x3_c, .int .i64 0, .int .i64 0, .bool false]) w := by kernel_rfl
theorem fd31_3Xw16 (x00a0 : Int) (x00a1 : Int) (x01 : Int) (x1 : Int) (x2 : ByteArray) (x3A : Option Addr) (x3n x3c : Nat) (x4a0 : Int) (x4a1 : Int) (x5 : Bool) (w : World) : (Instr.field 47 (.agg #[.int .i64 x00a0, .int .i64 x00a1, .int .i64 x01, .int .i64 x1, .string x2, .slice x3A x3n x3c, .int .i64 x4a0, .int .i64 x4a1, .bool x5]) 3).run Tryz.prog w = .ok (.slice x3A x3n x3c) w := by kernel_rfl
theorem bd42_0_1_2_3Xw16 (x0_a0 : Int) (x0_a1 : Int) (x1_ : Int) (x2_ : Bool) (x3_A : Option Addr) (x3_n x3_c : Nat) (w : World) : (Instr.build 57 #[(0, .agg #[.int .i64 x0_a0, .int .i64 x0_a1]), (1, .int .i64 x1_), (2, .bool x2_), (3, .slice x3_A x3_n x3_c)]).run Tryz.prog w = .ok (.agg #[.int .i64 x0_a0, .int .i64 x0_a1, .int .i64 x1_, .bool x2_, .slice x3_A x3_n x3_c, .int .i64 0, .int .i64 0]) w := by kernel_rfl

set_option maxRecDepth 10000 in
theorem entry_s (h m cap : Nat) (A : Option Addr) (H : Hist) (L : List MR) (hr : HR H L) (i : Int) : Sp Tryz.prog 15 [.pointer (some ⟨h, 0, none⟩), .int .i64 i] [hdP h A H.ops.length cap m H.total, mpP m L, mkP L] [RdF opD A cap H.ops, AllF L nowF] (EnP (entryF H i) [hdP h A H.ops.length cap m H.total, mpP m L, mkP L]) := by
 have hol := ops_len H
 have hlen := hr.len
 refine Sp.of (n := 69) ⟨_, Tryz.func15, rfl, rfl, rfl, rfl⟩ (Nat.le_of_ble_eq_true rfl) fun Ps As => WC_seq (WC_region (WL_main rfl (OW_alloc (cs := [_, _, _, _, _, _, _]) ti57 rfl (by decide) fun b4 => Lq (q_assign rfl) (WL_nil (thenN (WC_seq (WC_seq (WC_fact (A := RdF rgD none 0 []) (fun Z w hs => RdS.nil _ _ _) (WC_region (Lq (q_move rfl) (Lq (q_lss rfl rfl) (Lq (q_move rfl) ?_))))))))))))
 refine WL_guard (t := 10) rfl (fun g10 => ?_) (fun g10 => ?_)
 ·refine Ln rfl rfl rfl g10 (Ln rfl rfl rfl g10 (Ln rfl rfl rfl g10 (Ln rfl rfl rfl g10 (Ln rfl rfl rfl g10 (Ln rfl rfl rfl g10 (Ln rfl rfl rfl g10 (Lq (q_pickT rfl g10 rfl) (WL_nil (thenN (WC_fr [(18, _), (5, _), (4, _), (0, _), (1, _)] (.cons rfl (.cons rfl (.cons rfl (.cons rfl (.cons rfl (.nil _)))))) ?_))))))))))
  refine WC_true rfl rfl (WC_seq (WC_region (Lq (q_build (.nil) (bd42Xw16)) (WL_main rfl (OW_storeN (cs' := [_, _, _, _, _, _, _]) (vs := [_, _, _, _, _, _, _]) ti57 rfl rfl rfl rfl rfl (Nat.le_of_ble_eq_true rfl) (.z) (Lq (q_assign rfl) (WL_nil (thenN (WC_ret (thenRet ?_))))))))))
  refine ⟨_, [_, _, _], [_], fun Z w hs => RV_ownN hs Un57 rfl ti57 rfl own0 rfl (.tmp rfl (.nil)), ?_, fun Z w hs => hs.out (Sd (Sk (Sk (Sk (Sr))))) (fun _ h => h)⟩
  try simp only [Bp, Bq] at *
  have hF := entryF_bad (H := H) (i := i) (by omega)
  exact ⟨none, 0, by rw [hF]; rfl, rfl, by rw [hF]⟩
 ·refine Lg rfl rfl rfl g10 (q_move rfl) (Lg rfl rfl rfl g10 (q_move rfl) (Lg rfl rfl rfl g10 (q_nil rfl) (Lg rfl rfl rfl g10 (q_field (o' := 0) Un67 rfl ti51 rfl rfl) (Lg rfl rfl rfl g10 (q_load1 Un51 rfl rfl (ownS (own0)) rfl) (Lg rfl rfl rfl g10 (q_len Un51 rfl) (Lg rfl rfl rfl g10 (q_geq rfl rfl) (Lq (q_pickF rfl g10 rfl) (WL_nil (thenN (WC_fr [(18, _), (5, _), (4, _), (0, _), (1, _)] (.cons rfl (.cons rfl (.cons rfl (.cons rfl (.cons rfl (.nil _)))))) ?_))))))))))
  refine WC_cond rfl (fun h18 => ?_) (fun h18 => ?_)
  ·refine WC_seq (WC_region (Lq (q_build (.nil) (bd42Xw16)) (WL_main rfl (OW_storeN (cs' := [_, _, _, _, _, _, _]) (vs := [_, _, _, _, _, _, _]) ti57 rfl rfl rfl rfl rfl (Nat.le_of_ble_eq_true rfl) (.z) (Lq (q_assign rfl) (WL_nil (thenN (WC_ret (thenRet ?_)))))))))
   refine ⟨_, [_, _, _], [_], fun Z w hs => RV_ownN hs Un57 rfl ti57 rfl own0 rfl (.tmp rfl (.nil)), ?_, fun Z w hs => hs.out (Sd (Sk (Sk (Sk (Sr))))) (fun _ h => h)⟩
   try simp only [Bp, Bq] at *
   have hF := entryF_bad (H := H) (i := i) (by omega)
   exact ⟨none, 0, by rw [hF]; rfl, rfl, by rw [hF]⟩
  ·refine WC_skip (thenN (WC_seq ?_))
   try simp only [Bp, Bq] at *
   obtain ⟨k, rfl⟩ : ∃ k : Nat, i = (k : Int) := ⟨i.toNat, by omega⟩
   have hk : k < H.ents.length := by omega
   have hko : k < H.ops.length := by omega
   have hop := ops_at hk
   refine WC_elem (k := k) M1 (List.getElem?_eq_getElem hko) (op_open _) fun bo qo yo eo => ?_
   cases eo
   refine WC_region (Lq (q_move rfl) (Lq (q_nil rfl) (Lq (q_field (o' := 0) Un67 rfl ti51 rfl rfl) (Lq (q_load1 Un51 rfl rfl (ownS (own0)) rfl) (Lq (q_move rfl) (Lq (q_idxRd Un51 ti47 rfl rfl (by omega) (by omega)) (Lq (q_loadFN (k := 0) (vs := [_, _, _, _, _, _, _, _, _]) Un47 rfl ti47 rfl M0 rfl rfl rfl) (WL_main rfl (OW_alloc (cs := [_, _, _, _, _, _, _, _, _]) ti47 rfl (by decide) fun b6 => WL_main rfl (OW_storeN (cs' := [_, _, _, _, _, _, _, _, _]) (vs := [_, _, _, _, _, _, _, _, _]) ti47 rfl rfl rfl rfl rfl (Nat.le_of_ble_eq_true rfl) (.z) ?_))))))))))
   refine WL_nil (thenN (WC_seq (WC_seq (WC_region (Lq (q_field (o' := 0) Un47 rfl ti44 rfl rfl) (Lq (q_field (o' := 2) Un44 rfl ti42 rfl rfl) (Lq (q_load1 Un42 rfl rfl own0 rfl) (Lq (q_eql rfl rfl) (WL_nil (thenN (WC_fr [(30, _), (6, _), (5, _), (4, _), (0, _)] (.cons rfl (.cons rfl (.cons rfl (.cons rfl (.cons rfl (.nil _)))))) (WC_cond rfl (fun h30 => ?_) (fun h30 => ?_)))))))))))))
   ·refine WC_seq (WC_region (Lq (q_field (o' := 0) Un47 rfl ti44 rfl rfl) (Lq (q_field (o' := 0) Un44 rfl ti37 rfl rfl) (Lq (q_loadN (vs := [_, _]) Un37 rfl ti37 rfl own0 rfl rfl) (Lq (q_field (o' := 0) Un47 rfl ti44 rfl rfl) (Lq (q_field (o' := 2) Un44 rfl ti42 rfl rfl) (Lq (q_load1 Un42 rfl rfl own0 rfl) (Lq (q_field (o' := 8) Un47 rfl ti4 rfl rfl) (Lq (q_load1 Un4 rfl rfl own0 rfl) (Lq (q_field (o' := 6) Un47 rfl ti37 rfl rfl) ?_))))))))))
    refine Lq (q_loadN (vs := [_, _]) Un37 rfl ti37 rfl own0 rfl rfl) (Lq (q_build (.cons rfl (.cons rfl (.cons rfl (.cons rfl (.nil))))) (bd42_0_1_2_4Xw16 _ _ _ _ _ _)) (WL_main rfl (OW_storeN (cs' := [_, _, _, _, _, _, _]) (vs := [_, _, _, _, _, _, _]) ti57 rfl rfl rfl rfl rfl (Nat.le_of_ble_eq_true rfl) (.s (.z)) (Lq (q_assign rfl) (WL_nil (thenN (WC_fr [(5, _), (6, _), (4, _), (0, _)] (.cons rfl (.cons rfl (.cons rfl (.cons rfl (.nil _))))) (WC_ret (thenRet ?_)))))))))
    refine ⟨_, [_, _, _], [_], fun Z w hs => RV_ownN hs Un57 rfl ti57 rfl (ownS (own0)) rfl (.tmp rfl (.nil)), ?_, fun Z w hs => hs.out (Sd (Sd (Sk (Sk (Sk (Sr)))))) T2⟩
    try simp only [Bp, Bq] at *
    rw [hop] at h30
    have hF : entryF H (k : Int) = _ := (entryF_at hk).trans (by unfold entE; rw [if_pos h30])
    exact ⟨none, 0, by rw [hF]; simp only [hop]; rfl, rfl, by rw [hF]⟩
   ·refine WC_skip (thenN (WC_seq ?_))
    obtain ⟨jm, xm, hjm, hxm, hgm⟩ := hr.look hk
    obtain ⟨xk, xb, xA, xc⟩ := xm
    obtain rfl : xk = markAt k H.ents[k] := hxm
    rw [← hop] at hgm
    refine WC_all _ M4 (List.mem_of_getElem? hjm) (WC_draw _ _ [] (.c 0 0 (.c 1 0 (.c 2 0 (.c 3 0 (.c 4 0 (.c 5 0 (.c 6 0 (.c 7 0 (.c 8 0 .nil))))))))) mixed (fun _ _ _ _ h => h) (Sk (Sk (Sk (Sk (Sk (Sr)))))) (fun _ h => h) (by kernel_rfl) (by decide) fun ws Z0 => Qe rfl (q_move rfl) (Qe rfl (q_nil rfl) (Qe rfl (q_field (o' := 1) Un67 rfl ti65 rfl rfl) (Qe rfl (q_load1 Un65 rfl rfl (ownS (ownS (own0))) rfl) (Qe rfl (q_field (o' := 0) Un47 rfl ti44 rfl rfl) (Qe rfl (q_field (o' := 0) Un44 rfl ti37 rfl rfl) (Qe rfl (q_loadN (vs := [_, _]) Un37 rfl ti37 rfl own0 rfl rfl) (Qe rfl (q_lookS keyT hgm Un65 ti74 rfl rfl (ownS (ownS (ownS (own0))))) ?_))))))))
    refine Qe rfl (q_assign rfl) (WE_end (WF_nil (thenN (WC_fr [(7, _), (6, _), (5, _), (4, _)] (.cons rfl (.cons rfl (.cons rfl (.cons rfl (.nil _))))) (WC_seq (WC_draw _ _ [19] (.c 0 0 (.c 1 0 (.c 2 0 (.c 3 0 (.c 4 0 (.c 5 0 (.c 6 0 (.c 7 0 (.c 8 0 (.c 9 0 (.c 10 0 (.c 11 0 (.c 12 0 (.c 13 0 (.c 14 0 (.c 15 0 (.c 16 2 (.c 17 0 (.c 18 0 (.c 19 3 (.c 20 1 .nil))))))))))))))))))))) mixed (fun _ _ _ _ h => h) (Sk (Sk (Sk (Sk (Sk (Sr)))))) (fun _ h => h) (by kernel_rfl) (by decide) fun ws Z0 => Qe rfl (q_field (o' := 0) Un47 rfl ti44 rfl rfl) (Qe rfl (q_field (o' := 0) Un44 rfl ti37 rfl rfl) (Qe rfl (q_loadN (vs := [_, _]) Un37 rfl ti37 rfl own0 rfl rfl) (Qe rfl (q_field (o' := 0) Un47 rfl ti44 rfl rfl) ?_)))))))))
    refine Qe rfl (q_field (o' := 2) Un44 rfl ti42 rfl rfl) (Qe rfl (q_load1 Un42 rfl rfl own0 rfl) (Qe rfl (q_move rfl) (Qe rfl (q_nil rfl) (Qe rfl (q_field (o' := 2) Un76 rfl ti4 rfl rfl) (Qe rfl (q_load1 (v := .bool H.ents[k].off) Un4 rfl rfl (ownS (ownS (ownS (ownS (ownI (mkP_mem hjm)))))) rfl) (Qe rfl (q_not rfl) (Qe rfl (q_move rfl) (Qe rfl (q_nil rfl) (Qe rfl (q_field (o' := 1) Un76 rfl ti45 rfl rfl) ?_)))))))))
    refine Qe rfl (q_load1 (v := .slice xA H.ents[k].now.length xc) Un45 rfl rfl (ownS (ownS (ownS (ownS (ownI (mkP_mem hjm)))))) rfl) (Qe rfl (q_build (.cons rfl (.nil)) (bd31_3Xw16 _ _ _)) (WE_main rfl rfl (OW_call0 (clone_s { zeroOp with rs := H.ents[k].now } xA xc (hr.now _ (List.getElem_mem hk))) (.cons rfl (.nil)) (by decide) (memc M2 mem0) fun u7_16 Lo fs hres => ?_)))
    obtain ⟨A1, c1, rfl, rfl, rfl⟩ := hres
    refine ⟨⟨(Sk (Sk (Sk (Sk (Sk (Sr)))))), M1⟩, ?_⟩
    refine Qe rfl (q_part rfl (fd31_3Xw16 _ _ _ _ _ _ _ _ _ _ _)) (Qe rfl (q_build (.cons rfl (.cons rfl (.cons rfl (.cons rfl (.nil))))) (bd42_0_1_2_3Xw16 _ _ _ _ _ _ _)) (WE_end (WF_last rfl rfl (OW_storeN (cs' := [_, _, _, _, _, _, _]) (vs := [_, _, _, _, _, _, _]) ti57 rfl rfl rfl rfl rfl (Nat.le_of_ble_eq_true rfl) (.s (.z)) (WF_p rfl (q_assign rfl) (by decide) (WF_nil (thenN (WC_fr [(5, _), (4, _)] (.cons rfl (.cons rfl (.nil _))) (WC_ret ?_)))))))))
    refine ⟨_, [_, _, _], [_], fun Z w hs => RV_ownN hs Un57 rfl ti57 rfl (ownS (own0)) rfl (.tmp rfl (.nil)), ?_, fun Z w hs => hs.out (Sd (Sd (Sk (Sk (Sk (Sr)))))) (memc M0 T7)⟩
    try simp only [Bp, Bq] at *
    rw [hop] at h30
    have hF : entryF H (k : Int) = _ := (entryF_at hk).trans (by unfold entE; rw [if_neg h30])
    exact ⟨A1, c1, by rw [hF]; simp only [hop]; rfl, rfl, by rw [hF]⟩

end Go.Proofs.YtcjbjkbghgjmdaaGreatDoor
/- Walks: history.Last. -/
namespace Go.Proofs.YtcjbjkbghgjmdaaGreatDoor
open Go Go.GW
structure LsI (K : List MK) (c : Int) (seen : Array Nat) (v : Int) : Prop where
 le : ∀ (j : Nat) (y : MK), K[j]? = some y → seen.contains j = true → y.c = c → y.n ≤ v
 at_ : v = 0 ∨ ∃ y ∈ K, y.c = c ∧ y.n = v
 pos : 0 ≤ v
theorem LsI.zero (K : List MK) (c : Int) : LsI K c #[] 0 := ⟨fun j y _ h => by simp at h, .inl rfl, Int.le_refl _⟩
theorem seen_push {seen : Array Nat} {i j : Nat} (h : (seen.push j).contains i = true) : seen.contains i = true ∨ i = j := by
 simpa using h
theorem LsI.hit {K : List MK} {c : Int} {seen : Array Nat} {v : Int} (h : LsI K c seen v) {j : Nat} {y : MK} (hj : K[j]? = some y) (hc : y.c = c) : LsI K c (seen.push j) (max v y.n) := by
 refine ⟨fun i z hi hs hz => ?_, ?_, by have := h.pos; omega⟩
 ·rcases seen_push hs with hs | rfl
  ·have := h.le i z hi hs hz; omega
  ·rw [hj] at hi; cases hi; omega
 ·by_cases hv : y.n ≤ v
  ·rw [show max v y.n = v from by omega]; exact h.at_
  ·exact .inr ⟨y, List.mem_of_getElem? hj, hc, by omega⟩
/-- The greatest number of a client. -/
def LastIs (H : Hist) (c r : Int) : Prop := (∀ e ∈ H.ents, e.op.c = c → e.op.n ≤ r) ∧ (r = 0 ∨ ∃ e ∈ H.ents, e.op.c = c ∧ e.op.n = r) ∧ 0 ≤ r
theorem LsI.done {H : Hist} {L : List MR} (hr : HR H L) {c : Int} {seen : Array Nat} {v : Int} (h : LsI (keys L) c seen v) (hall : ∀ j, j < (keys L).length → seen.contains j = true) : LastIs H c v := by
 refine ⟨fun e he hc => ?_, ?_, h.pos⟩
 ·obtain ⟨k, hk, rfl⟩ := List.mem_iff_getElem.1 he
  obtain ⟨j, x, hj, hm, _⟩ := hr.look hk
  have hkj := keys_get hj
  have hlt : j < (keys L).length := by
   rcases Nat.lt_or_ge j (keys L).length with h | h
   ·exact h
   ·rw [List.getElem?_eq_none h] at hkj; cases hkj
  have := h.le j _ hkj (hall j hlt)
  simp only [hm, markAt] at this
  exact this hc
 ·rcases h.at_ with h1 | ⟨y, hy, hc, hn⟩
  ·exact .inl h1
  ·right
   obtain ⟨x, hx, rfl⟩ := List.mem_map.1 hy
   have h4 := (hr.perm.mem_iff).1 (List.mem_map.2 ⟨x, hx, rfl⟩)
   obtain ⟨k, e, h5, h6⟩ := marksFrom_mem h4
   simp only [h6, markAt] at hc hn
   exact ⟨e, List.mem_of_getElem? h5, hc, hn⟩
end Go.Proofs.YtcjbjkbghgjmdaaGreatDoor
/- Walks: history.Put. -/
namespace Go.Proofs.YtcjbjkbghgjmdaaGreatDoor
open Go Go.GW
theorem turned_ops (H : Hist) (i : Nat) (o : GOp) : (turnedF H i o).1.map (·.op) = H.ops := by
 unfold turnedF
 split
 ·rfl
 ·split
  ·rfl
  ·split
   ·rfl
   ·rename_i k hwk _ e he
    split
    ·rfl
    ·have hk : k < H.ents.length := by
      rcases Nat.lt_or_ge k H.ents.length with h | h
      ·exact h
      ·rw [List.getElem?_eq_none h] at he; cases he
     have e1 : H.ents[k] = e := by rw [List.getElem?_eq_getElem hk] at he; exact Option.some.inj he
     exact hops_set hk (offE e (!o.on)) (by rw [e1]; rfl) 0
theorem whereId_ops {es : List Ent} {H : Hist} {c n : Int} (h : es.map (·.op) = H.ops) (hn : whereId H.ents c n = none) : whereId es c n = none := by
 unfold whereId
 rw [List.findIdx?_eq_none_iff]
 intro e he
 have h1 : e.op ∈ H.ops := by rw [← h]; exact List.mem_map.2 ⟨e, he, rfl⟩
 obtain ⟨x, hx, hxe⟩ := List.mem_map.1 h1
 have h2 := whereId_none hn x hx
 rw [hxe] at h2
 cases hq : (decide (c = e.op.c) && decide (n = e.op.n)) with
 | false => rfl
 | true => simp at hq; exact absurd ⟨hq.1.symm, hq.2.symm⟩ h2
theorem bd31Xw18  (w : World) : (Instr.build 47 #[]).run Tryz.prog w = .ok (.agg #[.int .i64 0, .int .i64 0, .int .i64 0, .int .i64 0, .string ⟨#[]⟩, .slice none 0 0, .int .i64 0, .int .i64 0, .bool false]) w := by kernel_rfl
theorem bd101_0Xw18 (x0_ : Int) (w : World) : (Instr.build 76 #[(0, .int .i64 x0_)]).run Tryz.prog w = .ok (.agg #[.int .i64 x0_, .slice none 0 0, .bool false]) w := by kernel_rfl
theorem bd28_1Xw18 (x1_ : Int) (w : World) : (Instr.build 44 #[(1, .int .i64 x1_)]).run Tryz.prog w = .ok (.agg #[.int .i64 0, .int .i64 0, .int .i64 x1_]) w := by kernel_rfl
theorem bd31_0Xw18 (x0_0a0 : Int) (x0_0a1 : Int) (x0_1 : Int) (w : World) : (Instr.build 47 #[(0, .agg #[.int .i64 x0_0a0, .int .i64 x0_0a1, .int .i64 x0_1])]).run Tryz.prog w = .ok (.agg #[.int .i64 x0_0a0, .int .i64 x0_0a1, .int .i64 x0_1, .int .i64 0, .string ⟨#[]⟩, .slice none 0 0, .int .i64 0, .int .i64 0, .bool false]) w := by kernel_rfl
theorem bd37_0_1Xw18 (x0_ : Int) (x1_ : Int) (w : World) : (Instr.build 119 #[(0, .int .i64 x0_), (1, .int .i64 x1_)]).run Tryz.prog w = .ok (.agg #[.int .i64 x0_, .int .i64 x1_]) w := by kernel_rfl
theorem fd31_3Xw18 (x00a0 : Int) (x00a1 : Int) (x01 : Int) (x1 : Int) (x2 : ByteArray) (x3A : Option Addr) (x3n x3c : Nat) (x4a0 : Int) (x4a1 : Int) (x5 : Bool) (w : World) : (Instr.field 47 (.agg #[.int .i64 x00a0, .int .i64 x00a1, .int .i64 x01, .int .i64 x1, .string x2, .slice x3A x3n x3c, .int .i64 x4a0, .int .i64 x4a1, .bool x5]) 3).run Tryz.prog w = .ok (.slice x3A x3n x3c) w := by kernel_rfl

set_option maxRecDepth 10000 in
theorem put_s (h m cap : Nat) (A : Option Addr) (H : Hist) (L : List MR) (hr : HR H L) (i : Int) (o : GOp) (Ao : Option Addr) (co : Nat) (ho : Fit o) (hlt : H.ents.length < 1000000) : Sp Tryz.prog 32 [.pointer (some ⟨h, 0, none⟩), .int .i64 i, opV o Ao co] [hdP h A H.ops.length cap m H.total, mpP m L, mkP L] [barF, RdF opD A cap H.ops, AllF L nowF, RdF rgD Ao co o.rs] (PuP H i o h m cap A L) := by
 have hol := ops_len H
 have hlen := hr.len
 refine Sp.of (n := 196) ⟨_, Tryz.func32, rfl, rfl, rfl, rfl⟩ (Nat.le_of_ble_eq_true rfl) fun Ps As => WC_seq (WC_region (WL_main rfl (OW_box (cs := [_, _, _, _, _, _, _, _, _]) rfl rfl (by decide) fun b5 => WL_main rfl (OW_alloc (cs := [_, _, _, _, _, _, _, _, _]) ti47 rfl (by decide) fun b6 => Lq (q_assign rfl) (WL_nil (thenN (WC_seq (WC_seq (WC_fact (A := RdF rgD none 0 []) (fun Z w hs => RdS.nil _ _ _) (WC_region (Lq (q_move rfl) (Lq (q_move rfl) ?_))))))))))))
 refine Lq (q_loadN (vs := [_, _, _, _, _, _, _, _, _]) Un47 rfl ti47 rfl (ownS (own0)) rfl rfl) (WL_main rfl (OW_call3 (fits_s h m cap A H L hr i o Ao co ho) (.cons rfl (.cons rfl (.cons rfl (.nil)))) (by decide) (.s (.s (.z))) (.s (.s (.z))) (.s (.s (.z))) (memc M1 (memc M2 (memc M4 mem0))) fun u1_3 Lo fs hres => ?_))
 obtain ⟨rfl, rfl, rfl⟩ := hres
 refine Lq (q_assign rfl) (WL_nil (thenN (WC_seq (WC_region (Lq (q_move rfl) (Lq (q_neq rfl rfl) (WL_nil (thenN (WC_cond rfl (fun h24 => ?_) (fun h24 => ?_))))))))))
 ·refine WC_seq (WC_region (Lq (q_build (.nil) (bd31Xw18)) (Lq (q_move rfl) (WL_main rfl (OW_storeN (cs' := [_, _, _, _, _, _, _, _, _]) (vs := [_, _, _, _, _, _, _, _, _]) ti47 rfl rfl rfl rfl rfl (Nat.le_of_ble_eq_true rfl) (.s (.s (.s (.z)))) (Lq (q_assign rfl) (WL_nil (thenN (WC_ret (thenRet ?_))))))))))
  refine ⟨_, [_, _, _], [_, _, _], fun Z w hs => RV_ownN hs Un47 rfl ti47 rfl (ownS (ownS (ownS (own0)))) rfl (.tmp rfl (.nil)), ?_, fun Z w hs => hs.out (Sk (Sk (Sk (Sd (Sd (Sr)))))) (memc M0 (memc M2 (memc M3 T1)))⟩
  try simp only [Bp, Bq] at *
  have hF := put_1 h24
  exact ⟨L, A, cap, none, 0, by rw [hF]; exact hr, by rw [hF]; rfl, by rw [hF], by rw [hF]; rfl⟩
 ·refine WC_skip (thenN (WC_seq ?_))
  try simp only [Bp, Bq] at *
  obtain ⟨h0, h1, hw0, htot, hne3, hk1, hk4, hck, htgt⟩ := fits_0 h24
  obtain ⟨i, rfl⟩ : ∃ k : Nat, i = (k : Int) := ⟨i.toNat, by omega⟩
  have hil : i ≤ H.ents.length := by omega
  have hwid := check_wid hck
  refine WC_region (Lq (q_loadN (vs := [_, _, _, _, _, _, _, _, _]) Un47 rfl ti47 rfl (ownS (ownS (ownS (ownS (own0))))) rfl rfl) (WL_main rfl (OW_call0 (clone_s o Ao co ho.rs) (.cons rfl (.nil)) (by decide) (memc M4 mem0) fun u4_1 Lo fs hres => ?_)))
  obtain ⟨A1, c1, rfl, rfl, rfl⟩ := hres
  refine WL_main rfl (OW_storeN (cs' := [_, _, _, _, _, _, _, _, _]) (vs := [_, _, _, _, _, _, _, _, _]) ti47 rfl rfl rfl rfl rfl (Nat.le_of_ble_eq_true rfl) (.s (.s (.s (.s (.z))))) (WL_nil (thenN (WC_seq (WC_capLe M3 fun hcap hcap2 => ?_)))))
  obtain ⟨B, hB⟩ : ∃ B, B = cutA A i cap 9 := ⟨_, rfl⟩
  have hFd : ∀ x ∈ H.ops.drop i, Fit x := fun x hx => by obtain ⟨e, he, rfl⟩ := List.mem_map.1 (List.mem_of_mem_drop hx); exact hr.fit e he
  refine WC_fact (A := RdF opD B (cap - i) (H.ops.drop i)) (fun Z w hs => by rw [hB]; have h1 := RdS.cut (lo := i) (hi := H.ops.length) (m := cap) (hs.facts _ M3) (by omega) (by omega) (by omega) (Nat.le_refl _); rw [List.take_length] at h1; exact h1) (WC_draw _ _ [] (.c 0 0 (.c 2 0 (.c 3 0 (.c 4 0 (.c 5 0 (.c 6 0 (.c 7 0 (.c 1 2 (.c 8 2 (.c 9 0 (.c 10 0 (.c 11 0 (.c 12 0 (.c 13 0 (.c 14 0 (.c 15 0 .nil)))))))))))))))) mixed (fun _ _ _ _ h => h) (Sk (Sk (Sk (Sk (Sk (Sr)))))) (fun _ h => h) (by kernel_rfl) (by decide) fun ws Z0 => Qe rfl (q_loadN (vs := [_, _, _, _, _, _, _, _, _]) Un47 rfl ti47 rfl (ownS (ownS (ownS (ownS (own0))))) rfl rfl) (Qe rfl (q_move rfl) (Qe rfl (q_nil rfl) ?_)))
  refine Qe rfl (q_field (o' := 0) Un67 rfl ti51 rfl rfl) (Qe rfl (q_load1 Un51 rfl rfl own0 rfl) (Qe rfl (q_move rfl) (Qe rfl (q_cutLo Un51 ti47 rfl rfl (by omega) (by omega)) (WE_main rfl rfl (OW_slice1 (cs := [_, _, _, _, _, _, _, _, _]) Un51 ti47 (by decide) (by decide) rfl rfl rfl rfl (by decide) fun b31 => ?_)))))
  refine ⟨⟨(Sd (Sk (Sk (Sk (Sk (Sk (Sr))))))), M0⟩, ?_⟩
  refine WE_freeze1 (e := opD) (u := o) (.z) (fun Z w hs => ⟨A1, c1, rfl, hs.facts _ M2⟩) (WE_main rfl rfl (OW_call0 (cross_s (some ⟨b31, 0, none⟩) B 1 (cap - i) [o] (H.ops.drop i) (by simpa using ho) hFd (by simp) (by rw [List.length_drop]; omega)) (.cons rfl (.cons (by rw [hB, List.length_drop]; rfl) (.nil))) (by decide) (memc M5 (memc M0 (memc M2 mem0))) fun u5_8 Lo fs hres => ?_))
  obtain ⟨Ac, cc, Ad, cd, rfl, rfl, rfl⟩ := hres
  refine ⟨⟨(Sk (Sk (Sk (Sk (Sk (Sr)))))), M3⟩, ?_⟩
  refine Qe rfl (q_move rfl) (Qe rfl (q_extract (vs := [_, _, _]) rfl rfl) (Qe rfl (q_extract (vs := [_, _, _]) rfl rfl) (Qe rfl (q_extract (vs := [_, _, _]) rfl rfl) (Qe rfl (q_assign rfl) (Qe rfl (q_assign rfl) (Qe rfl (q_assign rfl) (WE_end (WF_nil (thenN (WC_fr [(11, _), (10, _), (9, _), (7, _), (6, _), (5, _), (0, _), (1, _)] (.cons rfl (.cons rfl (.cons rfl (.cons rfl (.cons rfl (.cons rfl (.cons rfl (.cons rfl (.nil _))))))))) ?_))))))))))
  refine WC_seq (WC_seq (WC_region (Lq (q_move rfl) (Lq (q_neq rfl rfl) (WL_nil (thenN (WC_cond rfl (fun h43 => ?_) (fun h43 => ?_))))))))
  ·refine WC_seq (WC_region (Lq (q_build (.nil) (bd31Xw18)) (Lq (q_move rfl) (WL_main rfl (OW_storeN (cs' := [_, _, _, _, _, _, _, _, _]) (vs := [_, _, _, _, _, _, _, _, _]) ti47 rfl rfl rfl rfl rfl (Nat.le_of_ble_eq_true rfl) (.s (.s (.s (.z)))) (Lq (q_assign rfl) (WL_nil (thenN (WC_ret (thenRet ?_))))))))))
   refine ⟨_, [_, _, _], [_, _, _], fun Z w hs => RV_ownN hs Un47 rfl ti47 rfl (ownS (ownS (ownS (own0)))) rfl (.tmp rfl (.nil)), ?_, fun Z w hs => hs.out (Sk (Sk (Sk (Sd (Sd (Sr)))))) (memc M6 (memc M8 (memc M9 T7)))⟩
   try simp only [Bp, Bq] at *
   have hF := put_2 h24 h43
   exact ⟨L, A, cap, none, 0, by rw [hF]; exact hr, by rw [hF]; rfl, by rw [hF], by rw [hF]; rfl⟩
  ·refine WC_skip (thenN (WC_seq ?_))
   try simp only [Bp, Bq] at *
   have hX : (crossF [o] (H.ops.drop i)).2.2 = 0 := by omega
   obtain ⟨td, htd, hsame⟩ := crossOne hX
   have hcf := crossF_fit (xs := [o]) (ys := H.ops.drop i) (by simpa using ho) hFd
   have htf : Fit td := hcf.1 td (by rw [htd]; exact List.mem_singleton.2 rfl)
   obtain ⟨later, hlater⟩ : ∃ x, x = (crossF [o] (H.ops.drop i)).2.1 := ⟨_, rfl⟩
   have hsl : Sames (H.ops.drop i) later := by rw [hlater]; exact (crossF_same hX).2
   have hfl : ∀ y ∈ later, Fit y := by rw [hlater]; exact hcf.2
   have hll : later.length = H.ops.length - i := by rw [hsl.length, List.length_drop]
   rw [htd, ← hlater]
   refine WC_region (Lq (q_move rfl) (Lq (q_build (.cons rfl (.nil)) (bd101_0Xw18 _)) (WL_main rfl (OW_box (cs := [_, _, _]) rfl rfl (by decide) fun b48 => Lq (q_assign rfl) (WL_nil (thenN (WC_seq (WC_region (Lq (q_field (o' := 0) Un47 rfl ti44 rfl rfl) (Lq (q_field (o' := 2) Un44 rfl ti42 rfl rfl) (Lq (q_load1 Un42 rfl rfl (ownS (ownS (ownS (ownS (ownS (own0)))))) rfl) (Lq (q_build (.cons rfl (.nil)) (bd28_1Xw18 _)) ?_))))))))))))
   refine Lq (q_build (.cons rfl (.nil)) (bd31_0Xw18 _ _ _)) (WL_main rfl (OW_alloc (cs := [_, _, _, _, _, _, _, _, _]) ti47 rfl (by decide) fun b13 => WL_main rfl (OW_storeN (cs' := [_, _, _, _, _, _, _, _, _]) (vs := [_, _, _, _, _, _, _, _, _]) ti47 rfl rfl rfl rfl rfl (Nat.le_of_ble_eq_true rfl) (.z) (WL_nil (thenN (WC_fr [(13, _), (12, _), (10, _), (9, _), (7, _), (6, _), (5, _), (0, _), (1, _)] (.cons rfl (.cons rfl (.cons rfl (.cons rfl (.cons rfl (.cons rfl (.cons rfl (.cons rfl (.cons rfl (.nil _)))))))))) ?_))))))
   refine WC_meet (α := List Ent × List MR × List Rg × Option Addr × Nat × GOp × Option Addr × Nat)
    (fun (es, L1, nw, An, cn, eff, Ae, ce) => [(0, .pointer (some ⟨h, 0, none⟩)), (1, .int .i64 i), (5, .pointer (some ⟨b5, 0, none⟩)), (6, .pointer (some ⟨b6, 0, none⟩)), (10, .slice Ad later.length cd), (12, .pointer (some ⟨b48, 0, none⟩)), (13, .pointer (some ⟨b13, 0, none⟩))])
    (fun (es, L1, nw, An, cn, eff, Ae, ce) => ([(b13, cellsO (opC eff Ae ce) 47)] :: [(b48, cellsO [.int .i64 i, .slice An nw.length cn, .bool false] 76)] :: [(b6, cellsO (opC zeroOp none 0) 47)] :: [(b5, cellsO (opC o A1 c1) 47)] :: hdP h A H.ops.length cap m H.total :: mpP m L :: mkP L1 :: Ps))
    (fun (es, L1, nw, An, cn, eff, Ae, ce) => (RdF rgD Ae ce eff.rs :: RdF rgD An cn nw :: AllF L1 nowF :: RdF opD Ad cd later :: RdF rgD A1 c1 o.rs :: RdF rgD none 0 [] :: barF :: RdF opD A cap H.ops :: AllF L nowF :: RdF rgD Ao co o.rs :: As))
    (fun (es, L1, nw, An, cn, eff, Ae, ce) => MidI H i o td L es L1 nw eff) ?_ ?_
   ·refine WC_seq (WC_region (Lq (q_field (o' := 0) Un47 rfl ti44 rfl rfl) (Lq (q_field (o' := 2) Un44 rfl ti42 rfl rfl) (Lq (q_load1 Un42 rfl rfl (ownS (ownS (ownS (ownS (ownS (ownS (own0))))))) rfl) (WL_nil (thenN (WC_block (WC_seq (WC_region (Lq (q_eql rfl rfl) (Lq (q_assign rfl) (WL_nil (thenN (WC_cond rfl (fun h57 => ?_) (fun h57 => ?_)))))))))))))))
    ·refine WC_seq (WC_elem (k := 0) M0 rfl (op_open _) fun b12 q12 y12 e12 => ?_)
     cases e12
     refine WC_draw _ _ [9] (.c 0 0 (.c 1 0 (.c 2 0 (.c 3 0 (.c 4 0 (.c 5 0 (.c 6 0 (.c 7 2 (.c 8 0 (.c 9 3 .nil)))))))))) mixed (fun _ _ _ _ h => h) (Sd (Sk (Sk (Sk (Sk (Sk (Sk (Sr)))))))) (fun _ h => h) (by kernel_rfl) (by decide) fun ws Z0 => Qe rfl (q_move rfl) (Qe rfl (q_idxRd Un51 ti47 rfl rfl (by decide) (by simp)) (Qe rfl (q_field (o' := _ + 3) Un47 rfl ti3 rfl rfl) (Qe rfl (q_loadF1 (j := 3) Un3 rfl rfl M0 rfl rfl) (Qe rfl (q_field (o' := 4) Un47 rfl ti9 rfl rfl) (Qe rfl (q_load1 Un9 rfl rfl (ownS (ownS (ownS (ownS (ownS (own0)))))) rfl) (Qe rfl (q_field (o' := 3) Un47 rfl ti3 rfl rfl) ?_))))))
     refine WE_main rfl rfl (OW_store1 ti3 rfl rfl rfl (.s (.s (.s (.z)))) (.z) ?_)
     refine ⟨⟨(Sd (Sk (Sk (Sk (Sk (Sk (Sk (Sr)))))))), M0⟩, ?_⟩
     refine Qe rfl (q_field (o' := 4) Un47 rfl ti9 rfl rfl) (WE_end (WF_last rfl rfl (OW_store1 ti9 rfl rfl rfl (.s (.s (.s (.s (.z))))) (.z) (WF_nil (thenN (WC_fr [(13, _), (12, _), (10, _), (7, _), (6, _), (5, _), (0, _), (1, _)] (.cons rfl (.cons rfl (.cons rfl (.cons rfl (.cons rfl (.cons rfl (.cons rfl (.cons rfl (.nil _))))))))) (WC_seq ?_)))))))
     cases hmv : movedAll H.ents td.at_ (widthF o) with
     | error e =>
      refine WC_draw _ _ [] (.c 0 0 (.c 1 0 (.c 2 0 (.c 3 0 (.c 4 2 (.c 5 2 (.c 6 0 (.c 7 0 (.c 8 0 (.c 9 0 (.c 10 0 .nil))))))))))) mixed (fun _ _ _ _ h => h) (Sk (Sk (Sd (Sd (Sd (Sk (Sk (Sr)))))))) (fun _ h => h) (by kernel_rfl) (by decide) fun ws Z0 => Qe rfl (q_move rfl) (Qe rfl (q_field (o' := 3) Un47 rfl ti3 rfl rfl) (Qe rfl (q_load1 Un3 rfl rfl own0 rfl) (Qe rfl (q_loadN (vs := [_, _, _, _, _, _, _, _, _]) Un47 rfl ti47 rfl (ownS (ownS (ownS (own0)))) rfl rfl) ?_)))
      refine WE_main rfl rfl (OW_call0 (width_s o A1 c1 (by have := ho.text; omega)) (.cons rfl (.nil)) (by decide) (memc M11 mem0) fun u13_4 Lo fs hres => ?_)
      obtain ⟨rfl, rfl, rfl⟩ := hres
      refine ⟨⟨(Sk (Sk (Sd (Sd (Sd (Sk (Sk (Sr)))))))), M0⟩, ?_⟩
      refine WE_main rfl rfl (OW_call3 (hmoved_s h m cap A H L hr td.at_ (widthF o)) (.cons rfl (.cons rfl (.cons rfl (.nil)))) (by decide) (.s (.s (.z))) (.s (.s (.z))) (.s (.s (.z))) (memc M12 (memc M13 mem0)) fun u13_5 Lo fs hres => ?_)
      obtain ⟨rfl, hmr⟩ := hres
      rw [hmv] at hmr
      obtain ⟨rfl, rfl⟩ := hmr
      refine ⟨⟨(Sd (Sd (Sd (Sk (Sk (Sk (Sk (Sr)))))))), M0⟩, ?_⟩
      refine Qe rfl (q_move rfl) (Qe rfl (q_extract (vs := [_, _]) rfl rfl) (Qe rfl (q_extract (vs := [_, _]) rfl rfl) (Qe rfl (q_assign rfl) (Qe rfl (q_assign rfl) (WE_end (WF_nil (thenN (WC_fr [(15, _), (14, _), (13, _), (12, _), (10, _), (7, _), (6, _), (5, _), (0, _), (1, _)] (.cons rfl (.cons rfl (.cons rfl (.cons rfl (.cons rfl (.cons rfl (.cons rfl (.cons rfl (.cons rfl (.cons rfl (.nil _))))))))))) (WC_seq (WC_seq (WC_region (Lq (q_move rfl) ?_))))))))))))
      refine Lq (q_neq rfl rfl) (WL_nil (thenN (WC_true rfl (by simpa using movedAll_ne hmv) (WC_seq (WC_region (Lq (q_build (.nil) (bd31Xw18)) (Lq (q_move rfl) (WL_main rfl (OW_storeN (cs' := [_, _, _, _, _, _, _, _, _]) (vs := [_, _, _, _, _, _, _, _, _]) ti47 rfl rfl rfl rfl rfl (Nat.le_of_ble_eq_true rfl) (.s (.s (.s (.s (.s (.z)))))) (Lq (q_assign rfl) (WL_nil (thenN (WC_ret (thenRet (blockRet (thenRet ?_))))))))))))))))
      refine ⟨_, [_, _, _], [_, _, _], fun Z w hs => RV_ownN hs Un47 rfl ti47 rfl (ownS (ownS (ownS (ownS (ownS (own0)))))) rfl (.tmp rfl (.nil)), ?_, fun Z w hs => hs.out (Sk (Sk (Sk (Sd (Sd (Sd (Sd (Sr)))))))) (memc M10 (memc M12 (memc M13 T11)))⟩
      try simp only [Bp, Bq] at *
      have hF := put_3 h24 hX htd (by unfold midF; rw [if_pos h57, hmv])
      exact ⟨L, A, cap, none, 0, by rw [hF]; exact hr, by rw [hF]; rfl, by rw [hF], by rw [hF]; rfl⟩
     | ok ls =>
      have hlsl := movedAll_length hmv
      refine WC_draw _ _ [] (.c 0 0 (.c 1 0 (.c 2 0 (.c 3 0 (.c 4 2 (.c 5 2 (.c 6 0 (.c 7 0 (.c 8 0 (.c 9 0 (.c 10 0 .nil))))))))))) mixed (fun _ _ _ _ h => h) (Sk (Sk (Sd (Sd (Sd (Sk (Sk (Sr)))))))) (fun _ h => h) (by kernel_rfl) (by decide) fun ws Z0 => Qe rfl (q_move rfl) (Qe rfl (q_field (o' := 3) Un47 rfl ti3 rfl rfl) (Qe rfl (q_load1 Un3 rfl rfl own0 rfl) (Qe rfl (q_loadN (vs := [_, _, _, _, _, _, _, _, _]) Un47 rfl ti47 rfl (ownS (ownS (ownS (own0)))) rfl rfl) ?_)))
      refine WE_main rfl rfl (OW_call0 (width_s o A1 c1 (by have := ho.text; omega)) (.cons rfl (.nil)) (by decide) (memc M11 mem0) fun u13_4 Lo fs hres => ?_)
      obtain ⟨rfl, rfl, rfl⟩ := hres
      refine ⟨⟨(Sk (Sk (Sd (Sd (Sd (Sk (Sk (Sr)))))))), M0⟩, ?_⟩
      refine WE_main rfl rfl (OW_call3 (hmoved_s h m cap A H L hr td.at_ (widthF o)) (.cons rfl (.cons rfl (.cons rfl (.nil)))) (by decide) (.s (.s (.z))) (.s (.s (.z))) (.s (.s (.z))) (memc M12 (memc M13 mem0)) fun u13_5 Lo fs hres => ?_)
      obtain ⟨rfl, hmr⟩ := hres
      rw [hmv] at hmr
      obtain ⟨A3, c3, rfl, rfl⟩ := hmr
      refine ⟨⟨(Sd (Sd (Sd (Sk (Sk (Sk (Sk (Sr)))))))), M1⟩, ?_⟩
      refine Qe rfl (q_move rfl) (Qe rfl (q_extract (vs := [_, _]) rfl rfl) (Qe rfl (q_extract (vs := [_, _]) rfl rfl) (Qe rfl (q_assign rfl) (Qe rfl (q_assign rfl) (WE_end (WF_nil (thenN (WC_fr [(15, _), (14, _), (13, _), (12, _), (10, _), (7, _), (6, _), (5, _), (0, _), (1, _)] (.cons rfl (.cons rfl (.cons rfl (.cons rfl (.cons rfl (.cons rfl (.cons rfl (.cons rfl (.cons rfl (.cons rfl (.nil _))))))))))) (WC_seq (WC_seq (WC_region (Lq (q_move rfl) ?_))))))))))))
      refine Lq (q_neq rfl rfl) (WL_nil (thenN (WC_false rfl rfl (WC_skip (thenN (WC_seq (WC_seq (WC_region (Lq (q_move rfl) (Lq (q_len Un130 rfl) (Lq (q_move rfl) (WL_nil (thenN (WC_block ?_))))))))))))))
      refine WC_loopE (α := Nat × List MR) (fun (k, Lk) => ls.length - k)
       (fun (k, Lk) => [(0, .pointer (some ⟨h, 0, none⟩)), (1, .int .i64 i), (5, .pointer (some ⟨b5, 0, none⟩)), (6, .pointer (some ⟨b6, 0, none⟩)), (10, .slice Ad later.length cd), (12, .pointer (some ⟨b48, 0, none⟩)), (13, .pointer (some ⟨b13, 0, none⟩)), (80, .slice A3 ls.length c3), (81, .int .i64 ls.length), (82, .int .i64 k)])
       (fun (k, Lk) => (hdP h A H.ops.length cap m H.total :: mpP m L :: mkP Lk :: [(b13, cellsO (opC { effF o with at_ := td.at_, text := o.text } none 0) 47)] :: [(b48, cellsO [.int .i64 i, .slice none 0 0, .bool false] 76)] :: [(b6, cellsO (opC zeroOp none 0) 47)] :: [(b5, cellsO (opC o A1 c1) 47)] :: Ps))
       (fun (k, Lk) => (AllF Lk nowF :: RdF rsl A3 c3 ls :: RdF opD Ad cd later :: RdF rgD A1 c1 o.rs :: RdF rgD none 0 [] :: barF :: RdF opD A cap H.ops :: AllF L nowF :: RdF rgD Ao co o.rs :: As))
       (fun (k, Lk) => HR ⟨setNow H.ents ls k, H.total⟩ Lk ∧ keys Lk = keys L ∧ k ≤ ls.length)
       (0, L) ?_ (.cons rfl (.cons rfl (.cons rfl (.cons rfl (.cons rfl (.cons rfl (.cons rfl (.cons rfl (.cons rfl (.cons rfl (.nil _))))))))))) (Sk (Sk (Sk (Sk (Sk (Sk (Sk (Sr)))))))) (memc M14 (memc M0 (memc M6 T10))) ?_
      ·exact ⟨by rw [setNow_zero]; exact hr, rfl, Nat.zero_le _⟩
      ·rintro ⟨k, Lk⟩ hI
       have hkls : k ≤ ls.length := hI.2.2
       refine WC_seq (WC_region (Lq (q_lss rfl rfl) (WL_nil (thenN (WC_seq (WC_cond rfl (fun h83 => ?_) (fun h83 => ?_)))))))
       ·refine WC_skip (thenN (WC_seq (WC_block (WC_seq ?_))))
        try simp only [Bp, Bq] at *
        have hk : k < ls.length := by omega
        have hke : k < H.ents.length := by omega
        refine WC_elem (k := k) M1 (List.getElem?_eq_getElem hk) (rsl_open _) fun b18 q18 y18 e18 => ?_
        cases e18
        refine WC_region (Lq (q_move rfl) (Lq (q_idxRd Un130 ti45 rfl rfl (by omega) (by omega)) (Lq (q_loadF1 (j := 0) Un45 rfl rfl M0 rfl rfl) (Lq (q_assign rfl) (Lq (q_assign rfl) (WL_nil (thenN ?_)))))))
        have hko : k < H.ops.length := by omega
        have hop := ops_at hke
        refine WC_elem (k := k) M8 (List.getElem?_eq_getElem hko) (op_open _) fun bo qo yo eo => ?_
        cases eo
        have hks : k < (setNow H.ents ls k).length := by rw [setNow_length]; exact hke
        have hsk : (setNow H.ents ls k)[k] = H.ents[k] := by have h1 := setNow_get H.ents ls k hke; rw [List.getElem?_eq_getElem hks] at h1; exact Option.some.inj h1
        obtain ⟨jm, xm, hjm, hxm, hgm⟩ := hI.1.look hks
        obtain ⟨xk, xb, xA, xc⟩ := xm
        simp only [hsk] at hxm hgm
        obtain rfl : xk = markAt k H.ents[k] := hxm
        rw [← hop, hI.2.1] at hgm
        refine WC_draw _ _ [17] (.c 0 0 (.c 1 0 (.c 2 0 (.c 3 0 (.c 4 0 (.c 5 0 (.c 6 0 (.c 7 0 (.c 8 0 (.c 9 0 (.c 10 0 (.c 11 0 (.c 12 0 (.c 13 0 (.c 14 0 (.c 15 0 (.c 16 0 (.c 17 3 .nil)))))))))))))))))) mixed (fun _ _ _ _ h => h) (Sk (Sk (Sd (Sk (Sk (Sk (Sk (Sr)))))))) (fun _ h => h) (by kernel_rfl) (by decide) fun ws Z0 => Qe rfl (q_move rfl) (Qe rfl (q_nil rfl) (Qe rfl (q_field (o' := 1) Un67 rfl ti65 rfl rfl) (Qe rfl (q_load1 Un65 rfl rfl own0 rfl) (Qe rfl (q_move rfl) (Qe rfl (q_nil rfl) (Qe rfl (q_field (o' := 0) Un67 rfl ti51 rfl rfl) (Qe rfl (q_load1 Un51 rfl rfl own0 rfl) (Qe rfl (q_move rfl) ?_))))))))
        refine Qe rfl (q_idxRd Un51 ti47 rfl rfl (by omega) (by omega)) (Qe rfl (q_field (o' := _ + 0) Un47 rfl ti44 rfl rfl) (Qe rfl (q_field (o' := _ + 0) Un44 rfl ti37 rfl rfl) (Qe rfl (q_loadFN (k := 0) (vs := [_, _]) Un37 rfl ti37 rfl M0 rfl rfl rfl) (Qe rfl (q_lookS keyT hgm Un65 ti74 rfl rfl (ownS (own0))) (Qe rfl (q_move rfl) (Qe rfl (q_nil rfl) (Qe rfl (q_field (o' := 1) Un76 rfl ti45 rfl rfl) (WE_end (WF_last rfl rfl (OW_storeP (i := jm) ti45 rfl rfl rfl (mkP_get hjm) (.s (.z)) (.s (.s (.z))) (WF_nil ?_)))))))))))
        refine blockN (thenN ?_)
        have hmk : (mkP Lk).set jm (xb, cellsO [.int .i64 (markAt k H.ents[k]).num, .slice y18.1 ls[k].length y18.2, .bool (markAt k H.ents[k]).off] 76) = mkP (Lk.set jm ⟨markAt k ⟨H.ents[k].op, ls[k], H.ents[k].off⟩, xb, y18.1, y18.2⟩) := by rw [mkP_set]; rfl
        rw [hmk]
        refine WC_fact (A := AllF (Lk.set jm ⟨markAt k ⟨H.ents[k].op, ls[k], H.ents[k].off⟩, xb, y18.1, y18.2⟩) nowF) (fun Z w hs => now_set (hs.facts _ M5) (hs.facts _ M4)) (WC_region (Lq (q_add rfl rfl (wr64 (by omega))) (Lq (q_move rfl) (WL_nil (thenK ?_)))))
        refine ⟨(k + 1, Lk.set jm ⟨markAt k ⟨H.ents[k].op, ls[k], H.ents[k].off⟩, xb, y18.1, y18.2⟩), ?_, (.cons rfl (.cons rfl (.cons rfl (.cons rfl (.cons rfl (.cons rfl (.cons rfl (.cons rfl (.cons rfl (.cons rfl (.nil _))))))))))), (Sk (Sk (Sk (Sk (Sk (Sk (Sk (Sr)))))))), (memc M0 T7)⟩
        refine ⟨by show ls.length - (k + 1) < ls.length - k; omega, ?_, (keys_set (y := ⟨markAt k ⟨H.ents[k].op, ls[k], H.ents[k].off⟩, xb, y18.1, y18.2⟩) hjm rfl rfl rfl).trans hI.2.1, by show k + 1 ≤ ls.length; omega⟩
        rw [setNow_succ _ _ _ hke hk]
        exact hI.1.upd hks hjm (by simp only [hsk]) ⟨H.ents[k].op, ls[k], H.ents[k].off⟩ (by simp only [hsk]) (by have := movedAll_le hmv _ (List.getElem_mem hk); show ls[k].length ≤ _; omega) _ _
       ·refine WC_exit (thenExit (thenExit (blockHit (thenN ?_))))
        try simp only [Bp, Bq] at *
        refine WC_pick (.s (.s (.z))) (WC_pick (.s (.s (.z))) (WC_pick (.s (.s (.z))) (WC_pick (.s (.s (.s (.s (.s (.s (.z))))))) (WC_pick (.s (.s (.s (.s (.s (.s (.z))))))) (WC_pick (.s (.s (.s (.s (.s (.s (.z))))))) (WC_pick (.s (.s (.s (.s (.s (.s (.z))))))) (WC_draw _ _ [12] (.c 0 0 (.c 1 0 (.c 2 0 (.c 3 0 (.c 4 0 (.c 5 0 (.c 6 2 (.c 7 0 (.c 8 0 (.c 9 2 (.c 10 0 (.c 11 0 (.c 12 3 .nil))))))))))))) mixed (fun _ _ _ _ h => h) (Sk (Sk (Sk (Sk (Sk (Sk (Sk (Sr)))))))) (fun _ h => h) (by kernel_rfl) (by decide) fun ws Z0 => Qe rfl (q_move rfl) (Qe rfl (q_field (o' := 3) Un47 rfl ti3 rfl rfl) ?_))))))))
        refine Qe rfl (q_load1 Un3 rfl rfl own0 rfl) (Qe rfl (q_field (o' := 3) Un47 rfl ti3 rfl rfl) (Qe rfl (q_load1 Un3 rfl rfl own0 rfl) (Qe rfl (q_loadN (vs := [_, _, _, _, _, _, _, _, _]) Un47 rfl ti47 rfl (ownS (ownS (ownS (own0)))) rfl rfl) (WE_main rfl rfl (OW_call0 (width_s o A1 c1 (by have := ho.text; omega)) (.cons rfl (.nil)) (by decide) (memc M6 mem0) fun u21_6 Lo fs hres => ?_)))))
        obtain ⟨rfl, rfl, rfl⟩ := hres
        refine ⟨⟨(Sk (Sk (Sk (Sk (Sk (Sk (Sk (Sr)))))))), M0⟩, ?_⟩
        refine Qe rfl (q_add rfl rfl (show IntKind.i64.wrap (td.at_ + widthF o) = td.at_ + widthF o from wr64 (by have := htf.lo; have := htf.hi; have := widthF_le o; omega))) (Qe rfl (q_build (.cons rfl (.cons rfl (.nil))) (bd37_0_1Xw18 _ _)) (WE_main rfl rfl (OW_slice1 (cs := [_, _]) Un45 ti119 (by decide) (by decide) rfl rfl rfl rfl (by decide) fun b114 => ?_)))
        refine ⟨⟨(Sd (Sk (Sk (Sk (Sk (Sk (Sk (Sk (Sr))))))))), M0⟩, ?_⟩
        refine Qe rfl (q_nil rfl) (Qe rfl (q_field (o' := 1) Un76 rfl ti45 rfl rfl) (WE_freeze1 (e := rgD) (u := ⟨td.at_, td.at_ + widthF o⟩) (.z) (fun Z w hs => rfl) (WE_end (WF_last rfl rfl (OW_store1 ti45 rfl rfl rfl (.s (.z)) (.s (.z)) (WF_nil (blockN (thenK ?_))))))))
        refine ⟨(setNow H.ents ls H.ents.length, Lk, [⟨td.at_, td.at_ + widthF o⟩], some ⟨b114, 0, none⟩, 1, { effF o with at_ := td.at_, text := o.text }, none, 0), ?_, (.cons rfl (.cons rfl (.cons rfl (.cons rfl (.cons rfl (.cons rfl (.cons rfl (.nil _)))))))), (Sk (Sk (Sk (Sk (Sk (Sk (Sk (Sr)))))))), (memc M6 (memc M0 (memc M2 T4)))⟩
        have hkk : k = ls.length := by have := hI.2.2; omega
        subst hkk
        refine ⟨by rw [← hlsl]; exact hI.1, hI.2.1, ?_, setNow_ops _ _ _, by show (1 : Nat) ≤ _; omega⟩
        unfold midF
        rw [if_pos h57, hmv]
    ·refine WC_seq (WC_region (Lq (q_eql rfl rfl) (Lq (q_assign rfl) (WL_nil (thenN (WC_cond rfl (fun h117 => ?_) (fun h117 => ?_)))))))
     ·refine WC_seq (WC_elem (k := 0) M0 rfl (op_open _) fun b23 q23 y23 e23 => ?_)
      cases e23
      refine WC_region (Lq (q_move rfl) (Lq (q_idxRd Un51 ti47 rfl rfl (by decide) (by simp)) (Lq (q_field (o' := _ + 5) Un47 rfl ti45 rfl rfl) (Lq (q_loadF1 (j := 5) Un45 rfl rfl M0 rfl rfl) (Lq (q_field (o' := 5) Un47 rfl ti45 rfl rfl) (WL_main rfl (OW_store1 ti45 rfl rfl rfl (.s (.s (.s (.s (.s (.z)))))) (.z) (WL_nil (thenN (WC_fr [(13, _), (12, _), (10, _), (7, _), (6, _), (5, _), (0, _), (1, _)] (.cons rfl (.cons rfl (.cons rfl (.cons rfl (.cons rfl (.cons rfl (.cons rfl (.cons rfl (.nil _))))))))) (WC_pick (.s (.s (.s (.s (.z))))) ?_)))))))))))
      refine WC_pick (.s (.s (.s (.s (.z))))) (WC_pick (.s (.s (.s (.s (.z))))) (WC_pick (.s (.s (.s (.s (.s (.s (.z))))))) (WC_pick (.s (.s (.s (.s (.s (.s (.z))))))) (WC_pick (.s (.s (.s (.s (.s (.s (.z))))))) (WC_pick (.s (.s (.s (.s (.s (.s (.z))))))) (WC_region (Lq (q_move rfl) (Lq (q_loadN (vs := [_, _, _, _, _, _, _, _, _]) Un47 rfl ti47 rfl own0 rfl rfl) (WL_main rfl (OW_call0 (clone_s { effF o with rs := td.rs } y23.1 y23.2 htf.rs) (.cons rfl (.nil)) (by decide) (memc M1 mem0) fun u24_2 Lo fs hres => ?_))))))))))
      obtain ⟨A5, c5, rfl, rfl, rfl⟩ := hres
      refine Lq (q_part rfl (fd31_3Xw18 _ _ _ _ _ _ _ _ _ _ _)) (Lq (q_nil rfl) (Lq (q_field (o' := 1) Un76 rfl ti45 rfl rfl) (WL_main rfl (OW_store1 ti45 rfl rfl rfl (.s (.z)) (.s (.z)) (WL_nil (blockN (thenK ?_)))))))
      refine ⟨(H.ents, L, td.rs, A5, c5, { effF o with rs := td.rs }, y23.1, y23.2), ?_, (.cons rfl (.cons rfl (.cons rfl (.cons rfl (.cons rfl (.cons rfl (.cons rfl (.nil _)))))))), (Sk (Sk (Sk (Sk (Sk (Sk (Sk (Sr)))))))), (memc M2 (memc M0 (memc M12 (memc M4 T8))))⟩
      try simp only [Bp, Bq] at *
      refine ⟨hr, rfl, ?_, rfl, htf.rs⟩
      unfold midF
      rw [if_neg h57, if_pos h117]
     ·refine WC_seq (WC_region (Lq (q_eql rfl rfl) (Lq (q_assign rfl) (WL_nil (thenN (WC_fr [(130, _), (13, _), (12, _), (10, _), (7, _), (6, _), (5, _), (0, _), (1, _)] (.cons rfl (.cons rfl (.cons rfl (.cons rfl (.cons rfl (.cons rfl (.cons rfl (.cons rfl (.cons rfl (.nil _)))))))))) (WC_cond rfl (fun h130 => ?_) (fun h130 => ?_))))))))
      ·try simp only [Bp, Bq] at *
       obtain ⟨kt, hkt⟩ := htgt h130
       refine WC_region (Lq (q_move rfl) (Lq (q_move rfl) (Lq (q_loadN (vs := [_, _, _, _, _, _, _, _, _]) Un47 rfl ti47 rfl (ownS (ownS (ownS (ownS (ownS (ownS (own0))))))) rfl rfl) (WL_main rfl (OW_call3 (turned_s h m cap A H L hr i hil o A1 c1 kt hkt) (.cons rfl (.cons rfl (.cons rfl (.nil)))) (by decide) (.s (.s (.z))) (.s (.s (.z))) (.s (.s (.z))) (memc M8 (memc M9 mem0)) fun u26_3 Lo fs hres => ?_)))))
       obtain ⟨L2, A4, c4, hr2, hk2, rfl, rfl, rfl⟩ := hres
       refine WL_pick (.s (.s (.z))) (WL_pick (.s (.s (.z))) (WL_pick (.s (.s (.z))) (WL_pick (.s (.s (.s (.s (.s (.s (.z))))))) (WL_pick (.s (.s (.s (.s (.s (.s (.z))))))) (WL_pick (.s (.s (.s (.s (.s (.s (.z))))))) (WL_pick (.s (.s (.s (.s (.s (.s (.z))))))) (WL_main rfl (OW_storeN (cs' := [_, _, _, _, _, _, _, _, _]) (vs := [_, _, _, _, _, _, _, _, _]) ti47 rfl rfl rfl rfl rfl (Nat.le_of_ble_eq_true rfl) (.z) (WL_nil (blockN (thenK ?_)))))))))))
       refine ⟨((turnedF H i o).1, L2, [], none, 0, (turnedF H i o).2, A4, c4), ?_, (.cons rfl (.cons rfl (.cons rfl (.cons rfl (.cons rfl (.cons rfl (.cons rfl (.nil _)))))))), (Sk (Sk (Sk (Sk (Sk (Sk (Sk (Sr)))))))), (memc M0 (memc M8 (memc M1 (memc M3 T7))))⟩
       refine ⟨hr2, hk2, ?_, turned_ops H i o, by show (0 : Nat) ≤ _; omega⟩
       unfold midF
       rw [if_neg h57, if_neg h117, if_pos h130]
      ·try simp only [Bp, Bq] at *
       exfalso
       omega
   ·rintro ⟨es, L1, nw, An, cn, eff, Ae, ce⟩ hM
    refine WC_seq (WC_draw _ _ [9] (.c 0 0 (.c 1 0 (.c 2 0 (.c 3 0 (.c 4 0 (.c 5 2 (.c 6 0 (.c 7 0 (.c 8 0 (.c 9 3 .nil)))))))))) mixed (fun _ _ _ _ h => h) (Sk (Sk (Sk (Sk (Sk (Sk (Sk (Sr)))))))) (fun _ h => h) (by kernel_rfl) (by decide) fun ws Z0 => Qe rfl (q_move rfl) (Qe rfl (q_nil rfl) (Qe rfl (q_field (o' := 2) Un67 rfl ti3 rfl rfl) (Qe rfl (q_load1 Un3 rfl rfl (ownS (ownS (ownS (ownS (own0))))) rfl) (Qe rfl (q_loadN (vs := [_, _, _, _, _, _, _, _, _]) Un47 rfl ti47 rfl (ownS (ownS (ownS (own0)))) rfl rfl) ?_)))))
    refine WE_main rfl rfl (OW_call0 (width_s o A1 c1 (by have := ho.text; omega)) (.cons rfl (.nil)) (by decide) (memc M7 mem0) fun u27_5 Lo fs hres => ?_)
    obtain ⟨rfl, rfl, rfl⟩ := hres
    refine ⟨⟨(Sk (Sk (Sk (Sk (Sk (Sk (Sk (Sr)))))))), M0⟩, ?_⟩
    refine Qe rfl (q_add rfl rfl (wr64 (by have := hr.tot; have := widthF_le o; omega))) (Qe rfl (q_nil rfl) (Qe rfl (q_field (o' := 2) Un67 rfl ti3 rfl rfl) (WE_end (WF_last rfl rfl (OW_store1 ti3 rfl rfl rfl (.s (.s (.z))) (.s (.s (.s (.s (.z))))) (WF_nil (thenN (WC_seq (WC_draw _ _ [8] (.c 0 0 (.c 1 0 (.c 2 0 (.c 3 0 (.c 4 0 (.c 5 0 (.c 6 0 (.c 7 0 (.c 8 3 .nil))))))))) mixed (fun _ _ _ _ h => h) (Sk (Sk (Sk (Sk (Sk (Sd (Sk (Sr)))))))) (fun _ h => h) (by kernel_rfl) (by decide) fun ws Z0 => Qe rfl (q_move rfl) (Qe rfl (q_nil rfl) (Qe rfl (q_field (o' := 1) Un67 rfl ti65 rfl rfl) ?_)))))))))))
    refine Qe rfl (q_load1 Un65 rfl rfl (ownS (ownS (ownS (ownS (own0))))) rfl) (Qe rfl (q_field (o' := 0) Un47 rfl ti44 rfl rfl) (Qe rfl (q_field (o' := 0) Un44 rfl ti37 rfl rfl) (Qe rfl (q_loadN (vs := [_, _]) Un37 rfl ti37 rfl (ownS (ownS (ownS (own0)))) rfl rfl) (Qe rfl (q_move rfl) (WE_end (WF_last rfl rfl (OW_mapNew keyT Un65 rfl rfl rfl (hr.look0 hw0) (.s (.s (.s (.s (.s (.z)))))) (WF_nil (thenN (WC_fr [(0, _), (1, _), (5, _), (6, _), (10, _), (13, _)] (.cons rfl (.cons rfl (.cons rfl (.cons rfl (.cons rfl (.cons rfl (.nil _))))))) (WC_seq ?_)))))))))))
    obtain ⟨xs, hxs⟩ : ∃ xs, xs = H.ops.take i := ⟨_, rfl⟩
    have hxl : xs.length = i := by rw [hxs, List.length_take]; omega
    obtain ⟨B2, hB2⟩ : ∃ B, B = cutA A 0 i 9 := ⟨_, rfl⟩
    refine WC_fact (A := RdF opD B2 xs.length xs) (fun Z w hs => by rw [hB2, hxl, hxs]; exact RdS.cut (lo := 0) (hi := i) (m := i) (hs.facts _ M9) (Nat.zero_le _) (by omega) (Nat.le_refl _) (by omega)) (WC_draw _ _ [15] (.c 0 0 (.c 1 0 (.c 2 0 (.c 3 0 (.c 4 0 (.c 5 0 (.c 6 0 (.c 7 0 (.c 8 0 (.c 11 0 (.c 9 2 (.c 10 2 (.c 12 2 (.c 13 0 (.c 14 0 (.c 15 3 .nil)))))))))))))))) mixed (fun _ _ _ _ h => h) (Sk (Sk (Sk (Sk (Sk (Sk (Sk (Sr)))))))) (fun _ h => h) (by kernel_rfl) (by decide) fun ws Z0 => Qe rfl (q_move rfl) (Qe rfl (q_move rfl) (Qe rfl (q_nil rfl) (Qe rfl (q_field (o' := 0) Un67 rfl ti51 rfl rfl) ?_))))
    refine Qe rfl (q_load1 Un51 rfl rfl (ownS (ownS (ownS (ownS (own0))))) rfl) (Qe rfl (q_move rfl) (Qe rfl (q_move rfl) (Qe rfl (q_cutHiMax Un51 ti47 rfl rfl rfl (by omega) (by omega) (by omega)) (Qe rfl (q_loadN (vs := [_, _, _, _, _, _, _, _, _]) Un47 rfl ti47 rfl (ownS (ownS (ownS (own0)))) rfl rfl) (Qe rfl (q_move rfl) (WE_main rfl rfl (OW_slice1 (cs := [_, _, _, _, _, _, _, _, _]) Un51 ti47 (by decide) (by decide) rfl rfl rfl rfl (by decide) fun b162 => ?_)))))))
    refine ⟨⟨(Sd (Sk (Sk (Sk (Sk (Sk (Sk (Sk (Sr))))))))), M0⟩, ?_⟩
    refine WE_main rfl rfl (OW_appendF (e := opD) (xs := xs) (news := opC o A1 c1) Un51 ti47 rfl (by decide) (by rw [hB2, hxl]; rfl) rfl M1 own0 rfl rfl (by omega) (by unfold maxLen; omega) (by decide) fun v163 p163 css163 hr163 => ?_)
    refine ⟨⟨(Sd (Sd (Sk (Sk (Sk (Sk (Sk (Sk (Sk (Sr)))))))))), M1⟩, ?_⟩
    refine WE_main rfl rfl (OW_appendS (e := opD) (ys := later) Un51 ti47 rfl (by decide) rfl rfl hr163 M8 (by omega) (by unfold maxLen; omega) (by decide) (DelAt.perm (.z)) fun v165 p165 css165 hr165 => ?_)
    refine ⟨⟨(Sd (Sd (Sk (Sk (Sk (Sk (Sk (Sk (Sk (Sr)))))))))), M2⟩, ?_⟩
    refine Qe rfl (q_nil rfl) (Qe rfl (q_field (o' := 0) Un67 rfl ti51 rfl rfl) (WE_fact (A := RepsF opD (xs ++ ([o] ++ later)) (css163 ++ ([opC o A1 c1] ++ css165))) (fun Z w hs => Reps.append (hs.facts _ M1) (Reps.append (.cons ⟨A1, c1, rfl, hs.facts _ M10⟩ .nil) (hs.facts _ M0))) (WE_freeze (e := opD) (css := css163 ++ ([opC o A1 c1] ++ css165)) (xs := xs ++ ([o] ++ later)) (by have h1 := hr165; simp only [List.flatten_append, List.flatten_cons, List.flatten_nil, List.append_nil, List.nil_append, List.append_assoc] at h1 ⊢; exact h1) (.z) (by simp only [List.length_append, List.length_cons, List.length_nil]; omega) M0 fun A9 c9 e9 => ?_)))
    subst e9
    refine WE_end (WF_last rfl rfl (OW_store1 ti51 rfl rfl rfl (.z) (.s (.s (.s (.s (.s (.z)))))) (WF_nil (thenN (WC_fr [(0, _), (1, _), (6, _), (13, _)] (.cons rfl (.cons rfl (.cons rfl (.cons rfl (.nil _))))) (WC_seq (WC_seq (WC_pick (.s (.s (.s (.s (.s (.s (.s (.z)))))))) (WC_pick (.s (.s (.s (.z)))) (WC_glue ?_))))))))))
    have hglue : mkP L1 ++ [(b48, cellsO [.int .i64 i, .slice An nw.length cn, .bool false] 76)] = mkP (L1 ++ [⟨markAt i ⟨o, nw, false⟩, b48, An, cn⟩]) := by simp [mkP, mrO, markAt]
    rw [hglue]
    refine WC_fact (A := AllF (L1 ++ [⟨markAt i ⟨o, nw, false⟩, b48, An, cn⟩]) nowF) (fun Z w hs x hx => by rcases List.mem_append.1 hx with hx | hx; exact hs.facts _ M10 x hx; obtain rfl := List.mem_singleton.1 hx; exact hs.facts _ M9) ?_
    have hesl : es.length = H.ents.length := hM.len
    have hsl2 : Sames ((es.drop i).map (·.op)) later := by rw [List.map_drop, hM.ops]; exact hsl
    have hwn : whereId es o.c o.n = none := whereId_ops hM.ops hw0
    obtain ⟨FF, hFF⟩ : ∃ F, F = newEnts i o nw es later := ⟨_, rfl⟩
    obtain ⟨G, hG⟩ : ∃ G, G = xs ++ ([o] ++ later) := ⟨_, rfl⟩
    have hGF : FF.map (·.op) = G := by rw [hFF, newEnts_ops hsl2, hM.ops, hG, hxs]
    have hGl : G.length = FF.length := by rw [← hGF, List.length_map]
    have hFl : FF.length = H.ents.length + 1 := by rw [hFF, newEnts_length hsl2 (by omega)]; omega
    have hstart := HN.start hM.hr (by simpa using (by omega : i ≤ es.length)) hsl2 hwn (o := o) (nw := nw) b48 An cn
    rw [← hFF] at hstart
    rw [← hG]
    refine WC_region (Lq (q_move rfl) (Lq (q_assign rfl) (WL_nil (thenN (WC_block (WC_pick (.s (.s (.s (.z)))) (WC_pick (.s (.s (.s (.z)))) (WC_pick (.s (.s (.s (.s (.s (.s (.z))))))) (WC_pick (.s (.s (.s (.s (.s (.s (.z))))))) (WC_pick (.s (.s (.s (.s (.z))))) ?_))))))))))
    refine WC_loopE (α := Nat × List MR) (fun (k, Lk) => FF.length - k)
     (fun (k, Lk) => [(0, .pointer (some ⟨h, 0, none⟩)), (6, .pointer (some ⟨b6, 0, none⟩)), (13, .pointer (some ⟨b13, 0, none⟩)), (18, .int .i64 k)])
     (fun (k, Lk) => (mkP Lk :: hdP h A9 G.length c9 m (H.total + widthF o) :: [(m, mapO (keys L ++ [⟨o.c, o.n, b48⟩]))] :: [(b13, cellsO (opC eff Ae ce) 47)] :: [(b6, cellsO (opC zeroOp none 0) 47)] :: Ps))
     (fun (k, Lk) => (AllF Lk nowF :: RdF opD A9 c9 G :: RdF rgD Ae ce eff.rs :: barF :: RdF opD A cap H.ops :: AllF L nowF :: RdF rgD Ao co o.rs :: As))
     (fun (k, Lk) => k ≤ FF.length ∧ HN FF Lk (numF i k) ∧ keys Lk = keys L ++ [⟨o.c, o.n, b48⟩])
     (i, L1 ++ [⟨markAt i ⟨o, nw, false⟩, b48, An, cn⟩]) ?_ (.cons rfl (.cons rfl (.cons rfl (.cons rfl (.nil _))))) (Sk (Sk (Sk (Sk (Sk (Sd (Sd (Sr)))))))) (memc M0 (memc M1 (memc M9 T15))) ?_
    ·exact ⟨by omega, hstart, by unfold keys; rw [List.map_append]; show Go.Proofs.YtcjbjkbghgjmdaaGreatDoor.keys L1 ++ _ = _; rw [show Go.Proofs.YtcjbjkbghgjmdaaGreatDoor.keys L1 = keys L from hM.keys]; rfl⟩
    ·rintro ⟨k, Lk⟩ hI
     have hkF : k ≤ FF.length := hI.1
     refine WC_seq (WC_seq (WC_region (Lq (q_move rfl) (Lq (q_move rfl) (Lq (q_nil rfl) (Lq (q_field (o' := 0) Un67 rfl ti51 rfl rfl) (Lq (q_load1 Un51 rfl rfl (ownS (own0)) rfl) (Lq (q_len Un51 rfl) (Lq (q_lss rfl rfl) (WL_nil (thenN (WC_cond rfl (fun h175 => ?_) (fun h175 => ?_)))))))))))))
     ·refine WC_skip (thenN (WC_seq (WC_block ?_)))
      try simp only [Bp, Bq] at *
      have hk : k < FF.length := by omega
      have hko : k < G.length := by omega
      have hop : G[k] = FF[k].op := by simp only [← hGF, List.getElem_map]
      refine WC_elem (k := k) M1 (List.getElem?_eq_getElem hko) (op_open _) fun bo qo yo eo => ?_
      cases eo
      obtain ⟨jm, xm, hjm, hxm, hgm⟩ := hI.2.1.look hk
      obtain ⟨xk, xb, xA, xc⟩ := xm
      obtain rfl : xk = markAt (numF i k k) FF[k] := hxm
      rw [← hop, hI.2.2] at hgm
      refine WC_draw _ _ [17] (.c 0 0 (.c 1 0 (.c 2 0 (.c 3 0 (.c 4 0 (.c 5 0 (.c 6 0 (.c 7 0 (.c 8 0 (.c 9 0 (.c 10 0 (.c 11 0 (.c 12 0 (.c 13 0 (.c 14 0 (.c 15 0 (.c 16 0 (.c 17 3 .nil)))))))))))))))))) mixed (fun _ _ _ _ h => h) (Sd (Sk (Sk (Sk (Sk (Sr)))))) (fun _ h => h) (by kernel_rfl) (by decide) fun ws Z0 => Qe rfl (q_move rfl) (Qe rfl (q_nil rfl) (Qe rfl (q_field (o' := 1) Un67 rfl ti65 rfl rfl) (Qe rfl (q_load1 Un65 rfl rfl own0 rfl) (Qe rfl (q_move rfl) (Qe rfl (q_nil rfl) (Qe rfl (q_field (o' := 0) Un67 rfl ti51 rfl rfl) (Qe rfl (q_load1 Un51 rfl rfl own0 rfl) (Qe rfl (q_move rfl) ?_))))))))
      refine Qe rfl (q_idxRd Un51 ti47 rfl rfl (by omega) (by omega)) (Qe rfl (q_field (o' := _ + 0) Un47 rfl ti44 rfl rfl) (Qe rfl (q_field (o' := _ + 0) Un44 rfl ti37 rfl rfl) (Qe rfl (q_loadFN (k := 0) (vs := [_, _]) Un37 rfl ti37 rfl M0 rfl rfl rfl) (Qe rfl (q_lookS keyT hgm Un65 ti74 rfl rfl (ownS (own0))) (Qe rfl (q_move rfl) (Qe rfl (q_nil rfl) (Qe rfl (q_field (o' := 0) Un76 rfl ti3 rfl rfl) (WE_end (WF_last rfl rfl (OW_storeP (i := jm) ti3 rfl rfl rfl (mkP_get hjm) (.z) (.z) (WF_nil ?_)))))))))))
      refine blockN (thenN ?_)
      have hmk : (mkP Lk).set jm (xb, cellsO [.int .i64 (k : Int), .slice xA (markAt (numF i k k) FF[k]).now.length xc, .bool (markAt (numF i k k) FF[k]).off] 76) = mkP (Lk.set jm ⟨markAt k FF[k], xb, xA, xc⟩) := by rw [mkP_set]; rfl
      rw [hmk]
      refine WC_fact (A := AllF (Lk.set jm ⟨markAt k FF[k], xb, xA, xc⟩) nowF) (fun Z w hs => now_set (hs.facts _ M3) (hs.facts _ M3 ⟨markAt (numF i k k) FF[k], xb, xA, xc⟩ (List.mem_of_getElem? hjm))) (WC_region (Lq (q_move rfl) (Lq (q_add rfl rfl (wr64 (by omega))) (Lq (q_assign rfl) (WL_nil (thenK ?_))))))
      refine ⟨(k + 1, Lk.set jm ⟨markAt k FF[k], xb, xA, xc⟩), ?_, (.cons rfl (.cons rfl (.cons rfl (.cons rfl (.nil _))))), (Sk (Sk (Sk (Sk (Sk (Sr)))))), (memc M0 T5)⟩
      exact ⟨by show FF.length - (k + 1) < FF.length - k; omega, by show k + 1 ≤ FF.length; omega, (hI.2.1.upd hk hjm rfl).next, (keys_set (y := ⟨markAt k FF[k], xb, xA, xc⟩) hjm rfl rfl rfl).trans hI.2.2⟩
     ·refine WC_exit (thenExit (thenExit (blockHit (thenN (WC_seq (WC_region (Lq (q_loadN (vs := [_, _, _, _, _, _, _, _, _]) Un47 rfl ti47 rfl (ownS (ownS (ownS (own0)))) rfl rfl) (WL_main rfl (OW_storeN (cs' := [_, _, _, _, _, _, _, _, _]) (vs := [_, _, _, _, _, _, _, _, _]) ti47 rfl rfl rfl rfl rfl (Nat.le_of_ble_eq_true rfl) (.s (.s (.s (.s (.z))))) (Lq (q_assign rfl) (WL_nil (thenN (WC_ret ?_)))))))))))))
      refine ⟨_, [_, _, _], [_, _, _], fun Z w hs => RV_ownN hs Un47 rfl ti47 rfl (ownS (ownS (ownS (ownS (own0))))) rfl (.tmp rfl (.nil)), ?_, fun Z w hs => (((hs.pick (.z)).pick (.s (.s (.z)))).pick (.s (.s (.z)))).out (Sk (Sk (Sk (Sd (Sd (Sr)))))) (memc M2 (memc M1 (memc M0 T3)))⟩
      try simp only [Bp, Bq] at *
      have hkl : ¬ k < FF.length := by omega
      have hF := put_4 h24 hX htd hM.mid
      rw [Int.toNat_natCast, ← hlater, ← hFF] at hF
      have hRR : HR ⟨FF, H.total + widthF o⟩ Lk := by
       have hn := hI.2.1
       rw [hFF] at hn hkl ⊢
       exact HR.put hM hsl2 hfl ho hwid hlt htot hil hn hkl
      have hGG : (⟨FF, H.total + widthF o⟩ : Hist).ops = G := hGF
      have hkeys : [(m, mapO (keys L ++ [⟨o.c, o.n, b48⟩]))] = mpP m Lk := by unfold mpP; rw [hI.2.2]
      refine ⟨Lk, A9, c9, Ae, ce, by rw [hF]; exact hRR, by rw [hF]; rfl, ?_, ?_⟩
      ·rw [hF]; simp only [hGG, hkeys]
      ·rw [hF]; simp only [hGG]

end Go.Proofs.YtcjbjkbghgjmdaaGreatDoor
/- Walks: the law's words. -/
namespace Go.Proofs.YtcjbjkbghgjmdaaGreatDoor
open Go Go.GW
set_option maxRecDepth 10000 in
theorem lown_s (o : GOp) (A : Option Addr) (c : Nat) (hl : o.rs.length ≤ 4398046511104) : Sp Tryz.prog 33 [opV o A c] [] [RdF rgD A c o.rs] (fun v Lo fs => ∃ A' c', v = opV o A' c' ∧ Lo = [] ∧ fs = [RdF rgD A' c' o.rs]) := by
 refine Sp.of (n := 8) ⟨_, Tryz.func33, rfl, rfl, rfl, rfl⟩ (Nat.le_of_ble_eq_true rfl) fun Ps As => WC_seq (WC_region (WL_main rfl (OW_box (cs := [_, _, _, _, _, _, _, _, _]) rfl rfl (by decide) fun b1 => WL_main rfl (OW_alloc (cs := [_, _, _, _, _, _, _, _, _]) ti47 rfl (by decide) fun b2 => WL_nil (thenN (WC_seq (WC_region (Lq (q_field (o' := 5) Un47 rfl ti45 rfl rfl) (Lq (q_load1 Un45 rfl rfl (ownS (own0)) rfl) (WL_nilPart (WL_main rfl (OW_appendS (e := rgD) (ys := o.rs) Un45 ti119 rfl (by decide) rfl rfl (Row.nil _ _) M0 (by simp only [Nat.zero_add]; omega) (by unfold maxLen; omega) (by decide) (List.Perm.refl _) fun v5 p5 cs5 hr5 => WL_freeze (e := rgD) (css := cs5) hr5 (.z) (by simp) M0 fun A5 c5 e5 => ?_))))))))))))
 subst e5
 refine Lq (q_field (o' := 5) Un47 rfl ti45 rfl rfl) (WL_main rfl (OW_store1 ti45 rfl rfl rfl (.s (.s (.s (.s (.s (.z)))))) (.s (.z)) (WL_nil (thenN (WC_seq (WC_region (Lq (q_loadN (vs := [_, _, _, _, _, _, _, _, _]) Un47 rfl ti47 rfl (ownS (own0)) rfl rfl) (WL_main rfl (OW_storeN (cs' := [_, _, _, _, _, _, _, _, _]) (vs := [_, _, _, _, _, _, _, _, _]) ti47 rfl rfl rfl rfl rfl (Nat.le_of_ble_eq_true rfl) (.z) (WL_nil (thenN (WC_ret ?_))))))))))))
 refine ⟨_, [], [RdF rgD A5 c5 o.rs], fun Z w hs => RV_ownN hs Un47 rfl ti47 rfl own0 rfl (.nil), ?_, fun Z w hs => hs.out (Sd (Sd (Sr))) (memc M0 T2)⟩
 exact ⟨A5, c5, rfl, rfl, rfl⟩

end Go.Proofs.YtcjbjkbghgjmdaaGreatDoor
/- Walks: EqRanges, EqOp, newView. -/
namespace Go.Proofs.YtcjbjkbghgjmdaaGreatDoor
open Go Go.GW
set_option maxRecDepth 10000 in
theorem eqRanges_s (A B : Option Addr) (c d : Nat) (xs ys : List Rg) (hl : xs.length ≤ 4398046511104) : Sp Tryz.prog 67 [.slice A xs.length c, .slice B ys.length d] [] [RdF rgD A c xs, RdF rgD B d ys] (Is (.bool (decide (xs = ys)))) := by
 refine Sp.of (n := 26) ⟨_, Tryz.func67, rfl, rfl, rfl, rfl⟩ (Nat.le_of_ble_eq_true rfl) fun Ps As => WC_seq (WC_region (Lq (q_assign rfl) (WL_nil (thenN (WC_seq (WC_seq (WC_region (Lq (q_move rfl) (Lq (q_len Un45 rfl) (Lq (q_move rfl) (Lq (q_len Un45 rfl) (Lq (q_neq rfl rfl) (WL_nil (thenN ?_))))))))))))))
 refine WC_cond rfl (fun h10 => ?_) (fun h10 => ?_)
 ·refine WC_seq (WC_region (Lq (q_assign rfl) (WL_nil (thenN (WC_ret (thenRet ?_))))))
  refine ⟨_, [], [], fun Z w hs => .tmp rfl (.nil), ?_, fun Z w hs => hs.out (Sr) (fun _ h => h)⟩
  refine ⟨congrArg Value.bool (decide_eq_false fun e => ?_).symm, rfl, rfl⟩
  rw [e] at h10; simp at h10
 ·refine WC_skip (thenN (WC_seq (WC_seq (WC_region (Lq (q_assign rfl) (WL_nil (thenN (WC_block ?_))))))))
  refine WC_loopE (α := Nat) (fun k => xs.length - k)
   (fun k => [(0, .slice A xs.length c), (1, .slice B ys.length d), (5, .int .i64 k)])
   (fun k => Ps)
   (fun k => (RdF rgD A c xs :: RdF rgD B d ys :: As))
   (fun k => k ≤ xs.length ∧ xs.length = ys.length ∧ xs.take k = ys.take k)
   0 ?_ (.cons rfl (.cons rfl (.cons rfl (.nil _)))) (Sr) (fun _ h => h) ?_
  ·try simp only [Bp, Bq] at *
   exact ⟨Nat.zero_le _, by omega, rfl⟩
  ·rintro k hI
   have hle := hI.1
   have hxy := hI.2.1
   have htk := hI.2.2
   refine WC_seq (WC_seq (WC_region (Lq (q_move rfl) (Lq (q_move rfl) (Lq (q_len Un45 rfl) (Lq (q_lss rfl rfl) (WL_nil (thenN (WC_cond rfl (fun h14 => ?_) (fun h14 => ?_))))))))))
   ·refine WC_skip (thenN (WC_seq (WC_block (WC_seq ?_))))
    try simp only [Bp, Bq] at *
    have hk1 : k < xs.length := by omega
    have hk2 : k < ys.length := by omega
    refine WC_elem (k := k) M0 (List.getElem?_eq_getElem hk1) (rg_open _) fun b1 q1 y1 e1 => ?_
    cases e1
    refine WC_elem (k := k) M2 (List.getElem?_eq_getElem hk2) (rg_open _) fun b2 q2 y2 e2 => ?_
    cases e2
    refine WC_draw _ _ [] (.c 0 0 (.c 1 0 (.c 2 0 (.c 3 0 (.c 4 0 (.c 5 0 (.c 6 0 (.c 7 0 (.c 8 0 .nil))))))))) mixed (fun _ _ _ _ h => h) (Sr) (fun _ h => h) (by kernel_rfl) (by decide) fun ws Z0 => Qe rfl (q_move rfl) (Qe rfl (q_move rfl) (Qe rfl (q_idxRd Un45 ti119 rfl rfl (by omega) (by omega)) (Qe rfl (q_loadFN (k := 0) (vs := [_, _]) Un119 rfl ti119 rfl M1 rfl rfl rfl) (Qe rfl (q_move rfl) (Qe rfl (q_move rfl) (Qe rfl (q_idxRd Un45 ti119 rfl rfl (by omega) (by omega)) (Qe rfl (q_loadFN (k := 0) (vs := [_, _]) Un119 rfl ti119 rfl M0 rfl rfl rfl) (Qe rfl (q_aggneq rfl rfl (eq119 _ _ _ _)) ?_))))))))
    refine WE_end (WF_nil (thenN (WC_cond rfl (fun h25 => ?_) (fun h25 => ?_))))
    ·refine WC_seq (WC_region (Lq (q_assign rfl) (WL_nil (thenN (WC_ret (blockRet (thenRet (thenRet (blockRet (thenRet ?_))))))))))
     refine ⟨_, [], [], fun Z w hs => .tmp rfl (.nil), ?_, fun Z w hs => hs.out (Sr) T3⟩
     refine ⟨congrArg Value.bool (decide_eq_false fun e => ?_).symm, rfl, rfl⟩
     subst e; simp at h25
    ·refine WC_skip (blockN (thenN (WC_region (Lq (q_move rfl) (Lq (q_add rfl rfl (wr64 (by omega)) (c := ((k + 1 : Nat) : Int))) (Lq (q_assign rfl) (WL_nil (thenK ?_))))))))
     refine ⟨k + 1, ?_, (.cons rfl (.cons rfl (.cons rfl (.nil _)))), (Sr), T3⟩
     refine ⟨by omega, by omega, hxy, ?_⟩
     rw [List.take_succ_eq_append_getElem hk1, List.take_succ_eq_append_getElem hk2, htk]
     congr 2
     simp at h25
     exact Rg.ext h25.1 h25.2
   ·refine WC_exit (thenExit (thenExit (blockHit (thenN (WC_seq (WC_region (Lq (q_assign rfl) (WL_nil (thenN (WC_ret ?_))))))))))
    refine ⟨_, [], [], fun Z w hs => .tmp rfl (.nil), ?_, fun Z w hs => hs.out (Sr) (fun _ h => h)⟩
    refine ⟨congrArg Value.bool (decide_eq_true ?_).symm, rfl, rfl⟩
    simp only [decide_eq_false_iff_not] at h14
    have h1 : xs.take k = xs := List.take_of_length_le (by omega)
    have h2 : ys.take k = ys := List.take_of_length_le (by omega)
    rw [← h1, ← h2]; exact htk

theorem beq_bytes_self (s : ByteArray) : (s == s) = true := by rw [beq_toListBytes]; simp

set_option maxRecDepth 10000 in
theorem eqOp_t (o : GOp) (A B : Option Addr) (c d : Nat) (hl : o.rs.length ≤ 4398046511104) : Sp Tryz.prog 37 [opV o A c, opV o B d] [] [RdF rgD A c o.rs, RdF rgD B d o.rs] (Is (.bool true)) := by
 refine Sp.of (n := 56) ⟨_, Tryz.func37, rfl, rfl, rfl, rfl⟩ (Nat.le_of_ble_eq_true rfl) fun Ps As => WC_seq (WC_region (WL_main rfl (OW_box (cs := [_, _, _, _, _, _, _, _, _]) rfl rfl (by decide) fun b2 => WL_main rfl (OW_box (cs := [_, _, _, _, _, _, _, _, _]) rfl rfl (by decide) fun b3 => Lq (q_assign rfl) (WL_nil (thenN (WC_seq (WC_region (Lq (q_field (o' := 0) Un47 rfl ti44 rfl rfl) (Lq (q_field (o' := 0) Un44 rfl ti37 rfl rfl) (Lq (q_loadN (vs := [_, _]) Un37 rfl ti37 rfl (ownS (own0)) rfl rfl) (Lq (q_field (o' := 0) Un47 rfl ti44 rfl rfl) ?_))))))))))))
 refine Lq (q_field (o' := 0) Un44 rfl ti37 rfl rfl) (Lq (q_loadN (vs := [_, _]) Un37 rfl ti37 rfl own0 rfl rfl) (Lq (q_aggeql rfl rfl (eq37 _ _ _ _)) (Lq (q_move rfl) (Lg rfl rfl rfl (by simp) (q_field (o' := 0) Un47 rfl ti44 rfl rfl) (Lg rfl rfl rfl (by simp) (q_field (o' := 2) Un44 rfl ti42 rfl rfl) (Lg rfl rfl rfl (by simp) (q_load1 Un42 rfl rfl (ownS (own0)) rfl) (Lg rfl rfl rfl (by simp) (q_field (o' := 0) Un47 rfl ti44 rfl rfl) (Lg rfl rfl rfl (by simp) (q_field (o' := 2) Un44 rfl ti42 rfl rfl) (Lg rfl rfl rfl (by simp) (q_load1 Un42 rfl rfl own0 rfl) ?_)))))))))
 refine Lg rfl rfl rfl (by simp) (q_eql rfl rfl) (Lq (q_pickT rfl (by simp) rfl) (Lq (q_move rfl) (Lg rfl rfl rfl (by simp) (q_field (o' := 3) Un47 rfl ti3 rfl rfl) (Lg rfl rfl rfl (by simp) (q_load1 Un3 rfl rfl (ownS (own0)) rfl) (Lg rfl rfl rfl (by simp) (q_field (o' := 3) Un47 rfl ti3 rfl rfl) (Lg rfl rfl rfl (by simp) (q_load1 Un3 rfl rfl own0 rfl) (Lg rfl rfl rfl (by simp) (q_eql rfl rfl) (Lq (q_pickT rfl (by simp) rfl) (Lq (q_move rfl) ?_)))))))))
 refine Lg rfl rfl rfl (by simp) (q_field (o' := 4) Un47 rfl ti9 rfl rfl) (Lg rfl rfl rfl (by simp) (q_load1 Un9 rfl rfl (ownS (own0)) rfl) (Lg rfl rfl rfl (by simp) (q_field (o' := 4) Un47 rfl ti9 rfl rfl) (Lg rfl rfl rfl (by simp) (q_load1 Un9 rfl rfl own0 rfl) (Lg rfl rfl rfl (by simp) (q_seql rfl rfl) (Lq (q_pickT rfl (by simp) rfl) (Lq (q_move rfl) (Lg rfl rfl rfl (beq_bytes_self _) (q_field (o' := 5) Un47 rfl ti45 rfl rfl) (Lg rfl rfl rfl (beq_bytes_self _) (q_load1 Un45 rfl rfl (ownS (own0)) rfl) (Lg rfl rfl rfl (beq_bytes_self _) (q_field (o' := 5) Un47 rfl ti45 rfl rfl) ?_)))))))))
 refine Lg rfl rfl rfl (beq_bytes_self _) (q_load1 Un45 rfl rfl own0 rfl) (WL_gmain rfl rfl rfl (beq_bytes_self _) (OW_call0 (eqRanges_s A B c d o.rs o.rs hl) (.cons rfl (.cons rfl (.nil))) (by decide) (memc M0 (memc M1 mem0)) fun u1_35 Lo fs hres => ?_))
 obtain ⟨rfl, rfl, rfl⟩ := hres
 refine Lq (q_pickT rfl (beq_bytes_self _) rfl) (Lq (q_move rfl) (Lg rfl rfl rfl (by simp) (q_field (o' := 6) Un47 rfl ti37 rfl rfl) (Lg rfl rfl rfl (by simp) (q_loadN (vs := [_, _]) Un37 rfl ti37 rfl (ownS (own0)) rfl rfl) (Lg rfl rfl rfl (by simp) (q_field (o' := 6) Un47 rfl ti37 rfl rfl) (Lg rfl rfl rfl (by simp) (q_loadN (vs := [_, _]) Un37 rfl ti37 rfl own0 rfl rfl) (Lg rfl rfl rfl (by simp) (q_aggeql rfl rfl (eq37 _ _ _ _)) (Lq (q_pickT rfl (by simp) rfl) (Lq (q_move rfl) (Lg rfl rfl rfl (by simp) (q_field (o' := 8) Un47 rfl ti4 rfl rfl) ?_)))))))))
 refine Lg rfl rfl rfl (by simp) (q_load1 Un4 rfl rfl (ownS (own0)) rfl) (Lg rfl rfl rfl (by simp) (q_field (o' := 8) Un47 rfl ti4 rfl rfl) (Lg rfl rfl rfl (by simp) (q_load1 Un4 rfl rfl own0 rfl) (Lg rfl rfl rfl (by simp) (q_beql' Un4 rfl rfl) (Lq (q_pickT rfl (by simp) rfl) (Lq (q_assign rfl) (WL_nil (thenN (WC_ret ?_))))))))
 refine ⟨_, [], [], fun Z w hs => .tmp rfl (.nil), ?_, fun Z w hs => hs.out (Sd (Sd (Sr))) (fun _ h => h)⟩
 exact ⟨by simp [tup], rfl, rfl⟩

theorem bd61_0_1Xw39 (x0_ : Option Addr) (x1_ : Option Addr) (w : World) : (Instr.build 34 #[(0, .pointer x0_), (1, .pointer x1_)]).run Tryz.prog w = .ok (.agg #[.pointer x0_, .pointer x1_, .slice none 0 0, .slice none 0 0, .slice none 0 0, .int .i64 0, .int .i64 0, .int .i64 0, .int .i64 0, .int .i64 0, .int .i64 0, .int .i64 0, .int .i64 0, .int .i64 0]) w := by kernel_rfl

set_option maxRecDepth 10000 in
theorem newView_s : Sp Tryz.prog 13 [] [] [] (fun u Lo fs => ∃ v h m b : Nat, u = .tuple #[.pointer (some ⟨v, 0, none⟩), .bool true] ∧ ViewAt v h m b ⟨[], 0⟩ [] (List.replicate 9 0) Lo fs) := by
 refine Sp.of (n := 20) ⟨_, Tryz.func13, rfl, rfl, rfl, rfl⟩ (Nat.le_of_ble_eq_true rfl) fun Ps As => WC_seq (WC_region (Lq (q_assign rfl) (Lq (q_assign rfl) (WL_nil (thenN (WC_seq (WC_region (WL_main rfl (OW_call0 (new_s) (.nil) (by decide) mem0 fun u1_0 Lo fs hres => ?_)))))))))
 obtain ⟨h, m, rfl, rfl, rfl⟩ := hres
 refine WL_main rfl (OW_call0 (rnew_s) (.nil) (by decide) mem0 fun u1_1 Lo fs hres => ?_)
 obtain ⟨b, rfl, rfl, rfl⟩ := hres
 refine Lq (q_build (.cons rfl (.cons rfl (.nil))) (bd61_0_1Xw39 _ _)) (WL_main rfl (OW_box (cs := (.pointer (some ⟨h, 0, none⟩) :: .pointer (some ⟨b, 0, none⟩) :: .slice none 0 0 :: .slice none 0 0 :: .slice none 0 0 :: ints .i64 (List.replicate 9 0))) rfl rfl (by decide) fun b6 => Lq (q_assign rfl) (WL_nil (thenN (WC_seq (WC_fact (A := TrF none .nil) (fun _ _ _ => rfl) (WC_fact (A := RdF idD none 0 []) (fun Z w hs => RdS.nil _ _ _) (WC_fact (A := RdF (De.int .i64) none 0 []) (fun Z w hs => RdS.nil _ _ _) (WC_fact (A := RdF De.str none 0 []) (fun Z w hs => RdS.nil _ _ _) ?_)))))))))
 refine WC_draw _ _ [] (.c 0 0 (.c 1 0 (.c 2 0 (.c 3 0 (.c 4 0 (.c 5 0 (.c 6 0 (.c 7 0 (.c 8 0 (.c 9 0 (.c 10 0 (.c 11 0 (.c 12 0 (.c 13 0 (.c 14 0 .nil))))))))))))))) mixed (fun _ _ _ _ h => h) (Sk (Sk (Sk (Sk (Sk (Sr)))))) (fun _ h => h) (by kernel_rfl) (by decide) fun ws Z0 => Qe rfl (q_move rfl) (Qe rfl (q_move rfl) (Qe rfl (q_nil rfl) (Qe rfl (q_field (o' := 0) Un34 rfl ti28 rfl rfl) (Qe rfl (q_load1 Un28 rfl rfl own0 rfl) (Qe rfl (q_pneq Un28 rfl rfl (by simp)) (Qe rfl (q_move rfl) (WE_gq rfl rfl rfl rfl rfl (q_move rfl) (by decide) (WE_gq rfl rfl rfl rfl rfl (q_nil rfl) (by decide) ?_))))))))
 refine WE_gq rfl rfl rfl rfl rfl (q_field (o' := 1) Un34 rfl ti29 rfl rfl) (by decide) (WE_gq rfl rfl rfl rfl rfl (q_load1 Un29 rfl rfl own0 rfl) (by decide) (WE_gq rfl rfl rfl rfl rfl (q_pneq Un29 rfl rfl (by simp)) (by decide) (Qe rfl (q_pickT rfl rfl rfl) (Qe rfl (q_assign rfl) (Qe rfl (q_assign rfl) (WE_end (WF_nil (thenN (WC_fr [(1, _), (0, _)] (.cons rfl (.cons rfl (.nil _))) (WC_ret ?_))))))))))
 refine ⟨_, [_, _, _, _, _], [_, _, _, _, _, _], fun Z w hs => .tmp rfl (.tmp rfl (.nil)), ?_, fun Z w hs => (((((hs.pick (.s (.z))).pick (.s (.s (.s (.s (.z)))))).pick (.s (.s (.s (.s (.z)))))).pick (.s (.s (.s (.s (.z)))))).pick (.s (.s (.s (.s (.z)))))).out (Sk (Sk (Sk (Sk (Sk (Sr)))))) (memc M5 (memc M6 (memc M4 (memc M3 (memc M2 (memc M1 T7))))))⟩
 refine ⟨b6, h, m, b, rfl, [], none, 0, none, .nil, none, 0, none, 0, none, 0, rfl, rfl, ⟨List.Perm.refl _, List.nodup_nil, fun e he => (by cases he), fun e he => (by cases he), fun e he => (by cases he), by decide, by decide⟩, wnilT, rfl⟩

end Go.Proofs.YtcjbjkbghgjmdaaGreatDoor
/- Walks: takes. -/
namespace Go.Proofs.YtcjbjkbghgjmdaaGreatDoor
open Go Go.GW
theorem bd31Xw40  (w : World) : (Instr.build 47 #[]).run Tryz.prog w = .ok (.agg #[.int .i64 0, .int .i64 0, .int .i64 0, .int .i64 0, .string ⟨#[]⟩, .slice none 0 0, .int .i64 0, .int .i64 0, .bool false]) w := by kernel_rfl

set_option maxRecDepth 10000 in
theorem takes_1 (N : Int) (n : Nat) (X : List Ce) (v h m b : Nat) (H : Hist) (L : List MR) (A : Option Addr) (cap : Nat) (B : Option Addr) (t : Tr) (A1 : Option Addr) (c1 : Nat) (A2 : Option Addr) (c2 : Nat) (A3 : Option Addr) (c3 : Nat) (nx : List Int) (i : Nat) (o : GOp) (Ao : Option Addr) (co : Nat) (hV : VI N n H X nx) (hr : HR H L) (wt : Wf t) (hX : t.row = X) (g : Good H i o) (ht : o.text.size ≤ 1073741824) : Sp Tryz.prog 14 [.pointer (some ⟨v, 0, none⟩), .int .i64 i, opV o Ao co] [vwP v h b A1 H.ents.length c1 A2 c2 A3 c3 nx, hdP h A H.ops.length cap m H.total, mpP m L, mkP L, rpP b B] [barF, RdF opD A cap H.ops, AllF L nowF, TrF B t, RdF idD A1 c1 (idsOf H.ents), RdF (De.int .i64) A2 c2 (kindsOf H.ents), RdF De.str A3 c3 (textsOf H.ents), RdF rgD Ao co o.rs] (TakeP v h m b (putF H i o).1 (applyRow (putF H i o).2.1 X) (nxF nx o.c o.n)) := by
 obtain ⟨H2, eff, T⟩ := take_facts hV g
 have hfit := good_fit hV g ht
 have hn2 := hV.le
 have hnl := hV.len
 have hcb0 := right_bd g.idr
 have hcb : 1 ≤ o.c ∧ o.c ≤ 8 := ⟨hcb0.1, hcb0.2.1⟩
 have htt := hV.total
 have hrl := hV.rule.len
 rw [← hX] at hrl
 have ho2 : H2.ops.length = H2.ents.length := by simp [Hist.ops]
 have hT := T.tot
 rw [← hnl, show H.ents.length + 1 = H2.ents.length from by rw [T.len, hnl]] at hT
 refine Sp.of (n := 86) ⟨_, Tryz.func14, rfl, rfl, rfl, rfl⟩ (Nat.le_of_ble_eq_true rfl) fun Ps As => WC_seq (WC_region (WL_main rfl (OW_box (cs := [_, _, _, _, _, _, _, _, _]) rfl rfl (by decide) fun b5 => Lq (q_assign rfl) (WL_nil (thenN (WC_seq (WC_seq (WC_region (Lq (q_field (o' := 0) Un47 rfl ti44 rfl rfl) (Lq (q_field (o' := 0) Un44 rfl ti37 rfl rfl) (Lq (q_idxA (o' := 0) Un37 ti3 rfl rfl (by decide) (by decide) rfl) (Lq (q_load1 Un3 rfl rfl own0 rfl) (Lq (q_lss rfl rfl) ?_)))))))))))))
 refine Lq (q_move rfl) (Lg rfl rfl rfl (by simp; omega) (q_field (o' := 0) Un47 rfl ti44 rfl rfl) (Lg rfl rfl rfl (by simp; omega) (q_field (o' := 0) Un44 rfl ti37 rfl rfl) (Lg rfl rfl rfl (by simp; omega) (q_idxA (o' := 0) Un37 ti3 rfl rfl (by decide) (by decide) rfl) (Lg rfl rfl rfl (by simp; omega) (q_load1 Un3 rfl rfl own0 rfl) (Lg rfl rfl rfl (by simp; omega) (q_gtr rfl rfl) (Lq (q_pickF rfl (by simp; omega) rfl) (WL_nil (thenN (WC_false rfl (by simp; omega) (WC_skip (thenN (WC_seq ?_))))))))))))
 refine WC_draw _ _ [12] (.c 0 0 (.c 1 0 (.c 2 0 (.c 3 0 (.c 4 0 (.c 5 0 (.b (.c 6 2 (.b (.c 7 2 (.c 8 0 (.c 9 0 (.c 10 1 (.c 11 2 (.c 12 3 (.c 13 1 .nil))))))) (.c 11 2 (.c 7 2 (.c 8 0 (.c 9 0 (.c 10 1 (.c 12 3 (.c 13 1 .nil))))))))) (.c 11 2 (.c 6 2 (.c 7 2 (.c 8 0 (.c 9 0 (.c 10 1 (.c 12 3 (.c 13 1 .nil))))))))))))))) mixed (fun _ _ _ _ h => h) (Sk (Sk (Sd (Sd (Sd (Sk (Sr))))))) (fun _ h => h) (by kernel_rfl) (by decide) fun ws Z0 => Qe rfl (q_move rfl) (Qe rfl (q_nil rfl) (Qe rfl (q_field (o' := 0) Un34 rfl ti28 rfl rfl) (Qe rfl (q_load1 Un28 rfl rfl (ownS (own0)) rfl) (Qe rfl (q_move rfl) (Qe rfl (q_loadN (vs := [_, _, _, _, _, _, _, _, _]) Un47 rfl ti47 rfl own0 rfl rfl) (WE_both ?_ ?_))))))
 ·refine WE_main rfl rfl (OW_call0 (lown_s o Ao co hfit.rs) (.cons rfl (.nil)) (by decide) (memc M8 mem0) fun u3_6 Lo fs hres => ?_)
  obtain ⟨A9, c9, rfl, rfl, rfl⟩ := hres
  refine ⟨⟨(Sk (Sk (Sd (Sd (Sd (Sk (Sr))))))), M1⟩, ?_⟩
  refine WE_both ?_ ?_
  ·refine WE_main rfl rfl (OW_call3 (put_s h m cap A H L hr i o A9 c9 hfit (by omega)) (.cons rfl (.cons rfl (.cons rfl (.nil)))) (by decide) (.s (.s (.z))) (.s (.s (.z))) (.s (.s (.z))) (memc M2 (memc M3 (memc M4 (memc M0 mem0)))) fun u3_7 Lo fs hres => ?_)
   obtain ⟨L2, A8, cap2, Ae, ce, hr2, rfl, rfl, rfl⟩ := hres
   rw [T.put] at hr2 ⊢
   dsimp only at hr2 ⊢
   refine ⟨⟨(Sd (Sd (Sd (Sk (Sk (Sk (Sr))))))), M4⟩, ?_⟩
   refine Qe rfl (q_move rfl) (Qe rfl (q_extract (vs := [_, _]) rfl rfl) (WE_p rfl (q_extract (vs := [_, _]) rfl rfl) (by decide) (WE_main rfl rfl (OW_alloc (cs := [_, _, _, _, _, _, _, _, _]) ti47 rfl (by decide) fun b7 => ?_))))
   refine ⟨⟨(Sd (Sd (Sd (Sd (Sk (Sk (Sk (Sr)))))))), M4⟩, ?_⟩
   refine WE_end (WF_last rfl rfl (OW_storeN (cs' := [_, _, _, _, _, _, _, _, _]) (vs := [_, _, _, _, _, _, _, _, _]) ti47 rfl rfl rfl rfl rfl (Nat.le_of_ble_eq_true rfl) (.z) (WF_p rfl (q_assign rfl) (by decide) (WF_nil (thenN (WC_seq (WC_seq (WC_region (Lq (q_move rfl) (Lq (q_neq rfl rfl) (WL_nil (thenN (WC_false rfl rfl (WC_skip (thenN (WC_seq (WC_region (Lq (q_move rfl) (Lq (q_move rfl) (Lq (q_loadN (vs := [_, _, _, _, _, _, _, _, _]) Un47 rfl ti47 rfl (ownS (ownS (ownS (ownS (own0))))) rfl rfl) ?_))))))))))))))))))))
   refine WL_main rfl (OW_call1 (notes_s v h b H.ents.length A1 c1 A2 c2 A3 c3 nx (idsOf H.ents) (kindsOf H.ents) (textsOf H.ents) i o Ao co (by simp [idsOf]) (by simp [kindsOf, idsOf]) (by simp [textsOf, idsOf]) (by simp only [idsOf, List.length_map]; exact g.le) (by omega) hV.nxl hcb) (.cons rfl (.cons rfl (.cons rfl (.nil)))) (by decide) (.s (.s (.s (.s (.s (.z)))))) (memc M9 (memc M10 (memc M11 mem0))) fun u6_3 Lo fs hres => ?_)
   obtain ⟨B1, d1, B2, d2, B3, d3, rfl, rfl, rfl⟩ := hres
   rw [T.ids, T.ks, T.ts]
   rw [show H.ents.length + 1 = H2.ents.length from by rw [T.len, hV.len]]
   refine WL_nil (thenN (WC_seq (WC_seq (WC_draw _ _ [] (.c 0 0 (.c 1 0 (.c 2 0 (.c 3 0 (.c 5 0 (.c 6 0 (.c 7 0 (.c 8 0 (.c 9 0 (.c 4 2 (.c 10 0 (.c 11 0 (.c 12 0 (.c 13 0 (.c 14 0 (.c 15 0 (.c 17 0 (.c 18 0 (.c 19 0 (.c 20 0 (.c 21 0 (.c 22 0 (.c 16 2 (.c 23 2 (.c 24 0 (.c 25 0 .nil)))))))))))))))))))))))))) mixed (fun _ _ _ _ h => h) (Sk (Sk (Sd (Sk (Sk (Sk (Sk (Sr)))))))) (fun _ h => h) (by kernel_rfl) (by decide) fun ws Z0 => Qe rfl (q_move rfl) (Qe rfl (q_nil rfl) (Qe rfl (q_field (o' := 0) Un34 rfl ti28 rfl rfl) (Qe rfl (q_load1 Un28 rfl rfl own0 rfl) (Qe rfl (q_move rfl) (Qe rfl (q_nil rfl) (Qe rfl (q_field (o' := 2) Un34 rfl ti26 rfl rfl) ?_))))))))))
   refine Qe rfl (q_load1 Un26 rfl rfl own0 rfl) (Qe rfl (q_len Un26 rfl) (WE_main rfl rfl (OW_call1 (hlen_s h m H2.ops.length cap2 A8 H2.total) (.cons rfl (.nil)) (by decide) (.s (.s (.z))) mem0 fun u7_4 Lo fs hres => ?_)))
   obtain ⟨rfl, rfl, rfl⟩ := hres
   refine ⟨⟨(Sd (Sk (Sk (Sk (Sk (Sk (Sk (Sr)))))))), M0⟩, ?_⟩
   refine Qe rfl (q_neq rfl rfl) (Qe rfl (q_move rfl) (WE_gq rfl rfl rfl rfl (by rw [ho2]; simp) (q_move rfl) (by decide) (WE_gq rfl rfl rfl rfl (by rw [ho2]; simp) (q_nil rfl) (by decide) (WE_gq rfl rfl rfl rfl (by rw [ho2]; simp) (q_field (o' := 0) Un34 rfl ti28 rfl rfl) (by decide) (WE_gq rfl rfl rfl rfl (by rw [ho2]; simp) (q_load1 Un28 rfl rfl own0 rfl) (by decide) (WE_gq rfl rfl rfl rfl (by rw [ho2]; simp) (q_move rfl) (by decide) (WE_gq rfl rfl rfl rfl (by rw [ho2]; simp) (q_move rfl) (by decide) (WE_gq rfl rfl rfl rfl (by rw [ho2]; simp) (q_nil rfl) (by decide) (WE_gq rfl rfl rfl rfl (by rw [ho2]; simp) (q_field (o' := 2) Un34 rfl ti26 rfl rfl) (by decide) ?_)))))))))
   refine WE_gq rfl rfl rfl rfl (by rw [ho2]; simp) (q_load1 Un26 rfl rfl own0 rfl) (by decide) (WE_gq rfl rfl rfl rfl (by rw [ho2]; simp) (q_len Un26 rfl) (by decide) (WE_gmain rfl rfl rfl rfl rfl (by rw [ho2]; simp) (OW_call1 (htotal_s h m H2.ops.length cap2 A8 H2.total) (.cons rfl (.nil)) (by decide) (.z) mem0 fun u7_16 Lo fs hres => ?_)))
   obtain ⟨rfl, rfl, rfl⟩ := hres
   refine ⟨⟨(Sd (Sk (Sk (Sk (Sk (Sk (Sk (Sr)))))))), M0⟩, ?_⟩
   refine WE_gmain rfl rfl rfl rfl rfl (by rw [ho2]; simp) (OW_call1 (vtotal_s v h b H2.ents.length B1 d1 B2 d2 B3 d3 (nxF nx o.c o.n) (textsOf H2.ents) H2.ents.length (by simp [textsOf]) (Nat.le_refl _) (by rw [T.len]; omega) (fun j _ => by have := T.cb j; omega)) (.cons rfl (.cons rfl (.nil))) (by decide) (.s (.z)) (memc M3 mem0) fun u7_23 Lo fs hres => ?_)
   obtain ⟨rfl, rfl, rfl⟩ := hres
   refine ⟨⟨(Sk (Sd (Sk (Sk (Sk (Sk (Sk (Sr)))))))), M0⟩, ?_⟩
   refine WE_gq rfl rfl rfl rfl (by rw [ho2]; simp) (q_neq rfl rfl) (by decide) (Qe rfl (q_pickF rfl (by rw [ho2]; simp) rfl) (WE_end (WF_nil (thenN (WC_fr [(64, _), (7, _), (6, _), (5, _), (0, _)] (.cons rfl (.cons rfl (.cons rfl (.cons rfl (.cons rfl (.nil _)))))) (WC_false rfl (by simp; omega) (WC_skip (thenN (WC_seq (WC_seq (WC_region (Lq (q_field (o' := 0) Un47 rfl ti44 rfl rfl) (Lq (q_field (o' := 2) Un44 rfl ti42 rfl rfl) (Lq (q_load1 Un42 rfl rfl (ownS (ownS (own0))) rfl) ?_))))))))))))))
   refine Lq (q_eql rfl rfl) (WL_nil (thenN (WC_cond rfl (fun h68 => ?_) (fun h68 => ?_))))
   ·refine WC_seq ?_
    obtain ⟨hze, hk4⟩ := T.noEff (by simpa using h68)
    subst hze
    refine WC_fact (A := RdF rgD none 0 []) (fun Z w hs => RdS.nil _ _ _) (WC_region (Lq (q_field (o' := 0) Un47 rfl ti44 rfl rfl) (Lq (q_field (o' := 2) Un44 rfl ti42 rfl rfl) (Lq (q_load1 Un42 rfl rfl (ownS (ownS (ownS (ownS (ownS (own0)))))) rfl) (Lq (q_eql rfl rfl) (Lq (q_move rfl) (Lg rfl rfl rfl (by simpa using hk4) (q_loadN (vs := [_, _, _, _, _, _, _, _, _]) Un47 rfl ti47 rfl (ownS (ownS (own0))) rfl rfl) (Lg rfl rfl rfl (by simpa using hk4) (q_build (.nil) (bd31Xw40)) (WL_gmain rfl rfl rfl (by simpa using hk4) (OW_call0 (eqOp_t zeroOp Ae none ce 0 (by decide)) (.cons rfl (.cons rfl (.nil))) (by decide) (memc M5 (memc M0 mem0)) fun u10_7 Lo fs hres => ?_))))))))))
    obtain ⟨rfl, rfl, rfl⟩ := hres
    refine Lq (q_pickT rfl (by simpa using hk4) rfl) (Lq (q_assign rfl) (WL_nil (thenN (WC_ret (thenRet ?_)))))
    refine ⟨_, [_, _, _, _, _], [_, _, _, _, _, _], fun Z w hs => .tmp rfl (.nil), ?_, fun Z w hs => hs.out (Sk (Sk (Sd (Sk (Sk (Sd (Sk (Sr)))))))) (memc M6 (memc M7 (memc M13 (memc M2 (memc M3 (memc M4 T10))))))⟩
    exact ⟨rfl, L2, A8, cap2, B, t, B1, d1, B2, d2, B3, d3, rfl, rfl, hr2, wt, hX⟩
   ·refine WC_skip (thenN (WC_seq ?_))
    have happ := T.app (by simpa using h68)
    refine WC_pick (.s (.s (.s (.s (.s (.s (.z))))))) (WC_draw _ _ [] (.c 0 0 (.c 1 0 (.c 2 0 (.c 3 0 (.c 4 0 (.c 5 2 (.c 6 0 .nil))))))) mixed (fun _ _ _ _ h => h) (Sd (Sk (Sk (Sk (Sk (Sk (Sk (Sr)))))))) (fun _ h => h) (by kernel_rfl) (by decide) fun ws Z0 => Qe rfl (q_move rfl) (Qe rfl (q_nil rfl) (Qe rfl (q_field (o' := 1) Un34 rfl ti29 rfl rfl) (Qe rfl (q_load1 Un29 rfl rfl own0 rfl) (Qe rfl (q_loadN (vs := [_, _, _, _, _, _, _, _, _]) Un47 rfl ti47 rfl (ownS (ownS (own0))) rfl rfl) ?_)))))
    refine WE_main rfl rfl (OW_call1 (apply_s b B Ae ce t eff wt (by omega) (by rw [hX]; exact happ) (by have := T.text; omega) (by have := T.rs; omega)) (.cons rfl (.cons rfl (.nil))) (by decide) (.z) (memc M10 (memc M13 (memc M5 mem0))) fun u11_5 Lo fs hres => ?_)
    obtain ⟨Bn, tn, rfl, rfl, rfl, wtn, rtn⟩ := hres
    refine ⟨⟨(Sd (Sk (Sk (Sk (Sk (Sk (Sk (Sr)))))))), M1⟩, ?_⟩
    refine Qe rfl (q_assign rfl) (WE_end (WF_nil (thenN (WC_seq (WC_region (Lq (q_move rfl) (Lq (q_eql rfl rfl) (Lq (q_assign rfl) (WL_nil (thenN (WC_ret ?_)))))))))))
    refine ⟨_, [_, _, _, _, _], [_, _, _, _, _, _], fun Z w hs => .tmp rfl (.nil), ?_, fun Z w hs => (((((hs.pick (.z)).pick (.s (.s (.s (.s (.s (.z))))))).pick (.s (.s (.s (.s (.s (.z))))))).pick (.s (.s (.s (.s (.z)))))).pick (.s (.s (.s (.s (.z)))))).out (Sk (Sk (Sk (Sk (Sk (Sd (Sd (Sr)))))))) (memc M7 (memc M8 (memc M0 (memc M3 (memc M4 (memc M5 T11))))))⟩
    exact ⟨rfl, L2, A8, cap2, Bn, tn, B1, d1, B2, d2, B3, d3, rfl, rfl, hr2, wtn, by rw [rtn, hX]⟩
  ·refine WE_main rfl rfl (OW_alloc (cs := [_, _, _, _, _, _, _, _, _]) ti47 rfl (by decide) fun b7 => ?_)
   refine ⟨⟨(Sd (Sk (Sk (Sd (Sd (Sd (Sk (Sr)))))))), M1⟩, ?_⟩
   refine WE_main rfl rfl (OW_call3 (put_s h m cap A H L hr i o A9 c9 hfit (by omega)) (.cons rfl (.cons rfl (.cons rfl (.nil)))) (by decide) (.s (.s (.s (.z)))) (.s (.s (.s (.z)))) (.s (.s (.s (.z)))) (memc M2 (memc M3 (memc M4 (memc M0 mem0)))) fun u3_7 Lo fs hres => ?_)
   obtain ⟨L2, A8, cap2, Ae, ce, hr2, rfl, rfl, rfl⟩ := hres
   rw [T.put] at hr2 ⊢
   dsimp only at hr2 ⊢
   refine ⟨⟨(Sd (Sd (Sd (Sd (Sk (Sk (Sk (Sr)))))))), M4⟩, ?_⟩
   refine Qe rfl (q_move rfl) (Qe rfl (q_extract (vs := [_, _]) rfl rfl) (WE_p rfl (q_extract (vs := [_, _]) rfl rfl) (by decide) (WE_end (WF_last rfl rfl (OW_storeN (cs' := [_, _, _, _, _, _, _, _, _]) (vs := [_, _, _, _, _, _, _, _, _]) ti47 rfl rfl rfl rfl rfl (Nat.le_of_ble_eq_true rfl) (.s (.s (.s (.z)))) (WF_p rfl (q_assign rfl) (by decide) (WF_nil (thenN (WC_seq (WC_seq (WC_region (Lq (q_move rfl) (Lq (q_neq rfl rfl) (WL_nil (thenN (WC_false rfl rfl (WC_skip (thenN (WC_seq (WC_region ?_))))))))))))))))))))
   refine Lq (q_move rfl) (Lq (q_move rfl) (Lq (q_loadN (vs := [_, _, _, _, _, _, _, _, _]) Un47 rfl ti47 rfl (ownS (ownS (ownS (ownS (own0))))) rfl rfl) ?_))
   refine WL_main rfl (OW_call1 (notes_s v h b H.ents.length A1 c1 A2 c2 A3 c3 nx (idsOf H.ents) (kindsOf H.ents) (textsOf H.ents) i o Ao co (by simp [idsOf]) (by simp [kindsOf, idsOf]) (by simp [textsOf, idsOf]) (by simp only [idsOf, List.length_map]; exact g.le) (by omega) hV.nxl hcb) (.cons rfl (.cons rfl (.cons rfl (.nil)))) (by decide) (.s (.s (.s (.s (.s (.z)))))) (memc M9 (memc M10 (memc M11 mem0))) fun u6_3 Lo fs hres => ?_)
   obtain ⟨B1, d1, B2, d2, B3, d3, rfl, rfl, rfl⟩ := hres
   rw [T.ids, T.ks, T.ts]
   rw [show H.ents.length + 1 = H2.ents.length from by rw [T.len, hV.len]]
   refine WL_nil (thenN (WC_seq (WC_seq (WC_draw _ _ [] (.c 0 0 (.c 1 0 (.c 2 0 (.c 3 0 (.c 5 0 (.c 6 0 (.c 7 0 (.c 8 0 (.c 9 0 (.c 4 2 (.c 10 0 (.c 11 0 (.c 12 0 (.c 13 0 (.c 14 0 (.c 15 0 (.c 17 0 (.c 18 0 (.c 19 0 (.c 20 0 (.c 21 0 (.c 22 0 (.c 16 2 (.c 23 2 (.c 24 0 (.c 25 0 .nil)))))))))))))))))))))))))) mixed (fun _ _ _ _ h => h) (Sk (Sd (Sk (Sk (Sk (Sk (Sk (Sr)))))))) (fun _ h => h) (by kernel_rfl) (by decide) fun ws Z0 => Qe rfl (q_move rfl) (Qe rfl (q_nil rfl) (Qe rfl (q_field (o' := 0) Un34 rfl ti28 rfl rfl) (Qe rfl (q_load1 Un28 rfl rfl own0 rfl) (Qe rfl (q_move rfl) (Qe rfl (q_nil rfl) (Qe rfl (q_field (o' := 2) Un34 rfl ti26 rfl rfl) ?_))))))))))
   refine Qe rfl (q_load1 Un26 rfl rfl own0 rfl) (Qe rfl (q_len Un26 rfl) (WE_main rfl rfl (OW_call1 (hlen_s h m H2.ops.length cap2 A8 H2.total) (.cons rfl (.nil)) (by decide) (.s (.z)) mem0 fun u7_4 Lo fs hres => ?_)))
   obtain ⟨rfl, rfl, rfl⟩ := hres
   refine ⟨⟨(Sd (Sk (Sk (Sk (Sk (Sk (Sk (Sr)))))))), M0⟩, ?_⟩
   refine Qe rfl (q_neq rfl rfl) (Qe rfl (q_move rfl) (WE_gq rfl rfl rfl rfl (by rw [ho2]; simp) (q_move rfl) (by decide) (WE_gq rfl rfl rfl rfl (by rw [ho2]; simp) (q_nil rfl) (by decide) (WE_gq rfl rfl rfl rfl (by rw [ho2]; simp) (q_field (o' := 0) Un34 rfl ti28 rfl rfl) (by decide) (WE_gq rfl rfl rfl rfl (by rw [ho2]; simp) (q_load1 Un28 rfl rfl own0 rfl) (by decide) (WE_gq rfl rfl rfl rfl (by rw [ho2]; simp) (q_move rfl) (by decide) (WE_gq rfl rfl rfl rfl (by rw [ho2]; simp) (q_move rfl) (by decide) (WE_gq rfl rfl rfl rfl (by rw [ho2]; simp) (q_nil rfl) (by decide) (WE_gq rfl rfl rfl rfl (by rw [ho2]; simp) (q_field (o' := 2) Un34 rfl ti26 rfl rfl) (by decide) ?_)))))))))
   refine WE_gq rfl rfl rfl rfl (by rw [ho2]; simp) (q_load1 Un26 rfl rfl own0 rfl) (by decide) (WE_gq rfl rfl rfl rfl (by rw [ho2]; simp) (q_len Un26 rfl) (by decide) (WE_gmain rfl rfl rfl rfl rfl (by rw [ho2]; simp) (OW_call1 (htotal_s h m H2.ops.length cap2 A8 H2.total) (.cons rfl (.nil)) (by decide) (.z) mem0 fun u7_16 Lo fs hres => ?_)))
   obtain ⟨rfl, rfl, rfl⟩ := hres
   refine ⟨⟨(Sd (Sk (Sk (Sk (Sk (Sk (Sk (Sr)))))))), M0⟩, ?_⟩
   refine WE_gmain rfl rfl rfl rfl rfl (by rw [ho2]; simp) (OW_call1 (vtotal_s v h b H2.ents.length B1 d1 B2 d2 B3 d3 (nxF nx o.c o.n) (textsOf H2.ents) H2.ents.length (by simp [textsOf]) (Nat.le_refl _) (by rw [T.len]; omega) (fun j _ => by have := T.cb j; omega)) (.cons rfl (.cons rfl (.nil))) (by decide) (.s (.z)) (memc M3 mem0) fun u7_23 Lo fs hres => ?_)
   obtain ⟨rfl, rfl, rfl⟩ := hres
   refine ⟨⟨(Sk (Sd (Sk (Sk (Sk (Sk (Sk (Sr)))))))), M0⟩, ?_⟩
   refine WE_gq rfl rfl rfl rfl (by rw [ho2]; simp) (q_neq rfl rfl) (by decide) (Qe rfl (q_pickF rfl (by rw [ho2]; simp) rfl) (WE_end (WF_nil (thenN (WC_fr [(64, _), (7, _), (6, _), (5, _), (0, _)] (.cons rfl (.cons rfl (.cons rfl (.cons rfl (.cons rfl (.nil _)))))) (WC_false rfl (by simp; omega) (WC_skip (thenN (WC_seq (WC_seq (WC_region (Lq (q_field (o' := 0) Un47 rfl ti44 rfl rfl) (Lq (q_field (o' := 2) Un44 rfl ti42 rfl rfl) (Lq (q_load1 Un42 rfl rfl (ownS (ownS (ownS (ownS (own0))))) rfl) ?_))))))))))))))
   refine Lq (q_eql rfl rfl) (WL_nil (thenN (WC_cond rfl (fun h68 => ?_) (fun h68 => ?_))))
   ·refine WC_seq ?_
    obtain ⟨hze, hk4⟩ := T.noEff (by simpa using h68)
    subst hze
    refine WC_fact (A := RdF rgD none 0 []) (fun Z w hs => RdS.nil _ _ _) (WC_region (Lq (q_field (o' := 0) Un47 rfl ti44 rfl rfl) (Lq (q_field (o' := 2) Un44 rfl ti42 rfl rfl) (Lq (q_load1 Un42 rfl rfl (ownS (ownS (ownS (ownS (ownS (own0)))))) rfl) (Lq (q_eql rfl rfl) (Lq (q_move rfl) (Lg rfl rfl rfl (by simpa using hk4) (q_loadN (vs := [_, _, _, _, _, _, _, _, _]) Un47 rfl ti47 rfl (ownS (ownS (ownS (ownS (own0))))) rfl rfl) (Lg rfl rfl rfl (by simpa using hk4) (q_build (.nil) (bd31Xw40)) (WL_gmain rfl rfl rfl (by simpa using hk4) (OW_call0 (eqOp_t zeroOp Ae none ce 0 (by decide)) (.cons rfl (.cons rfl (.nil))) (by decide) (memc M5 (memc M0 mem0)) fun u10_7 Lo fs hres => ?_))))))))))
    obtain ⟨rfl, rfl, rfl⟩ := hres
    refine Lq (q_pickT rfl (by simpa using hk4) rfl) (Lq (q_assign rfl) (WL_nil (thenN (WC_ret (thenRet ?_)))))
    refine ⟨_, [_, _, _, _, _], [_, _, _, _, _, _], fun Z w hs => .tmp rfl (.nil), ?_, fun Z w hs => hs.out (Sk (Sk (Sk (Sk (Sd (Sd (Sk (Sr)))))))) (memc M6 (memc M7 (memc M13 (memc M2 (memc M3 (memc M4 T10))))))⟩
    exact ⟨rfl, L2, A8, cap2, B, t, B1, d1, B2, d2, B3, d3, rfl, rfl, hr2, wt, hX⟩
   ·refine WC_skip (thenN (WC_seq ?_))
    have happ := T.app (by simpa using h68)
    refine WC_pick (.s (.s (.s (.s (.s (.s (.z))))))) (WC_draw _ _ [] (.c 0 0 (.c 1 0 (.c 2 0 (.c 3 0 (.c 4 0 (.c 5 2 (.c 6 0 .nil))))))) mixed (fun _ _ _ _ h => h) (Sd (Sk (Sk (Sk (Sk (Sk (Sk (Sr)))))))) (fun _ h => h) (by kernel_rfl) (by decide) fun ws Z0 => Qe rfl (q_move rfl) (Qe rfl (q_nil rfl) (Qe rfl (q_field (o' := 1) Un34 rfl ti29 rfl rfl) (Qe rfl (q_load1 Un29 rfl rfl own0 rfl) (Qe rfl (q_loadN (vs := [_, _, _, _, _, _, _, _, _]) Un47 rfl ti47 rfl (ownS (ownS (ownS (ownS (own0))))) rfl rfl) ?_)))))
    refine WE_main rfl rfl (OW_call1 (apply_s b B Ae ce t eff wt (by omega) (by rw [hX]; exact happ) (by have := T.text; omega) (by have := T.rs; omega)) (.cons rfl (.cons rfl (.nil))) (by decide) (.z) (memc M10 (memc M13 (memc M5 mem0))) fun u11_5 Lo fs hres => ?_)
    obtain ⟨Bn, tn, rfl, rfl, rfl, wtn, rtn⟩ := hres
    refine ⟨⟨(Sd (Sk (Sk (Sk (Sk (Sk (Sk (Sr)))))))), M1⟩, ?_⟩
    refine Qe rfl (q_assign rfl) (WE_end (WF_nil (thenN (WC_seq (WC_region (Lq (q_move rfl) (Lq (q_eql rfl rfl) (Lq (q_assign rfl) (WL_nil (thenN (WC_ret ?_)))))))))))
    refine ⟨_, [_, _, _, _, _], [_, _, _, _, _, _], fun Z w hs => .tmp rfl (.nil), ?_, fun Z w hs => (((((hs.pick (.z)).pick (.s (.s (.s (.s (.z)))))).pick (.s (.s (.s (.s (.z)))))).pick (.s (.s (.s (.s (.z)))))).pick (.s (.s (.s (.s (.z)))))).out (Sk (Sk (Sk (Sk (Sk (Sd (Sd (Sr)))))))) (memc M7 (memc M8 (memc M0 (memc M3 (memc M4 (memc M5 T11))))))⟩
    exact ⟨rfl, L2, A8, cap2, Bn, tn, B1, d1, B2, d2, B3, d3, rfl, rfl, hr2, wtn, by rw [rtn, hX]⟩
 ·refine WE_main rfl rfl (OW_alloc (cs := [_, _, _, _, _, _, _, _, _]) ti47 rfl (by decide) fun b7 => ?_)
  refine ⟨⟨(Sd (Sk (Sk (Sd (Sd (Sd (Sk (Sr)))))))), M0⟩, ?_⟩
  refine WE_main rfl rfl (OW_call0 (lown_s o Ao co hfit.rs) (.cons rfl (.nil)) (by decide) (memc M8 mem0) fun u3_6 Lo fs hres => ?_)
  obtain ⟨A9, c9, rfl, rfl, rfl⟩ := hres
  refine ⟨⟨(Sd (Sk (Sk (Sd (Sd (Sd (Sk (Sr)))))))), M1⟩, ?_⟩
  refine WE_main rfl rfl (OW_call3 (put_s h m cap A H L hr i o A9 c9 hfit (by omega)) (.cons rfl (.cons rfl (.cons rfl (.nil)))) (by decide) (.s (.s (.s (.z)))) (.s (.s (.s (.z)))) (.s (.s (.s (.z)))) (memc M2 (memc M3 (memc M4 (memc M0 mem0)))) fun u3_7 Lo fs hres => ?_)
  obtain ⟨L2, A8, cap2, Ae, ce, hr2, rfl, rfl, rfl⟩ := hres
  rw [T.put] at hr2 ⊢
  dsimp only at hr2 ⊢
  refine ⟨⟨(Sd (Sd (Sd (Sd (Sk (Sk (Sk (Sr)))))))), M4⟩, ?_⟩
  refine Qe rfl (q_move rfl) (Qe rfl (q_extract (vs := [_, _]) rfl rfl) (WE_p rfl (q_extract (vs := [_, _]) rfl rfl) (by decide) (WE_end (WF_last rfl rfl (OW_storeN (cs' := [_, _, _, _, _, _, _, _, _]) (vs := [_, _, _, _, _, _, _, _, _]) ti47 rfl rfl rfl rfl rfl (Nat.le_of_ble_eq_true rfl) (.s (.s (.s (.z)))) (WF_p rfl (q_assign rfl) (by decide) (WF_nil (thenN (WC_seq (WC_seq (WC_region (Lq (q_move rfl) (Lq (q_neq rfl rfl) (WL_nil (thenN (WC_false rfl rfl (WC_skip (thenN (WC_seq (WC_region ?_))))))))))))))))))))
  refine Lq (q_move rfl) (Lq (q_move rfl) (Lq (q_loadN (vs := [_, _, _, _, _, _, _, _, _]) Un47 rfl ti47 rfl (ownS (ownS (ownS (ownS (own0))))) rfl rfl) ?_))
  refine WL_main rfl (OW_call1 (notes_s v h b H.ents.length A1 c1 A2 c2 A3 c3 nx (idsOf H.ents) (kindsOf H.ents) (textsOf H.ents) i o Ao co (by simp [idsOf]) (by simp [kindsOf, idsOf]) (by simp [textsOf, idsOf]) (by simp only [idsOf, List.length_map]; exact g.le) (by omega) hV.nxl hcb) (.cons rfl (.cons rfl (.cons rfl (.nil)))) (by decide) (.s (.s (.s (.s (.s (.z)))))) (memc M9 (memc M10 (memc M11 mem0))) fun u6_3 Lo fs hres => ?_)
  obtain ⟨B1, d1, B2, d2, B3, d3, rfl, rfl, rfl⟩ := hres
  rw [T.ids, T.ks, T.ts]
  rw [show H.ents.length + 1 = H2.ents.length from by rw [T.len, hV.len]]
  refine WL_nil (thenN (WC_seq (WC_seq (WC_draw _ _ [] (.c 0 0 (.c 1 0 (.c 2 0 (.c 3 0 (.c 5 0 (.c 6 0 (.c 7 0 (.c 8 0 (.c 9 0 (.c 4 2 (.c 10 0 (.c 11 0 (.c 12 0 (.c 13 0 (.c 14 0 (.c 15 0 (.c 17 0 (.c 18 0 (.c 19 0 (.c 20 0 (.c 21 0 (.c 22 0 (.c 16 2 (.c 23 2 (.c 24 0 (.c 25 0 .nil)))))))))))))))))))))))))) mixed (fun _ _ _ _ h => h) (Sk (Sd (Sk (Sk (Sk (Sk (Sk (Sr)))))))) (fun _ h => h) (by kernel_rfl) (by decide) fun ws Z0 => Qe rfl (q_move rfl) (Qe rfl (q_nil rfl) (Qe rfl (q_field (o' := 0) Un34 rfl ti28 rfl rfl) (Qe rfl (q_load1 Un28 rfl rfl own0 rfl) (Qe rfl (q_move rfl) (Qe rfl (q_nil rfl) (Qe rfl (q_field (o' := 2) Un34 rfl ti26 rfl rfl) ?_))))))))))
  refine Qe rfl (q_load1 Un26 rfl rfl own0 rfl) (Qe rfl (q_len Un26 rfl) (WE_main rfl rfl (OW_call1 (hlen_s h m H2.ops.length cap2 A8 H2.total) (.cons rfl (.nil)) (by decide) (.s (.z)) mem0 fun u7_4 Lo fs hres => ?_)))
  obtain ⟨rfl, rfl, rfl⟩ := hres
  refine ⟨⟨(Sd (Sk (Sk (Sk (Sk (Sk (Sk (Sr)))))))), M0⟩, ?_⟩
  refine Qe rfl (q_neq rfl rfl) (Qe rfl (q_move rfl) (WE_gq rfl rfl rfl rfl (by rw [ho2]; simp) (q_move rfl) (by decide) (WE_gq rfl rfl rfl rfl (by rw [ho2]; simp) (q_nil rfl) (by decide) (WE_gq rfl rfl rfl rfl (by rw [ho2]; simp) (q_field (o' := 0) Un34 rfl ti28 rfl rfl) (by decide) (WE_gq rfl rfl rfl rfl (by rw [ho2]; simp) (q_load1 Un28 rfl rfl own0 rfl) (by decide) (WE_gq rfl rfl rfl rfl (by rw [ho2]; simp) (q_move rfl) (by decide) (WE_gq rfl rfl rfl rfl (by rw [ho2]; simp) (q_move rfl) (by decide) (WE_gq rfl rfl rfl rfl (by rw [ho2]; simp) (q_nil rfl) (by decide) (WE_gq rfl rfl rfl rfl (by rw [ho2]; simp) (q_field (o' := 2) Un34 rfl ti26 rfl rfl) (by decide) ?_)))))))))
  refine WE_gq rfl rfl rfl rfl (by rw [ho2]; simp) (q_load1 Un26 rfl rfl own0 rfl) (by decide) (WE_gq rfl rfl rfl rfl (by rw [ho2]; simp) (q_len Un26 rfl) (by decide) (WE_gmain rfl rfl rfl rfl rfl (by rw [ho2]; simp) (OW_call1 (htotal_s h m H2.ops.length cap2 A8 H2.total) (.cons rfl (.nil)) (by decide) (.z) mem0 fun u7_16 Lo fs hres => ?_)))
  obtain ⟨rfl, rfl, rfl⟩ := hres
  refine ⟨⟨(Sd (Sk (Sk (Sk (Sk (Sk (Sk (Sr)))))))), M0⟩, ?_⟩
  refine WE_gmain rfl rfl rfl rfl rfl (by rw [ho2]; simp) (OW_call1 (vtotal_s v h b H2.ents.length B1 d1 B2 d2 B3 d3 (nxF nx o.c o.n) (textsOf H2.ents) H2.ents.length (by simp [textsOf]) (Nat.le_refl _) (by rw [T.len]; omega) (fun j _ => by have := T.cb j; omega)) (.cons rfl (.cons rfl (.nil))) (by decide) (.s (.z)) (memc M3 mem0) fun u7_23 Lo fs hres => ?_)
  obtain ⟨rfl, rfl, rfl⟩ := hres
  refine ⟨⟨(Sk (Sd (Sk (Sk (Sk (Sk (Sk (Sr)))))))), M0⟩, ?_⟩
  refine WE_gq rfl rfl rfl rfl (by rw [ho2]; simp) (q_neq rfl rfl) (by decide) (Qe rfl (q_pickF rfl (by rw [ho2]; simp) rfl) (WE_end (WF_nil (thenN (WC_fr [(64, _), (7, _), (6, _), (5, _), (0, _)] (.cons rfl (.cons rfl (.cons rfl (.cons rfl (.cons rfl (.nil _)))))) (WC_false rfl (by simp; omega) (WC_skip (thenN (WC_seq (WC_seq (WC_region (Lq (q_field (o' := 0) Un47 rfl ti44 rfl rfl) (Lq (q_field (o' := 2) Un44 rfl ti42 rfl rfl) (Lq (q_load1 Un42 rfl rfl (ownS (ownS (ownS (ownS (own0))))) rfl) ?_))))))))))))))
  refine Lq (q_eql rfl rfl) (WL_nil (thenN (WC_cond rfl (fun h68 => ?_) (fun h68 => ?_))))
  ·refine WC_seq ?_
   obtain ⟨hze, hk4⟩ := T.noEff (by simpa using h68)
   subst hze
   refine WC_fact (A := RdF rgD none 0 []) (fun Z w hs => RdS.nil _ _ _) (WC_region (Lq (q_field (o' := 0) Un47 rfl ti44 rfl rfl) (Lq (q_field (o' := 2) Un44 rfl ti42 rfl rfl) (Lq (q_load1 Un42 rfl rfl (ownS (ownS (ownS (ownS (ownS (own0)))))) rfl) (Lq (q_eql rfl rfl) (Lq (q_move rfl) (Lg rfl rfl rfl (by simpa using hk4) (q_loadN (vs := [_, _, _, _, _, _, _, _, _]) Un47 rfl ti47 rfl (ownS (ownS (ownS (ownS (own0))))) rfl rfl) (Lg rfl rfl rfl (by simpa using hk4) (q_build (.nil) (bd31Xw40)) (WL_gmain rfl rfl rfl (by simpa using hk4) (OW_call0 (eqOp_t zeroOp Ae none ce 0 (by decide)) (.cons rfl (.cons rfl (.nil))) (by decide) (memc M5 (memc M0 mem0)) fun u10_7 Lo fs hres => ?_))))))))))
   obtain ⟨rfl, rfl, rfl⟩ := hres
   refine Lq (q_pickT rfl (by simpa using hk4) rfl) (Lq (q_assign rfl) (WL_nil (thenN (WC_ret (thenRet ?_)))))
   refine ⟨_, [_, _, _, _, _], [_, _, _, _, _, _], fun Z w hs => .tmp rfl (.nil), ?_, fun Z w hs => hs.out (Sk (Sk (Sk (Sk (Sd (Sd (Sk (Sr)))))))) (memc M6 (memc M7 (memc M13 (memc M2 (memc M3 (memc M4 T10))))))⟩
   exact ⟨rfl, L2, A8, cap2, B, t, B1, d1, B2, d2, B3, d3, rfl, rfl, hr2, wt, hX⟩
  ·refine WC_skip (thenN (WC_seq ?_))
   have happ := T.app (by simpa using h68)
   refine WC_pick (.s (.s (.s (.s (.s (.s (.z))))))) (WC_draw _ _ [] (.c 0 0 (.c 1 0 (.c 2 0 (.c 3 0 (.c 4 0 (.c 5 2 (.c 6 0 .nil))))))) mixed (fun _ _ _ _ h => h) (Sd (Sk (Sk (Sk (Sk (Sk (Sk (Sr)))))))) (fun _ h => h) (by kernel_rfl) (by decide) fun ws Z0 => Qe rfl (q_move rfl) (Qe rfl (q_nil rfl) (Qe rfl (q_field (o' := 1) Un34 rfl ti29 rfl rfl) (Qe rfl (q_load1 Un29 rfl rfl own0 rfl) (Qe rfl (q_loadN (vs := [_, _, _, _, _, _, _, _, _]) Un47 rfl ti47 rfl (ownS (ownS (ownS (ownS (own0))))) rfl rfl) ?_)))))
   refine WE_main rfl rfl (OW_call1 (apply_s b B Ae ce t eff wt (by omega) (by rw [hX]; exact happ) (by have := T.text; omega) (by have := T.rs; omega)) (.cons rfl (.cons rfl (.nil))) (by decide) (.z) (memc M10 (memc M13 (memc M5 mem0))) fun u11_5 Lo fs hres => ?_)
   obtain ⟨Bn, tn, rfl, rfl, rfl, wtn, rtn⟩ := hres
   refine ⟨⟨(Sd (Sk (Sk (Sk (Sk (Sk (Sk (Sr)))))))), M1⟩, ?_⟩
   refine Qe rfl (q_assign rfl) (WE_end (WF_nil (thenN (WC_seq (WC_region (Lq (q_move rfl) (Lq (q_eql rfl rfl) (Lq (q_assign rfl) (WL_nil (thenN (WC_ret ?_)))))))))))
   refine ⟨_, [_, _, _, _, _], [_, _, _, _, _, _], fun Z w hs => .tmp rfl (.nil), ?_, fun Z w hs => (((((hs.pick (.z)).pick (.s (.s (.s (.s (.z)))))).pick (.s (.s (.s (.s (.z)))))).pick (.s (.s (.s (.s (.z)))))).pick (.s (.s (.s (.s (.z)))))).out (Sk (Sk (Sk (Sk (Sk (Sd (Sd (Sr)))))))) (memc M7 (memc M8 (memc M0 (memc M3 (memc M4 (memc M5 T11))))))⟩
   exact ⟨rfl, L2, A8, cap2, Bn, tn, B1, d1, B2, d2, B3, d3, rfl, rfl, hr2, wtn, by rw [rtn, hX]⟩

end Go.Proofs.YtcjbjkbghgjmdaaGreatDoor
/- Walks: fed. -/
namespace Go.Proofs.YtcjbjkbghgjmdaaGreatDoor
open Go Go.GW
def mvD : De Mv where
 sz := 6
 rep _ _ x cs := cs = mvC x
 len h := by subst h; rfl
 one h := by subst h; rfl
 stable _ _ _ _ _ h := h
theorem mv_open (u : Mv) : ∀ Z w cs, mvD.rep Z w u cs → ∃ y : Unit, cs = mvC u ∧ ∀ B ∈ ([] : List Fact), B.holds Z w := fun _ _ _ h => ⟨(), h, fun _ h => by cases h⟩
def FedD (ms : List Mv) : Value → List Part → List Fact → Prop := fun u Lo fs => ∃ (v h m b n : Nat) (H : Hist) (X : List Ce) (nx : List Int), u = .tuple #[.pointer (some ⟨v, 0, none⟩), .bool true] ∧ ViewAt v h m b H X nx Lo fs ∧ VI n n H X nx ∧ n ≤ 20 ∧ n = min ms.length 20 ∧ fedN ms n = ⟨H, X, nx⟩
def FedP : Value → List Part → List Fact → Prop := fun u Lo fs => ∃ (v h m b n : Nat) (H : Hist) (X : List Ce) (nx : List Int), u = .tuple #[.pointer (some ⟨v, 0, none⟩), .bool true] ∧ ViewAt v h m b H X nx Lo fs ∧ VI n n H X nx ∧ n ≤ 20
structure FeI (k : Nat) (H : Hist) (X : List Ce) (nx : List Int) (L : List MR) (t : Tr) : Prop where
 le : k ≤ 20
 vi : VI k k H X nx
 hr : HR H L
 wt : Wf t
 hX : t.row = X

set_option maxRecDepth 10000 in
theorem fed_d (Am : Option Addr) (cm : Nat) (ms : List Mv) : Sp Tryz.prog 4 [.slice Am ms.length cm] [] [barF, RdF mvD Am cm ms] (FedD ms) := by
 refine Sp.of (n := 51) ⟨_, Tryz.func4, rfl, rfl, rfl, rfl⟩ (Nat.le_of_ble_eq_true rfl) fun Ps As => WC_seq (WC_region (Lq (q_assign rfl) (Lq (q_assign rfl) (WL_nil (thenN (WC_seq (WC_region (WL_main rfl (OW_call0 (newView_s) (.nil) (by decide) mem0 fun u1_0 Lo fs hres => ?_)))))))))
 obtain ⟨v, h, m, b, rfl, L0, A0, cap0, B0, t0, A10, c10, A20, c20, A30, c30, rfl, rfl, hr0, wt0, hX0⟩ := hres
 refine Lq (q_move rfl) (Lq (q_extract (vs := [_, _]) rfl rfl) (Lq (q_extract (vs := [_, _]) rfl rfl) (Lq (q_assign rfl) (Lq (q_assign rfl) (WL_nil (thenN (WC_seq (WC_seq (WC_region (Lq (q_move rfl) (Lq (q_not rfl) (WL_nil (thenN (WC_false rfl rfl (WC_skip (thenN (WC_seq (WC_seq (WC_region (Lq (q_assign rfl) ?_))))))))))))))))))))
 refine WL_nil (thenN (WC_block ?_))
 refine WC_loopE (α := Nat × Hist × List Ce × List Int × List MR × Option Addr × Nat × Option Addr × Tr × Option Addr × Nat × Option Addr × Nat × Option Addr × Nat) (fun (k, H, X, nx, L, A, cap, B, t, A1, c1, A2, c2, A3, c3) => 20 - k)
  (fun (k, H, X, nx, L, A, cap, B, t, A1, c1, A2, c2, A3, c3) => [(0, .slice Am ms.length cm), (4, .pointer (some ⟨v, 0, none⟩)), (6, .int .i64 k)])
  (fun (k, H, X, nx, L, A, cap, B, t, A1, c1, A2, c2, A3, c3) => (vwP v h b A1 H.ents.length c1 A2 c2 A3 c3 nx :: hdP h A H.ops.length cap m H.total :: mpP m L :: mkP L :: rpP b B :: Ps))
  (fun (k, H, X, nx, L, A, cap, B, t, A1, c1, A2, c2, A3, c3) => (RdF opD A cap H.ops :: AllF L nowF :: TrF B t :: RdF idD A1 c1 (idsOf H.ents) :: RdF (De.int .i64) A2 c2 (kindsOf H.ents) :: RdF De.str A3 c3 (textsOf H.ents) :: barF :: RdF mvD Am cm ms :: As))
  (fun (k, H, X, nx, L, A, cap, B, t, A1, c1, A2, c2, A3, c3) => FeI k H X nx L t ∧ fedN ms k = ⟨H, X, nx⟩ ∧ k ≤ ms.length)
  (0, ⟨[], 0⟩, [], List.replicate 9 0, L0, A0, cap0, B0, t0, A10, c10, A20, c20, A30, c30) ?_ (.cons rfl (.cons rfl (.cons rfl (.nil _)))) (Sk (Sk (Sk (Sk (Sk (Sr)))))) (fun _ h => h) ?_
 ·exact ⟨⟨Nat.zero_le _, VI.zero, hr0, wt0, hX0⟩, rfl, Nat.zero_le _⟩
 ·rintro ⟨k, H, X, nx, L, A, cap, B, t, A1, c1, A2, c2, A3, c3⟩ ⟨hI, hF, hkl⟩
  refine WC_seq (WC_seq (WC_region (Lq (q_move rfl) (Lq (q_move rfl) (Lq (q_len Un22 rfl) (Lq (q_lss rfl rfl) (Lq (q_move rfl) (WL_guard (t := 19) rfl (fun g19 => ?_) (fun g19 => ?_)))))))))
  ·refine Lg rfl rfl rfl g19 (q_move rfl) (Lg rfl rfl rfl g19 (q_lss rfl rfl) (Lq (q_pickT rfl g19 rfl) (WL_nil (thenN (WC_cond rfl (fun h22 => ?_) (fun h22 => ?_))))))
   ·refine WC_skip (thenN (WC_seq (WC_block (WC_seq ?_))))
    have hkm : k < ms.length := by simp only [decide_eq_true_eq] at g19; omega
    have hk20 : k < 20 := by simp only [decide_eq_true_eq] at h22; omega
    have hV := hI.vi
    have hnl := hV.len
    refine WC_elem (k := k) M7 (List.getElem?_eq_getElem hkm) (mv_open _) fun b7 q7 y7 e7 => ?_
    cases e7
    refine WC_pick (.s (.s (.s (.s (.z))))) (WC_pick (.s (.s (.s (.s (.z))))) (WC_pick (.s (.s (.s (.s (.z))))) (WC_pick (.s (.s (.s (.s (.z))))) (WC_pick (.s (.s (.s (.s (.z))))) (WC_draw _ _ [] (.c 0 0 (.c 1 0 (.c 2 0 (.c 3 0 (.c 4 0 (.c 5 0 (.c 6 0 (.c 7 0 (.c 8 0 (.c 9 0 (.c 10 0 (.c 11 2 (.c 12 0 .nil))))))))))))) mixed (fun _ _ _ _ h => h) (Sk (Sk (Sk (Sk (Sk (Sr)))))) (fun _ h => h) (by kernel_rfl) (by decide) fun ws Z0 => Qe rfl (q_move rfl) (Qe rfl (q_move rfl) (Qe rfl (q_idxRd Un22 ti63 rfl rfl (by omega) (by omega)) (Qe rfl (q_field (o' := _ + 1) Un63 rfl ti3 rfl rfl) ?_))))))))
    refine Qe rfl (q_loadF1 (j := 1) Un3 rfl rfl M0 rfl rfl) (Qe rfl (q_move rfl) (Qe rfl (q_nil rfl) (Qe rfl (q_field (o' := 2) Un34 rfl ti26 rfl rfl) (Qe rfl (q_load1 Un26 rfl rfl own0 rfl) (Qe rfl (q_len Un26 rfl) (Qe rfl (q_add rfl rfl (by rw [hnl]; exact wr64 (by omega)) (c := ((k + 1 : Nat) : Int))) (WE_main rfl rfl (OW_call0 (rest_r ms[k].i (k + 1) (by omega)) (.cons rfl (.cons rfl (.nil))) (by decide) mem0 fun u7_11 Lo fs hres => ?_))))))))
    obtain ⟨r36, hr36, hm36, rfl, rfl, rfl⟩ := hres
    refine ⟨⟨(Sk (Sk (Sk (Sk (Sk (Sr)))))), M0⟩, ?_⟩
    refine Qe rfl (q_assign rfl) (WE_end (WF_nil (thenN (WC_seq ?_))))
    have hi : r36 ≤ k := by omega
    refine WC_region (Lq (q_move rfl) (Lq (q_move rfl) (Lq (q_move rfl) (Lq (q_move rfl) (Lq (q_move rfl) (Lq (q_idxRd Un22 ti63 rfl rfl (by omega) (by omega)) (Lq (q_loadFN (k := 0) (vs := [_, _, _, _, _, _]) Un63 rfl ti63 rfl M1 rfl rfl rfl) (Lq (q_move rfl) (WL_main rfl (OW_call1 (makes_d k k X H v h b A1 c1 A2 c2 A3 c3 nx ms[k] r36 hV (by omega) hi) (.cons rfl (.cons rfl (.cons rfl (.nil)))) (by decide) (.z) (memc M5 (memc M6 (memc M7 mem0))) fun u8_8 Lo fs hres => ?_))))))))))
    obtain ⟨o, Ao, co, x, rfl, rfl, rfl, hoc, hox, hon, hbo, hof⟩ := hres
    have hFn : fedN ms (k + 1) = ⟨(putF H r36 o).1, applyRow (putF H r36 o).2.1 X, nxF nx o.c o.n⟩ := by
     rw [fedN_next hkm, hF]
     unfold fedStep
     rw [show (ms[k].i % ((k + 1 : Nat) : Int)).toNat = r36 from by omega]
     dsimp only
     rw [← hof]; rfl
    have hx0 := hV.nx0 x (List.mem_of_getElem? hox)
    have hocb : 1 ≤ o.c ∧ o.c ≤ 8 := by omega
    have hgood : Good H r36 o := hbo.good o.c o.n (by rw [hon]; exact hV.fresh hox hocb (by omega)) (by unfold rightF; simp; omega)
    have hV2 := hV.step hgood (by omega) (N' := ((k + 1 : Nat) : Int)) (by omega) (by omega)
    refine WL_main rfl (OW_callP (takes_1 k k X v h m b H L A cap B t A1 c1 A2 c2 A3 c3 nx r36 o Ao co hV hI.hr hI.wt hI.hX hgood (by have := hbo.text; omega)) (.cons rfl (.cons rfl (.cons rfl (.nil)))) (by decide) (List.Perm.refl _) (memc M9 (memc M3 (memc M4 (memc M5 (memc M6 (memc M7 (memc M8 (memc M0 mem0)))))))) fun u8_9 Lo fs hres => ?_)
    obtain ⟨rfl, L9, A9, cap9, B9, t9, A19, c19, A29, c29, A39, c39, rfl, rfl, hr9, wt9, hX9⟩ := hres
    obtain ⟨H9, hH9⟩ : ∃ z, z = (putF H r36 o).1 := ⟨_, rfl⟩
    obtain ⟨X9, hX99⟩ : ∃ z, z = applyRow (putF H r36 o).2.1 X := ⟨_, rfl⟩
    obtain ⟨nx9, hn9⟩ : ∃ z, z = nxF nx o.c o.n := ⟨_, rfl⟩
    rw [← hH9] at hr9 hV2 hFn ⊢
    rw [← hX99] at hX9 hV2 hFn
    rw [← hn9] at hV2 hFn ⊢
    refine Lq (q_assign rfl) (WL_nil (thenN (WC_seq (WC_region (Lq (q_move rfl) (Lq (q_not rfl) (WL_nil (thenN (WC_false rfl rfl (WC_skip (blockN (thenN (WC_region (Lq (q_move rfl) (Lq (q_add rfl rfl (wr64 (by omega)) (c := ((k + 1 : Nat) : Int))) (Lq (q_assign rfl) (WL_nil (thenK ?_))))))))))))))))))
    refine ⟨(k + 1, H9, X9, nx9, L9, A9, cap9, B9, t9, A19, c19, A29, c29, A39, c39), ?_, (.cons rfl (.cons rfl (.cons rfl (.nil _)))), (Sk (Sk (Sk (Sk (Sk (Sr)))))), (memc M0 (memc M1 (memc M2 (memc M3 (memc M4 (memc M5 T15))))))⟩
    exact ⟨by show 20 - (k + 1) < 20 - k; omega, ⟨by omega, hV2, hr9, wt9, hX9⟩, hFn, by omega⟩
   ·refine WC_exit (thenExit (thenExit (blockHit (thenN (WC_seq (WC_region (Lq (q_move rfl) (Lq (q_assign rfl) (Lq (q_assign rfl) (WL_nil (thenN (WC_ret ?_))))))))))))
    refine ⟨_, [_, _, _, _, _], [_, _, _, _, _, _], fun Z w hs => .tmp rfl (.tmp rfl (.nil)), ?_, fun Z w hs => hs.out (Sk (Sk (Sk (Sk (Sk (Sr)))))) (fun _ h => h)⟩
    exact ⟨v, h, m, b, k, H, X, nx, rfl, ⟨L, A, cap, B, t, A1, c1, A2, c2, A3, c3, rfl, rfl, hI.hr, hI.wt, hI.hX⟩, hI.vi, hI.le, by have := hI.le; try simp only [Bp, Bq] at *; omega, hF⟩
  ·refine Ln rfl rfl rfl g19 (Ln rfl rfl rfl g19 (Lq (q_pickF rfl g19 rfl) (WL_nil (thenN (WC_false rfl rfl (WC_exit (thenExit (thenExit (blockHit (thenN (WC_seq (WC_region (Lq (q_move rfl) (Lq (q_assign rfl) (Lq (q_assign rfl) (WL_nil (thenN (WC_ret ?_))))))))))))))))))
   refine ⟨_, [_, _, _, _, _], [_, _, _, _, _, _], fun Z w hs => .tmp rfl (.tmp rfl (.nil)), ?_, fun Z w hs => hs.out (Sk (Sk (Sk (Sk (Sk (Sr)))))) (fun _ h => h)⟩
   exact ⟨v, h, m, b, k, H, X, nx, rfl, ⟨L, A, cap, B, t, A1, c1, A2, c2, A3, c3, rfl, rfl, hI.hr, hI.wt, hI.hX⟩, hI.vi, hI.le, by have := hI.le; try simp only [Bp, Bq] at *; omega, hF⟩

theorem fed_s (Am : Option Addr) (cm : Nat) (ms : List Mv) : Sp Tryz.prog 4 [.slice Am ms.length cm] [] [barF, RdF mvD Am cm ms] FedP := by
 refine (fed_d Am cm ms).mono ?_
 rintro u Lo fs ⟨v, h, m, b, n, H, X, nx, h1, h2, h3, h4, _⟩
 exact ⟨v, h, m, b, n, H, X, nx, h1, h2, h3, h4⟩
end Go.Proofs.YtcjbjkbghgjmdaaGreatDoor
/- Moves, as_ arguments. -/
namespace Go.Proofs.YtcjbjkbghgjmdaaGreatDoor
open Go Go.GW
theorem cells51 : Tryz.prog.cellsOf 63 = 6 := by kernel_rfl
theorem cells3 : Tryz.prog.cellsOf 3 = 1 := by kernel_rfl
section
variable {H : Type} {enc : TypeId × Value → H} {w : World} {base : Nat} {sp : Nat → Bool} {held : Bool}
set_option maxRecDepth 100000 in
theorem mv_elem (m : Nat) (cs : List Value) (x : DataW H × List MemPlace) (h : DataW.trod enc Tryz.prog w base sp held m 63 cs = some x) : ∃ u : Mv, cs = mvC u := by
 obtain ⟨xs, k, rfl, rfl, hl, hlen, hf⟩ := DataW.trod_struct Un63 h
 rw [cells51] at hl
 have hxl : xs.length = 6 := hlen
 match cs, hl with
 | [a, b, c, d, e, f], _ =>
  have key : ∀ (i : Nat) (v : Value), i < 6 → [a, b, c, d, e, f][i]? = some v → ∃ n : Int, v = .int .i64 n := by
   intro i v hi hv
   match i, hi with
   | 0, _ => have h1 := hf 0 _ rfl; rw [List.getElem?_eq_getElem (show 0 < xs.length by omega)] at h1; simp [cells3] at h1; obtain ⟨n, h2, _⟩ := DataW.trod_int Un3 h1; exact ⟨n, by simp at hv h2; rw [← hv]; exact h2⟩
   | 1, _ => have h1 := hf 1 _ rfl; rw [List.getElem?_eq_getElem (show 1 < xs.length by omega)] at h1; simp [cells3] at h1; obtain ⟨n, h2, _⟩ := DataW.trod_int Un3 h1; exact ⟨n, by simp at hv h2; rw [← hv]; exact h2⟩
   | 2, _ => have h1 := hf 2 _ rfl; rw [List.getElem?_eq_getElem (show 2 < xs.length by omega)] at h1; simp [cells3] at h1; obtain ⟨n, h2, _⟩ := DataW.trod_int Un3 h1; exact ⟨n, by simp at hv h2; rw [← hv]; exact h2⟩
   | 3, _ => have h1 := hf 3 _ rfl; rw [List.getElem?_eq_getElem (show 3 < xs.length by omega)] at h1; simp [cells3] at h1; obtain ⟨n, h2, _⟩ := DataW.trod_int Un3 h1; exact ⟨n, by simp at hv h2; rw [← hv]; exact h2⟩
   | 4, _ => have h1 := hf 4 _ rfl; rw [List.getElem?_eq_getElem (show 4 < xs.length by omega)] at h1; simp [cells3] at h1; obtain ⟨n, h2, _⟩ := DataW.trod_int Un3 h1; exact ⟨n, by simp at hv h2; rw [← hv]; exact h2⟩
   | 5, _ => have h1 := hf 5 _ rfl; rw [List.getElem?_eq_getElem (show 5 < xs.length by omega)] at h1; simp [cells3] at h1; obtain ⟨n, h2, _⟩ := DataW.trod_int Un3 h1; exact ⟨n, by simp at hv h2; rw [← hv]; exact h2⟩
  obtain ⟨n0, rfl⟩ := key 0 a (by decide) rfl
  obtain ⟨n1, rfl⟩ := key 1 b (by decide) rfl
  obtain ⟨n2, rfl⟩ := key 2 c (by decide) rfl
  obtain ⟨n3, rfl⟩ := key 3 d (by decide) rfl
  obtain ⟨n4, rfl⟩ := key 4 e (by decide) rfl
  obtain ⟨n5, rfl⟩ := key 5 f (by decide) rfl
  exact ⟨⟨n0, n1, n2, n3, n4, n5⟩, rfl⟩
set_option maxRecDepth 100000 in
theorem mvs_arg {r : Reach} {b0 : Nat} {W0 : World} {v : Value} {d : DataW H} {p : List MemPlace} (hval : Value.okWide Tryz.prog W0 r b0 22 v) (h : DataW.Trod enc Tryz.prog w 0 sp held 22 v d p) :
  ∃ (A : Option Addr) (ms : List Mv) (c : Nat), v = .slice A ms.length c ∧ (RdF mvD A c ms).holds (fun b => b < w.heap.size) w :=
 rd_slice Un22 cells51 (by decide) (fun m cs x hx => by obtain ⟨u, rfl⟩ := mv_elem m cs x hx; exact ⟨u, fun _ _ => rfl⟩) hval h
end
theorem same_of {W W' : World} {Z' : Nat → Prop} (h : (NearF W (fun b => b < W.heap.size)).holds Z' W') {x : MemPlace} (hx : x.block < W.heap.size) : W.sameAt W' x := by
 have hb := (h.1 x.block hx).2
 cases x with
 | cell b off =>
  have hb' : W'.heap[b]? = W.heap[b]? := hb
  show W'.cell? ⟨b, off, none⟩ = W.cell? ⟨b, off, none⟩
  unfold World.cell?
  simp only [hb']
 | map b => exact hb
theorem laidOk : laidOutB Tryz.prog = true := by kernel_rfl
end Go.Proofs.YtcjbjkbghgjmdaaGreatDoor
/- Places of inserts: each place is one insert's, and holds its text's rune. -/
namespace Go.Proofs.YtcjbjkbghgjmdaaGreatDoor
open Go Go.GW
/-- The places of a list, one by one. -/
def placesF (rs : List Rg) : List Int := rs.flatMap fun r => (List.range (r.hi - r.lo).toNat).map fun (j : Nat) => r.lo + j
theorem places_cons (r : Rg) (rs : List Rg) : placesF (r :: rs) = ((List.range (r.hi - r.lo).toNat).map fun (j : Nat) => r.lo + j) ++ placesF rs := by simp [placesF]
theorem mem_run {lo hi q : Int} : q ∈ ((List.range (hi - lo).toNat).map fun (j : Nat) => lo + j) ↔ lo ≤ q ∧ q < hi := by
 simp only [List.mem_map, List.mem_range]
 constructor
 ·rintro ⟨j, hj, rfl⟩; omega
 ·intro h; exact ⟨(q - lo).toNat, by omega, by omega⟩
theorem mem_places {q : Int} : ∀ {rs : List Rg}, q ∈ placesF rs ↔ memR q rs
 | [] => by simp [placesF, memR]
 | r :: rs => by rw [places_cons, List.mem_append, mem_run, mem_places, memR_cons]
theorem run_sorted (lo : Int) (n : Nat) : ((List.range n).map fun (j : Nat) => lo + j).Pairwise (· < ·) := by
 rw [List.pairwise_map]
 exact List.pairwise_lt_range.imp fun h => by omega
theorem places_sorted : ∀ {b : Int} {rs : List Rg}, NormB b rs → (placesF rs).Pairwise (· < ·)
 | _, [], _ => List.Pairwise.nil
 | b, r :: rs, h => by
  rw [places_cons, List.pairwise_append]
  refine ⟨run_sorted _ _, places_sorted h.2.2, fun x hx y hy => ?_⟩
  have h1 := mem_run.1 hx
  have h2 := h.2.2.below (mem_places.1 hy)
  omega
theorem sorted_ext : ∀ {a b : List Int}, a.Pairwise (· < ·) → b.Pairwise (· < ·) → (∀ q, q ∈ a ↔ q ∈ b) → a = b
 | [], [], _, _, _ => rfl
 | [], y :: b, _, _, h => by have := (h y).2 List.mem_cons_self; cases this
 | x :: a, [], _, _, h => by have := (h x).1 List.mem_cons_self; cases this
 | x :: a, y :: b, h1, h2, h => by
  rw [List.pairwise_cons] at h1 h2
  have e : x = y := by
   rcases List.mem_cons.1 ((h x).1 List.mem_cons_self) with e | e
   ·exact e
   ·rcases List.mem_cons.1 ((h y).2 List.mem_cons_self) with e' | e'
    ·exact e'.symm
    ·have := h1.1 _ e'; have := h2.1 _ e; omega
  subst e
  rw [sorted_ext h1.2 h2.2 fun q => ?_]
  constructor
  ·intro hq
   rcases List.mem_cons.1 ((h q).1 (List.mem_cons_of_mem _ hq)) with e | e
   ·have := h1.1 _ hq; omega
   ·exact e
  ·intro hq
   rcases List.mem_cons.1 ((h q).2 (List.mem_cons_of_mem _ hq)) with e | e
   ·have := h2.1 _ hq; omega
   ·exact e
def shQ (at_ n q : Int) : Int := if q < at_ then q else q + n
theorem places_shift {T at_ n : Int} {xs : List Rg} (h : Pls T xs) (hT : 0 ≤ T) (ha : 0 ≤ at_ ∧ at_ ≤ T) (hn : 0 ≤ n) (hs : T + n ≤ 65535) : placesF (thrF xs at_ n).1 = (placesF xs).map (shQ at_ n) := by
 obtain ⟨t1, t2, t3, t4⟩ := thr_ok h hT ha hn hs
 refine sorted_ext (places_sorted t2.norm) ?_ fun q => ?_
 ·rw [List.pairwise_map]
  exact (places_sorted h.norm).imp fun {x y} hxy => by unfold shQ; split <;> split <;> omega
 ·rw [mem_places, t3, List.mem_map]
  constructor
  ·rintro (⟨h1, h2⟩ | ⟨h1, h2⟩)
   ·exact ⟨q, mem_places.2 h2, by unfold shQ; rw [if_pos h1]⟩
   ·exact ⟨q - n, mem_places.2 h2, by unfold shQ; rw [if_neg (by omega)]; omega⟩
  ·rintro ⟨p, hp, rfl⟩
   have hp := mem_places.1 hp
   unfold shQ
   split
   ·exact .inl ⟨by assumption, hp⟩
   ·exact .inr ⟨by omega, by rw [Int.add_sub_cancel]; exact hp⟩
/-! ### What an entry is of, and what it stands for -/
abbrev Sig := Int × ByteArray × List Rg
def sigE (e : Ent) : Sig := (e.op.kind, e.op.text, e.now)
def sigs (es : List Ent) : List Sig := es.map sigE
theorem sigs_zipE : ∀ (xs : List GOp) (es : List Ent), Sames (es.map (·.op)) xs → sigs (zipE xs es) = sigs es
 | [], [], _ => rfl
 | x :: xs, e :: es, h => by
  cases h with
  | cons h hr => show sigE ⟨x, e.now, e.off⟩ :: sigs (zipE xs es) = _ ; rw [sigs_zipE xs es hr]; unfold sigs sigE; simp only [List.map_cons, h.kind, h.text]
 | [], e :: es, h => by cases h
 | x :: xs, [], h => by cases h
theorem sigs_new {i : Nat} {o : GOp} {nw : List Rg} {es : List Ent} {later : List GOp} (h : Sames ((es.drop i).map (·.op)) later) : sigs (newEnts i o nw es later) = insAt (sigs es) i (o.kind, o.text, nw) := by
 unfold newEnts insAt
 have := sigs_zipE _ _ h
 unfold sigs at *
 rw [List.map_append, List.map_cons, this, List.map_take, List.map_drop]; rfl
theorem sigs_turned (H : Hist) (i : Nat) (o : GOp) : sigs (turnedF H i o).1 = sigs H.ents := by
 rcases turned_cases H i o with e | ⟨k, e, h1, h2, h3, h4, h5⟩
 ·rw [e]
 ·rw [h5]
  show sigs (H.ents.set k (offE e (!o.on))) = _
  have hk : k < H.ents.length := by
   rcases Nat.lt_or_ge k H.ents.length with h | h
   ·exact h
   ·rw [List.getElem?_eq_none h] at h2; cases h2
  rw [List.getElem?_eq_getElem hk] at h2
  have e1 : sigE (offE e (!o.on)) = (sigs H.ents)[k]'(by unfold sigs; rw [List.length_map]; exact hk) := by
   unfold sigs; rw [List.getElem_map, Option.some.inj h2]; rfl
  unfold sigs
  rw [List.map_set]
  unfold sigs at e1
  rw [e1, List.set_getElem_self]
theorem insAt_mem {α : Type} {l : List α} {i : Nat} {x y : α} : y ∈ insAt l i x ↔ y = x ∨ y ∈ l := by
 unfold insAt
 conv => rhs; rw [← List.take_append_drop i l]
 rw [List.mem_append, List.mem_cons, List.mem_append]
 constructor
 ·rintro (h | h | h)
  ·exact .inr (.inl h)
  ·exact .inl h
  ·exact .inr (.inr h)
 ·rintro (h | h | h)
  ·exact .inr (.inl h)
  ·exact .inl h
  ·exact .inr (.inr h)
theorem insAt_countP {α : Type} (f : α → Bool) (l : List α) (i : Nat) (x : α) : (insAt l i x).countP f = l.countP f + (if f x = true then 1 else 0) := by
 unfold insAt
 conv => rhs; rw [← List.take_append_drop i l, List.countP_append]
 rw [List.countP_append, List.countP_cons]; omega
def mkOf (q : Int) (s : Sig) : Bool := decide (s.1 = 1) && inRb q s.2.2
structure Mk (S : List Sig) (T : Int) (X : List Ce) : Prop where
 text : ∀ s ∈ S, s.1 = 1 → (placesF s.2.2).map (fun q => (X[q.toNat]?).map (·.1)) = (runesF s.2.1).map some
 one : ∀ q, 0 ≤ q → q < T → S.countP (mkOf q) = 1
theorem Mk.same {S : List Sig} {T : Int} {X X' : List Ce} (h : Mk S T X) (hx : ∀ q : Nat, (X'[q]?).map (·.1) = (X[q]?).map (·.1)) {i : Nat} {s : Sig} (hs : s.1 ≠ 1) : Mk (insAt S i s) T X' := by
 refine ⟨fun t ht hk => ?_, fun q h0 h1 => ?_⟩
 ·rcases insAt_mem.1 ht with rfl | ht
  ·exact absurd hk hs
  ·rw [← h.text t ht hk]
   exact List.map_congr_left fun q _ => hx q.toNat
 ·rw [insAt_countP, h.one q h0 h1]
  have : mkOf q s = false := by unfold mkOf; simp [hs]
  rw [this]; simp
theorem countP_map_shift {T at_ n : Int} (q : Int) (ha : 0 ≤ at_ ∧ at_ ≤ T) (hn : 0 ≤ n) (hs : T + n ≤ 65535) : ∀ (S : List Sig), (∀ s ∈ S, Pls T s.2.2) → (S.map fun s => (s.1, s.2.1, (thrF s.2.2 at_ n).1)).countP (mkOf q) = if q < at_ then S.countP (mkOf q) else if q < at_ + n then 0 else S.countP (mkOf (q - n))
 | [], _ => by simp
 | s :: S, h => by
  have ih := countP_map_shift q ha hn hs S fun x hx => h x (List.mem_cons_of_mem _ hx)
  obtain ⟨t1, t2, t3, t4⟩ := thr_ok (h s List.mem_cons_self) (by omega) ha hn hs
  have e2 : inRb q (thrF s.2.2 at_ n).1 = if q < at_ then inRb q s.2.2 else if q < at_ + n then false else inRb (q - n) s.2.2 := by
   rw [Bool.eq_iff_iff]
   rw [inRb_iff, t3 q]
   by_cases c1 : q < at_
   ·rw [if_pos c1, inRb_iff]
    constructor
    ·rintro (h | h)
     ·exact h.2
     ·omega
    ·intro h; exact .inl ⟨c1, h⟩
   ·rw [if_neg c1]
    by_cases c2 : q < at_ + n
    ·rw [if_pos c2]
     constructor
     ·rintro (h | h) <;> omega
     ·intro h; cases h
    ·rw [if_neg c2, inRb_iff]
     constructor
     ·rintro (h | h)
      ·omega
      ·exact h.2
     ·intro h; exact .inr ⟨by omega, h⟩
  rw [List.map_cons, List.countP_cons, ih]
  have e3 : mkOf q (s.1, s.2.1, (thrF s.2.2 at_ n).1) = (decide (s.1 = 1) && inRb q (thrF s.2.2 at_ n).1) := rfl
  rw [e3, e2]
  by_cases c1 : q < at_
  ·simp only [if_pos c1]; rw [List.countP_cons]; rfl
  ·by_cases c2 : q < at_ + n
   ·simp only [if_neg c1, if_pos c2]; simp
   ·simp only [if_neg c1, if_neg c2]; rw [List.countP_cons]; rfl
theorem put_mk {H : Hist} (h : HV H) {i : Nat} {o : GOp} {es : List Ent} {nw : List Rg} {eff : GOp} (g : Good H i o) (p : PutIs H i o es nw eff) {X : List Ce} (hr : Rule H X) (hm : Mk (sigs H.ents) H.total X) : Mk (sigs (newEnts i o nw es (carryF o (H.ops.drop i)).2)) (H.total + widthF o) (applyRow eff X) := by
 obtain ⟨c1, c2, c3, c4, c5⟩ := cross_good h g
 have h0 := h.total0
 have hs := p.sames h g
 have hroom := g.room
 have hwid := g.right.width
 have hlen := hr.len
 rw [sigs_new hs]
 have hpl : ∀ s ∈ sigs H.ents, Pls H.total s.2.2 := fun s hs => by obtain ⟨e, he, rfl⟩ := List.mem_map.1 hs; exact h.pls e he
 rcases g.right.kind with hk | hk | hk
 ·obtain ⟨e1, e2, e3⟩ := p.ins hk
  have hti := c2.ins (c4.kind.trans hk)
  have hw2 : widthF (carryF o (H.ops.drop i)).1 = widthF o := c4.width
  have hwk := (hwid.2.2.1 hk).2
  have hrun := runes_width g.right hk
  generalize hta : (carryF o (H.ops.drop i)).1.at_ = ta at *
  have hek : eff.kind = 1 := by rw [e3]; exact hk
  have hes : sigs es = (sigs H.ents).map fun s => (s.1, s.2.1, (thrF s.2.2 ta (widthF o)).1) := by rw [e1]; unfold sigs; rw [List.map_map, List.map_map]; rfl
  have happ : applyRow eff X = X.take ta.toNat ++ (cellsOf (runesF o.text) 0 ++ X.drop ta.toNat) := by unfold applyRow; rw [if_pos hek, e3]
  have el1 : (X.take ta.toNat).length = ta.toNat := by rw [List.length_take]; omega
  have hlo : ∀ q : Nat, q < ta.toNat → (applyRow eff X)[q]? = X[q]? := fun q hq => by rw [happ, List.getElem?_append_left (by omega), List.getElem?_take, if_pos hq]
  have hhi : ∀ q : Nat, ta.toNat + (widthF o).toNat ≤ q → (applyRow eff X)[q]? = X[q - (widthF o).toNat]? := fun q hq => by
   rw [happ, List.getElem?_append_right (by omega), List.getElem?_append_right (by rw [cellsOf_length]; omega), cellsOf_length, List.getElem?_drop]
   congr 1; omega
  have hmid : ∀ j : Nat, j < (runesF o.text).length → ((applyRow eff X)[ta.toNat + j]?).map (·.1) = (runesF o.text)[j]? := fun j hj => by
   rw [happ, List.getElem?_append_right (by omega), List.getElem?_append_left (by rw [cellsOf_length]; omega), el1, Nat.add_sub_cancel_left]
   unfold cellsOf; rw [List.getElem?_map, Option.map_map, show ((fun c : Ce => c.1) ∘ fun c : Int => ((c, 0) : Ce)) = id from rfl, Option.map_id]; rfl
  rw [hes, e2]
  refine ⟨fun s hs2 hk2 => ?_, fun q hq0 hq1 => ?_⟩
  ·rcases insAt_mem.1 hs2 with rfl | hs2
   ·show (placesF [⟨ta, ta + widthF o⟩]).map _ = (runesF o.text).map some
    rw [places_cons, show placesF [] = [] from rfl, List.append_nil, List.map_map]
    dsimp only
    rw [show (ta + widthF o - ta).toNat = (runesF o.text).length from by omega]
    apply List.ext_getElem?
    intro j
    rw [List.getElem?_map, List.getElem?_map]
    by_cases hj : j < (runesF o.text).length
    ·rw [List.getElem?_range (by omega)]
     simp only [Option.map_some, Function.comp]
     rw [show (ta + (j : Int)).toNat = ta.toNat + j from by omega, hmid j hj, List.getElem?_eq_getElem hj]; rfl
    ·rw [List.getElem?_eq_none (by rw [List.length_range]; omega), List.getElem?_eq_none (by omega)]; rfl
   ·obtain ⟨t, ht, rfl⟩ := List.mem_map.1 hs2
    show (placesF (thrF t.2.2 ta (widthF o)).1).map _ = _
    rw [places_shift (hpl t ht) h0 ⟨hti.1, hti.2.1⟩ hwid.1 (by omega), List.map_map, ← hm.text t ht hk2]
    refine List.map_congr_left fun q hq => ?_
    have hqp := (hpl t ht).in (mem_places.1 hq)
    simp only [Function.comp]
    unfold shQ
    split
    ·rw [hlo _ (by omega)]
    ·rw [hhi _ (by omega)]
     congr 2; omega
  ·rw [insAt_countP, countP_map_shift (T := H.total) q ⟨hti.1, hti.2.1⟩ hwid.1 (by omega) _ hpl]
   have e4 : mkOf q (o.kind, o.text, [⟨ta, ta + widthF o⟩]) = (decide (ta ≤ q) && decide (q < ta + widthF o)) := by unfold mkOf inRb; simp [hk]
   rw [e4]
   by_cases d1 : q < ta
   ·rw [if_pos d1, hm.one q hq0 (by omega)]
    rw [show decide (ta ≤ q) = false from by simp; omega]; rfl
   ·rw [if_neg d1]
    by_cases d2 : q < ta + widthF o
    ·rw [if_pos d2, show decide (ta ≤ q) = true from by simp; omega, show decide (q < ta + widthF o) = true from by simp; omega]; rfl
    ·rw [if_neg d2, hm.one (q - widthF o) (by omega) (by omega), show decide (q < ta + widthF o) = false from by simp; omega, Bool.and_false]; rfl
 ·obtain ⟨e1, e2, e3⟩ := p.hide hk
  obtain ⟨t1, t2⟩ := c2.cov (c4.kind.trans hk) (by omega)
  rw [e1, hwid.2.2.2 (by omega), Int.add_zero]
  refine hm.same (fun q => ?_) (by show o.kind ≠ 1; omega)
  have hek : eff.kind = 2 := by rw [e3]; exact hk
  have hers : eff.rs = (carryF o (H.ops.drop i)).1.rs := by rw [e3]
  unfold applyRow
  rw [if_neg (by omega), if_pos hek, hers, (bumpL_get (k := 1) _ 0 X (Int.le_refl _) t2.norm (by rw [hlen]; exact t2.below)).2 q, Option.map_map]
  congr 1; funext c; simp only [Function.comp]; split <;> rfl
 ·obtain ⟨e1, e2, e3⟩ := p.status hk
  have hsg : sigs es = sigs H.ents := by rw [e1]; exact sigs_turned H i o
  rw [hsg, hwid.2.2.2 (by omega), Int.add_zero]
  refine hm.same (fun q => ?_) (by show o.kind ≠ 1; omega)
  rcases turned_cases H i o with e | ⟨k, e, g1, g2, g3, g4, g5⟩
  ·rw [e3, e]; rfl
  ·have hpe := h.pls e (List.mem_of_getElem? g2)
   have hers : eff.rs = e.now := by rw [e3, g5]; rfl
   have hek : eff.kind = 2 ∨ eff.kind = 3 := by rw [e3, g5]; unfold turnF; simp only; split <;> simp
   have key : ∀ k, ((bumpL e.now k X)[q]?).map (·.1) = (X[q]?).map (·.1) := fun k => by
    rw [(bumpL_get (k := k) _ 0 X (Int.le_refl _) hpe.norm (by rw [hlen]; exact hpe.below)).2 q, Option.map_map]
    congr 1; funext c; simp only [Function.comp]; split <;> rfl
   unfold applyRow
   rcases hek with hek | hek
   ·rw [if_neg (by omega), if_pos hek, hers]; exact key 1
   ·rw [if_neg (by omega), if_neg (by omega), if_pos hek, hers]; exact key (-1)
theorem Made.mk {n : Nat} {H : Hist} {X : List Ce} (h : Made n H X) : n ≤ 1000 → Mk (sigs H.ents) H.total X := by
 induction h with
 | zero => exact fun _ => ⟨fun s hs => (by cases hs), fun q h0 h1 => by simp at h1; omega⟩
 | step h g ih =>
  intro hn
  obtain ⟨h1, h2, h3⟩ := h.inv (by omega)
  obtain ⟨es, nw, eff, p⟩ := put_good h1 g
  have := put_mk h1 g p h2 (ih (by omega))
  rw [p.put]; exact this
end Go.Proofs.YtcjbjkbghgjmdaaGreatDoor
/- Names of cells: what an order's operations mean, whatever the turns in which they came. -/
namespace Go.Proofs.YtcjbjkbghgjmdaaGreatDoor
open Go Go.GW
abbrev Nm := Int × Int × Nat
/-- The names that an insert puts in. -/
def blk (o : GOp) : List Nm := (List.range (widthF o).toNat).map fun k => (o.c, o.n, k)
/-- A row with an operation's cells. -/
def insRow (o : GOp) (N : List Nm) : List Nm := N.take o.at_.toNat ++ (blk o ++ N.drop o.at_.toNat)
/-- The names that an operation has in its context. -/
def namesOf (o : GOp) (N : List Nm) : List (Option Nm) := if o.kind = 1 then (blk o).map some else (placesF o.rs).map fun q => N[q.toNat]?
theorem blk_len (o : GOp) : (blk o).length = (widthF o).toNat := by unfold blk; simp
theorem blk_nil {o : GOp} (h : widthF o = 0) : blk o = [] := by unfold blk; rw [h]; rfl
theorem insRow_nil {o : GOp} (h : widthF o = 0) (N : List Nm) : insRow o N = N := by unfold insRow; rw [blk_nil h, List.nil_append, List.take_append_drop]
theorem insRow_len (o : GOp) (N : List Nm) (h : 0 ≤ o.at_ ∧ o.at_ ≤ N.length) : (insRow o N).length = N.length + (widthF o).toNat := by
 unfold insRow; simp only [List.length_append, List.length_take, List.length_drop, blk_len]; omega
theorem insRow_get {o : GOp} {N : List Nm} (h : 0 ≤ o.at_ ∧ o.at_ ≤ N.length) (hw : 0 ≤ widthF o) (q : Int) (hq : 0 ≤ q) : (insRow o N)[(shQ o.at_ (widthF o) q).toNat]? = N[q.toNat]? := by
 have e1 : (N.take o.at_.toNat).length = o.at_.toNat := by rw [List.length_take]; omega
 unfold insRow shQ
 split
 ·rw [List.getElem?_append_left (by omega), List.getElem?_take, if_pos (by omega)]
 ·rw [List.getElem?_append_right (by omega), List.getElem?_append_right (by rw [blk_len]; omega), List.getElem?_drop]
  congr 1
  rw [blk_len]; omega
/-- Two blocks go in, in either order. -/
theorem ins_comm {α : Type} (N A B : List α) (a b : Nat) (h1 : a ≤ b) (h2 : b ≤ N.length) :
  (N.take a ++ (A ++ N.drop a)).take (b + A.length) ++ (B ++ (N.take a ++ (A ++ N.drop a)).drop (b + A.length)) = (N.take b ++ (B ++ N.drop b)).take a ++ (A ++ (N.take b ++ (B ++ N.drop b)).drop a) := by
 have e1 : (N.take a).length = a := by rw [List.length_take]; omega
 have e2 : (N.take b).length = b := by rw [List.length_take]; omega
 have l1 : (N.take a ++ (A ++ N.drop a)).take (b + A.length) = N.take a ++ (A ++ (N.drop a).take (b - a)) := by
  rw [show b + A.length = (N.take a).length + (A.length + (b - a)) from by omega, List.take_length_add_append, List.take_length_add_append]
 have l2 : (N.take a ++ (A ++ N.drop a)).drop (b + A.length) = N.drop b := by
  rw [show b + A.length = (N.take a).length + (A.length + (b - a)) from by omega, List.drop_length_add_append, List.drop_length_add_append, List.drop_drop]
  congr 1; omega
 have l3 : (N.take b ++ (B ++ N.drop b)).take a = N.take a := by
  rw [List.take_append_of_le_length (by omega), List.take_take]; congr 1; omega
 have l4 : (N.take b ++ (B ++ N.drop b)).drop a = (N.drop a).take (b - a) ++ (B ++ N.drop b) := by
  rw [List.drop_append_of_le_length (by omega), List.drop_take]
 rw [l1, l2, l3, l4]; simp
/-- Carried over an operation, an operation has the names that it had. -/
theorem inc_names {w : Int} {N : List Nm} (hN : (N.length : Int) = w) {g h : GOp} (e : Bool) (hg : Right w g) (hh : Right w h) (hc : ¬ clashF g h) (hw : w + widthF g + widthF h ≤ 65535) : namesOf (includeF g h e).1 (insRow h N) = namesOf g N := by
 have w0 := hg.w0
 have wg := hg.width
 have wh := hh.width
 unfold includeF
 rw [if_neg hc]
 by_cases hk : h.kind = 1
 ·rw [if_neg (by omega)]
  have hi := hh.ins hk
  rcases hg.kind with gk | gk | gk
  ·rw [if_pos gk]
   have gi := hg.ins gk
   split
   ·unfold movedF
    rw [if_neg (show ¬ (g.at_ + widthF h + widthF g > 1048576) by omega)]
    unfold namesOf
    rw [if_pos gk, if_pos (show ({ g with at_ := g.at_ + widthF h, rs := [] } : GOp).kind = 1 from gk)]; rfl
   ·unfold namesOf; rw [if_pos gk, if_pos gk]
  ·rw [if_neg (by omega), if_pos (.inl gk)]
   obtain ⟨c1, c2⟩ := hg.cov gk (by omega)
   obtain ⟨t1, t2, t3, t4⟩ := thr_ok c2 w0.1 ⟨hi.1, hi.2.1⟩ wh.1 (by omega)
   unfold rangedF
   rw [if_neg (by rw [t1]; simp)]
   unfold namesOf
   rw [if_neg (show ¬ g.kind = 1 by omega), if_neg (show ¬ ({ g with rs := (thrF g.rs h.at_ (widthF h)).1 } : GOp).kind = 1 by show ¬ g.kind = 1; omega)]
   show (placesF (thrF g.rs h.at_ (widthF h)).1).map _ = _
   rw [places_shift c2 w0.1 ⟨hi.1, hi.2.1⟩ wh.1 (by omega), List.map_map]
   refine List.map_congr_left fun q hq => ?_
   have hq2 := c2.in (mem_places.1 hq)
   exact insRow_get (by omega) wh.1 q hq2.1
  ·rw [if_neg (by omega), if_neg (by omega)]
   unfold namesOf
   have g1 : ¬ g.kind = 1 := by omega
   simp only [g1, if_false, hg.noRs (show g.kind ≠ 2 by omega)]; rfl
 ·rw [if_pos hk, insRow_nil (wh.2.2.2 hk)]
theorem inc_ins {a b : GOp} (e : Bool) (hc : ¬ clashF a b) (hb : b.kind = 1) (ha : a.kind = 1) (hw : a.at_ + widthF b + widthF a ≤ 1048576) : includeF a b e = (if b.at_ < a.at_ ∨ (b.at_ = a.at_ ∧ e = true) then ({ a with at_ := a.at_ + widthF b, rs := [] }, 0) else (a, 0)) := by
 unfold includeF
 rw [if_neg hc, if_neg (by omega), if_pos ha]
 split
 ·unfold movedF; rw [if_neg (by omega)]
 ·rfl
/-- f is ahead of l, both are inserts: both rows in the end are one. -/
theorem inc_rows1 {w : Int} {N : List Nm} (hN : (N.length : Int) = w) {f l : GOp} (hf : Right w f) (hl : Right w l) (hc : ¬ clashF f l) (hw : w + widthF f + widthF l ≤ 65535) (hk : f.kind = 1) (lk : l.kind = 1) : insRow (includeF l f true).1 (insRow f N) = insRow (includeF f l false).1 (insRow l N) := by
 have wf := hf.width
 have wl := hl.width
 have hc2 : ¬ clashF l f := fun h => hc (clash_comm.1 h)
 have fi := hf.ins hk
 have li := hl.ins lk
 rw [inc_ins true hc2 hk lk (by omega), inc_ins false hc lk hk (by omega)]
 by_cases hlt : f.at_ ≤ l.at_
 ·rw [if_pos (show f.at_ < l.at_ ∨ (f.at_ = l.at_ ∧ true = true) from by rcases Int.lt_or_eq_of_le hlt with h | h; exact .inl h; exact .inr ⟨h, rfl⟩), if_neg (show ¬ (l.at_ < f.at_ ∨ (l.at_ = f.at_ ∧ false = true)) from by rintro (h | ⟨_, h⟩); omega; cases h)]
  have := ins_comm N (blk f) (blk l) f.at_.toNat l.at_.toNat (by omega) (by omega)
  rw [blk_len, ← show (l.at_ + widthF f).toNat = l.at_.toNat + (widthF f).toNat from by omega] at this
  exact this
 ·rw [if_neg (show ¬ (f.at_ < l.at_ ∨ (f.at_ = l.at_ ∧ true = true)) from by rintro (h | ⟨h, _⟩) <;> omega), if_pos (show l.at_ < f.at_ ∨ (l.at_ = f.at_ ∧ false = true) from .inl (by omega))]
  have := ins_comm N (blk l) (blk f) l.at_.toNat f.at_.toNat (by omega) (by omega)
  rw [blk_len, ← show (f.at_ + widthF l).toNat = f.at_.toNat + (widthF l).toNat from by omega] at this
  exact this.symm
theorem inc_width {a b : GOp} (e : Bool) (ha : a.kind ≠ 1) (hb : (includeF a b e).1.kind = a.kind) : widthF (includeF a b e).1 = 0 := by unfold widthF; rw [if_neg (by rw [hb]; exact ha)]
theorem inc_off {a b : GOp} (e : Bool) (hc : ¬ clashF a b) (hb : b.kind ≠ 1) : includeF a b e = (a, 0) := by unfold includeF; rw [if_neg hc, if_pos hb]
theorem inc_rows {w : Int} {N : List Nm} (hN : (N.length : Int) = w) {f l : GOp} (hf : Right w f) (hl : Right w l) (hc : ¬ clashF f l) (hw : w + widthF f + widthF l ≤ 65535) (s1 : (includeF l f true).1.kind = l.kind) (s2 : (includeF f l false).1.kind = f.kind) : insRow (includeF l f true).1 (insRow f N) = insRow (includeF f l false).1 (insRow l N) := by
 have wf := hf.width
 have wl := hl.width
 have hc2 : ¬ clashF l f := fun h => hc (clash_comm.1 h)
 by_cases hk : f.kind = 1
 ·by_cases lk : l.kind = 1
  ·exact inc_rows1 hN hf hl hc hw hk lk
  ·rw [inc_off false hc lk, insRow_nil (inc_width true lk s1), insRow_nil (wl.2.2.2 lk)]
 ·rw [inc_off true hc2 hk, insRow_nil (wf.2.2.2 hk), insRow_nil (inc_width false hk s2)]
end Go.Proofs.YtcjbjkbghgjmdaaGreatDoor
