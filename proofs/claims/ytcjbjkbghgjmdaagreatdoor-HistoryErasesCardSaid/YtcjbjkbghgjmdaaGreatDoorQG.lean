/- 'redraft/redraftlaw06.HistoryErases' answers true, whatever its arguments and the world in which it is called: on every schedule and every choice; what is handed in reads as_ it did. Its condition: the table of package utext holds what its initialiser lays (the card ties that to the program's text). -/
import Derived.Test.YtcjbjkbghgjmdaaGreatDoorTie
import Derived.Test.YtcjbjkbghgjmdaaGreatDoorQF
set_option linter.unusedVariables false
set_option linter.unusedSimpArgs false
open Go.Proofs.Tryz renaming underlying3 → Un3, underlying4 → Un4, underlying9 → Un9, underlying21 → Un21, underlying22 → Un22, underlying26 → Un26, underlying28 → Un28, underlying29 → Un29, underlying30 → Un30, underlying31 → Un31, underlying32 → Un32, underlying34 → Un34, underlying37 → Un37, underlying42 → Un42, underlying44 → Un44, underlying45 → Un45, underlying47 → Un47, underlying51 → Un51, underlying57 → Un57, underlying63 → Un63, underlying65 → Un65, underlying67 → Un67, underlying69 → Un69, underlying70 → Un70, underlying72 → Un72, underlying74 → Un74, underlying76 → Un76, underlying100 → Un100, underlying102 → Un102, underlying104 → Un104, underlying114 → Un114, underlying119 → Un119, underlying130 → Un130, underlying135 → Un135, underlying136 → Un136, underlying138 → Un138, underlying144 → Un144, underlying166 → Un166, underlying169 → Un169, underlying170 → Un170, underlying177 → Un177
/- Walks: Find, edit, Effect. -/
namespace Go.Proofs.YtcjbjkbghgjmdaaGreatDoor
open Go Go.GW
set_option maxRecDepth 10000 in
theorem find_s (h m cap : Nat) (A : Option Addr) (H : Hist) (L : List MR) (hr : HR H L) (i0 i1 : Int) (k : Nat) (hw : whereId H.ents i0 i1 = some k) : Sp Tryz.prog 9 [.pointer (some ⟨h, 0, none⟩), .agg #[.int .i64 i0, .int .i64 i1]] [hdP h A H.ops.length cap m H.total, mpP m L, mkP L] [] (fun u Lo fs => u = .tuple #[.int .i64 k, .int .i64 0] ∧ Lo = [hdP h A H.ops.length cap m H.total, mpP m L, mkP L] ∧ fs = []) := by
 have hol := ops_len H
 have hlen := hr.len
 obtain ⟨hk, j, x, hc, hn, hj, hm, hg⟩ := hr.look1 hw
 obtain ⟨xm, xb, xA, xc⟩ := x
 obtain rfl : xm = markAt k H.ents[k] := hm
 refine Sp.of (n := 19) ⟨_, Tryz.func9, rfl, rfl, rfl, rfl⟩ (Nat.le_of_ble_eq_true rfl) fun Ps As => WC_seq (WC_region (WL_main rfl (OW_box (cs := [_, _]) rfl rfl (by decide) fun b3 => Lq (q_assign rfl) (Lq (q_assign rfl) (WL_nil (thenN (WC_seq (WC_draw _ _ [] (.c 0 0 (.c 1 0 (.c 2 0 (.c 3 0 (.c 4 0 (.c 5 0 (.c 6 0 .nil))))))) mixed (fun _ _ _ _ h => h) (Sk (Sk (Sk (Sk (Sr))))) (fun _ h => h) (by kernel_rfl) (by decide) fun ws Z0 => Qe rfl (q_move rfl) (Qe rfl (q_nil rfl) (Qe rfl (q_field (o' := 1) Un67 rfl ti65 rfl rfl) ?_))))))))))
 refine Qe rfl (q_load1 Un65 rfl rfl (ownS (own0)) rfl) (Qe rfl (q_loadN (vs := [_, _]) Un37 rfl ti37 rfl own0 rfl rfl) (Qe rfl (q_lookS keyT hg Un65 ti74 rfl rfl (ownS (ownS (own0)))) (Qe rfl (q_assign rfl) (WE_end (WF_nil (thenN (WC_seq (WC_seq (WC_region (Lq (q_move rfl) (Lq (q_peql Un74 rfl rfl (by simp)) (WL_nil (thenN (WC_fr [(14, _), (6, _), (5, _), (4, _)] (.cons rfl (.cons rfl (.cons rfl (.cons rfl (.nil _))))) ?_))))))))))))))
 refine WC_false rfl rfl (WC_skip (thenN (WC_seq (WC_region (Lq (q_move rfl) (Lq (q_nil rfl) (Lq (q_field (o' := 0) Un76 rfl ti3 rfl rfl) (Lq (q_load1 (v := .int .i64 k) Un3 rfl rfl (ownS (ownS (ownS (ownI (mkP_mem hj))))) rfl) (Lq (q_assign rfl) (Lq (q_assign rfl) (WL_nil (thenN (WC_ret ?_)))))))))))))
 refine ⟨_, [_, _, _], [], fun Z w hs => .tmp rfl (.tmp rfl (.nil)), ?_, fun Z w hs => hs.out (Sd (Sk (Sk (Sk (Sr))))) T1⟩
 exact ⟨rfl, rfl, rfl⟩


set_option maxRecDepth 10000 in
theorem edit_s (h m cap : Nat) (A : Option Addr) (H : Hist) (L : List MR) (hr : HR H L) (i0 i1 : Int) (k : Nat) (hw : whereId H.ents i0 i1 = some k) (hk4 : ∀ e, H.ents[k]? = some e → e.op.kind ≠ 4) : Sp Tryz.prog 19 [.pointer (some ⟨h, 0, none⟩), .agg #[.int .i64 i0, .int .i64 i1]] [hdP h A H.ops.length cap m H.total, mpP m L, mkP L] [RdF opD A cap H.ops] (fun u Lo fs => ∃ (hk : k < H.ents.length) (j xb : Nat) (xA : Option Addr) (xc : Nat), L[j]? = some ⟨markAt k H.ents[k], xb, xA, xc⟩ ∧ u = .tuple #[.pointer (some ⟨xb, 0, none⟩), .int .i64 0] ∧ Lo = [hdP h A H.ops.length cap m H.total, mpP m L, mkP L] ∧ fs = []) := by
 have hol := ops_len H
 have hlen := hr.len
 obtain ⟨hk, j, x, hc, hn, hj, hm, hg⟩ := hr.look1 hw
 obtain ⟨xm, xb, xA, xc⟩ := x
 obtain rfl : xm = markAt k H.ents[k] := hm
 refine Sp.of (n := 29) ⟨_, Tryz.func19, rfl, rfl, rfl, rfl⟩ (Nat.le_of_ble_eq_true rfl) fun Ps As => WC_seq (WC_region (WL_main rfl (OW_box (cs := [_, _]) rfl rfl (by decide) fun b3 => Lq (q_assign rfl) (Lq (q_assign rfl) (WL_nil (thenN (WC_seq (WC_draw _ _ [] (.c 0 0 (.c 1 0 (.c 2 0 (.c 3 0 (.c 4 0 (.c 5 0 (.c 6 0 .nil))))))) mixed (fun _ _ _ _ h => h) (Sk (Sk (Sk (Sk (Sr))))) (fun _ h => h) (by kernel_rfl) (by decide) fun ws Z0 => Qe rfl (q_move rfl) (Qe rfl (q_nil rfl) (Qe rfl (q_field (o' := 1) Un67 rfl ti65 rfl rfl) ?_))))))))))
 refine Qe rfl (q_load1 Un65 rfl rfl (ownS (own0)) rfl) (Qe rfl (q_loadN (vs := [_, _]) Un37 rfl ti37 rfl own0 rfl rfl) (Qe rfl (q_lookS keyT hg Un65 ti74 rfl rfl (ownS (ownS (own0)))) (Qe rfl (q_assign rfl) (WE_end (WF_nil (thenN (WC_seq (WC_seq (WC_region (Lq (q_move rfl) (Lq (q_peql Un74 rfl rfl (by simp)) (WL_nil (thenN (WC_fr [(14, _), (6, _), (5, _), (4, _), (0, _)] (.cons rfl (.cons rfl (.cons rfl (.cons rfl (.cons rfl (.nil _)))))) ?_))))))))))))))
 refine WC_false rfl rfl (WC_skip (thenN (WC_seq (WC_seq ?_))))
 have hko : k < H.ops.length := by omega
 have hop := ops_at hk
 refine WC_elem (k := k) M1 (List.getElem?_eq_getElem hko) (op_open _) fun b4 q4 y4 e4 => ?_
 cases e4
 refine WC_draw _ _ [] (.c 0 0 (.c 1 0 (.c 2 0 (.c 3 0 (.c 4 0 (.c 5 0 (.c 6 0 (.c 7 0 (.c 8 0 (.c 9 0 (.c 10 0 (.c 11 0 (.c 12 0 .nil))))))))))))) mixed (fun _ _ _ _ h => h) (Sk (Sk (Sk (Sk (Sr))))) (fun _ h => h) (by kernel_rfl) (by decide) fun ws Z0 => Qe rfl (q_move rfl) (Qe rfl (q_nil rfl) (Qe rfl (q_field (o' := 0) Un67 rfl ti51 rfl rfl) (Qe rfl (q_load1 Un51 rfl rfl (ownS (own0)) rfl) (Qe rfl (q_move rfl) (Qe rfl (q_nil rfl) (Qe rfl (q_field (o' := 0) Un76 rfl ti3 rfl rfl) (Qe rfl (q_load1 (v := .int .i64 k) Un3 rfl rfl (ownS (ownS (ownS (ownI (mkP_mem hj))))) rfl) (Qe rfl (q_idxRd Un51 ti47 rfl rfl (by omega) (by omega)) ?_))))))))
 refine Qe rfl (q_field (o' := _ + 0) Un47 rfl ti44 rfl rfl) (Qe rfl (q_field (o' := _ + 2) Un44 rfl ti42 rfl rfl) (Qe rfl (q_loadF1 (j := 2) Un42 rfl rfl M0 rfl rfl) (Qe rfl (q_eql rfl rfl) (WE_end (WF_nil (thenN (WC_fr [(27, _), (6, _), (5, _), (4, _)] (.cons rfl (.cons rfl (.cons rfl (.cons rfl (.nil _))))) (WC_false rfl (by simp only [beq_eq_false_iff_ne, ne_eq]; rw [hop]; exact hk4 _ (List.getElem?_eq_getElem hk)) ?_))))))))
 refine WC_skip (thenN (WC_seq (WC_region (Lq (q_move rfl) (Lq (q_assign rfl) (Lq (q_assign rfl) (WL_nil (thenN (WC_ret ?_)))))))))
 refine ⟨_, [_, _, _], [], fun Z w hs => .tmp rfl (.tmp rfl (.nil)), ?_, fun Z w hs => hs.out (Sd (Sk (Sk (Sk (Sr))))) T4⟩
 exact ⟨hk, j, xb, xA, xc, hj, rfl, rfl, rfl⟩

theorem bd31Xw51  (w : World) : (Instr.build 47 #[]).run Tryz.prog w = .ok (.agg #[.int .i64 0, .int .i64 0, .int .i64 0, .int .i64 0, .string ⟨#[]⟩, .slice none 0 0, .int .i64 0, .int .i64 0, .bool false]) w := by kernel_rfl

set_option maxRecDepth 10000 in
theorem effect_s (h m cap : Nat) (A : Option Addr) (H : Hist) (L : List MR) (hr : HR H L) (i0 i1 : Int) (k : Nat) (hw : whereId H.ents i0 i1 = some k) (hk4 : ∀ e, H.ents[k]? = some e → e.op.kind ≠ 4) (on : Bool) : Sp Tryz.prog 10 [.pointer (some ⟨h, 0, none⟩), .agg #[.int .i64 i0, .int .i64 i1], .bool on] [hdP h A H.ops.length cap m H.total, mpP m L, mkP L] [RdF opD A cap H.ops, AllF L nowF] (fun u Lo fs => ∃ (hk : k < H.ents.length) (Ae : Option Addr) (ce : Nat), Lo = [hdP h A H.ops.length cap m H.total, mpP m L, mkP L] ∧ ((H.ents[k].off = on ∧ u = .tuple #[opV (turnF H.ents[k] on) Ae ce, .int .i64 0] ∧ fs = [RdF rgD Ae ce (turnF H.ents[k] on).rs]) ∨ (H.ents[k].off ≠ on ∧ u = .tuple #[opV zeroOp none 0, .int .i64 62] ∧ fs = []))) := by
 have hol := ops_len H
 have hlen := hr.len
 refine Sp.of (n := 31) ⟨_, Tryz.func10, rfl, rfl, rfl, rfl⟩ (Nat.le_of_ble_eq_true rfl) fun Ps As => WC_seq (WC_region (WL_main rfl (OW_box (cs := [_, _]) rfl rfl (by decide) fun b4 => WL_main rfl (OW_alloc (cs := [_, _, _, _, _, _, _, _, _]) ti47 rfl (by decide) fun b6 => Lq (q_assign rfl) (WL_nil (thenN (WC_seq (WC_region (Lq (q_move rfl) (Lq (q_loadN (vs := [_, _]) Un37 rfl ti37 rfl (ownS (own0)) rfl rfl) (WL_main rfl (OW_call3 (edit_s h m cap A H L hr i0 i1 k hw hk4) (.cons rfl (.cons rfl (.nil))) (by decide) (.s (.s (.z))) (.s (.s (.z))) (.s (.s (.z))) (memc M0 mem0) fun u1_2 Lo fs hres => ?_))))))))))))
 obtain ⟨hk, j, xb, xA, xc, hj, rfl, rfl, rfl⟩ := hres
 refine Lq (q_move rfl) (Lq (q_extract (vs := [_, _]) rfl rfl) (Lq (q_extract (vs := [_, _]) rfl rfl) (Lq (q_assign rfl) (Lq (q_assign rfl) (WL_nil (thenN (WC_fr [(9, _), (8, _), (7, _), (6, _), (0, _), (2, _)] (.cons rfl (.cons rfl (.cons rfl (.cons rfl (.cons rfl (.cons rfl (.nil _))))))) (WC_seq (WC_seq (WC_region (Lq (q_move rfl) (Lq (q_neq rfl rfl) ?_))))))))))))
 refine WL_nil (thenN (WC_false rfl rfl (WC_skip (thenN (WC_seq (WC_seq (WC_region (Lq (q_move rfl) (Lq (q_nil rfl) (Lq (q_field (o' := 2) Un76 rfl ti4 rfl rfl) (Lq (q_load1 (v := .bool H.ents[k].off) Un4 rfl rfl (ownS (ownS (ownI (mkP_mem hj)))) rfl) (Lq (q_move rfl) (Lq (q_bneq' Un4 rfl rfl) (WL_nil (thenN (WC_fr [(25, _), (8, _), (7, _), (6, _), (0, _), (2, _)] (.cons rfl (.cons rfl (.cons rfl (.cons rfl (.cons rfl (.cons rfl (.nil _))))))) (WC_cond rfl (fun h25 => ?_) (fun h25 => ?_))))))))))))))))))
 ·refine WC_seq (WC_region (Lq (q_build (.nil) (bd31Xw51)) (WL_main rfl (OW_storeN (cs' := [_, _, _, _, _, _, _, _, _]) (vs := [_, _, _, _, _, _, _, _, _]) ti47 rfl rfl rfl rfl rfl (Nat.le_of_ble_eq_true rfl) (.s (.s (.s (.z)))) (Lq (q_assign rfl) (WL_nil (thenN (WC_ret (thenRet ?_)))))))))
  refine ⟨_, [_, _, _], [], fun Z w hs => RV_ownN hs Un47 rfl ti47 rfl (ownS (ownS (ownS (own0)))) rfl (.tmp rfl (.nil)), ?_, fun Z w hs => hs.out (Sk (Sk (Sk (Sd (Sd (Sr)))))) (fun _ h => h)⟩
  exact ⟨hk, none, 0, rfl, .inr ⟨by simpa using h25, rfl, rfl⟩⟩
 ·refine WC_skip (thenN (WC_seq (WC_region (Lq (q_move rfl) (Lq (q_move rfl) (Lq (q_move rfl) (WL_main rfl (OW_call2 (turn_s h m cap A H L hr H.ops H.total rfl j k xb xA xc hk hj on) (.cons rfl (.cons rfl (.cons rfl (.nil)))) (by decide) (.z) (.s (.z)) (memc M0 (memc M1 mem0)) fun u6_3 Lo fs hres => ?_))))))))
  obtain ⟨A1, c1, rfl, rfl, rfl⟩ := hres
  refine WL_main rfl (OW_storeN (cs' := [_, _, _, _, _, _, _, _, _]) (vs := [_, _, _, _, _, _, _, _, _]) ti47 rfl rfl rfl rfl rfl (Nat.le_of_ble_eq_true rfl) (.s (.s (.s (.z)))) (Lq (q_assign rfl) (WL_nil (thenN (WC_ret ?_)))))
  refine ⟨_, [_, _, _], [_], fun Z w hs => RV_ownN hs Un47 rfl ti47 rfl (ownS (ownS (ownS (own0)))) rfl (.tmp rfl (.nil)), ?_, fun Z w hs => (((hs.pick (.s (.z))).pick (.s (.s (.z)))).pick (.s (.s (.z)))).out (Sk (Sk (Sk (Sd (Sd (Sr)))))) (fun _ h => h)⟩
  exact ⟨hk, A1, c1, rfl, .inl ⟨by simpa using h25, rfl, rfl⟩⟩

end Go.Proofs.YtcjbjkbghgjmdaaGreatDoor
/- What the code makes of one command is right in the shorter context, and has its names. -/
namespace Go.Proofs.YtcjbjkbghgjmdaaGreatDoor
open Go Go.GW
theorem blk_w {d : GOp} (hw : 0 ≤ widthF d) : ((blk d).length : Int) = widthF d := by rw [blk_len]; omega
theorem wid_no {d : GOp} (h : d.kind ≠ 1) : widthF d = 0 := by unfold widthF; rw [if_neg h]
theorem wid_nn (d : GOp) : 0 ≤ widthF d := (widthF_le d).1
/-- A right insert, at another place. -/
theorem Right.at_ {w w' a : Int} {o : GOp} (h : Right w o) (hk : o.kind = 1) (ha : 0 ≤ a ∧ a ≤ w') (hw : w' + widthF o ≤ 1048576) : Right w' { o with at_ := a } := by
 have := h.moved hk ha hw
 have hrs := h.noRs (show o.kind ≠ 2 by omega)
 rw [show ({ o with at_ := a } : GOp) = { o with at_ := a, rs := [] } from by rw [hrs]]
 exact this
theorem take_gap {α : Type} (P D Q : List α) (k : Nat) : (P ++ (D ++ Q)).take (P.length + (D.length + k)) = P ++ (D ++ Q.take k) ∧ (P ++ (D ++ Q)).drop (P.length + (D.length + k)) = Q.drop k ∧ (P ++ Q).take (P.length + k) = P ++ Q.take k ∧ (P ++ Q).drop (P.length + k) = Q.drop k := by
 rw [List.take_length_add_append, List.take_length_add_append, List.drop_length_add_append, List.drop_length_add_append, List.take_length_add_append, List.drop_length_add_append]
 exact ⟨rfl, rfl, rfl, rfl⟩
theorem thr_one {g w at_ n T : Int} (hg : 0 ≤ g) (hw : 0 < w) (hT : g + w ≤ T) (ha : 0 ≤ at_ ∧ at_ ≤ T) (hn : 0 ≤ n) (hs : T + n ≤ 65535) (ho : at_ ≤ g ∨ g + w ≤ at_) : (thrF [⟨g, g + w⟩] at_ n).1 = [⟨if at_ ≤ g then g + n else g, (if at_ ≤ g then g + n else g) + w⟩] := by
 have hp : Pls T [⟨g, g + w⟩] := ⟨⟨hg, by dsimp only; omega, trivial⟩, fun r hr => by rw [List.mem_singleton] at hr; subst hr; exact hT⟩
 obtain ⟨t1, t2, t3, t4⟩ := thr_ok hp (by omega) ha hn hs
 refine norm_ext t2.norm (b' := 0) ⟨?_, ?_, trivial⟩ fun q => ?_
 ·dsimp only; split <;> omega
 ·dsimp only; omega
 ·rw [t3, memR_one, memR_one, memR_one]
  dsimp only
  split
  ·constructor
   ·rintro (h | h) <;> omega
   ·intro h; exact .inr (by omega)
  ·constructor
   ·rintro (h | h) <;> omega
   ·intro h; exact .inl (by omega)
theorem thr_nil' (at_ n T : Int) (hT : 0 ≤ T) (ha : 0 ≤ at_ ∧ at_ ≤ T) (hn : 0 ≤ n) (hs : T + n ≤ 65535) : (thrF [] at_ n).1 = [] := by
 have hp : Pls T [] := ⟨trivial, fun r hr => by cases hr⟩
 exact (thr_ok hp hT ha hn hs).2.2.2.1 rfl
structure StepE (d o o' : GOp) (N N' : List Nm) : Prop where
 same : Same o o'
 names : namesOf o' N' = namesOf o N
 right : Right N'.length o'
theorem step_ins {d o : GOp} {N N' : List Nm} {gone : List Rg} {g : Nat} {w : Int} (hd1 : d.kind = 1 → 1 ≤ widthF d) (hN : (N.length : Int) = w) (G : GoneI d N N' gone g) (ho : Right w o) (hk : o.kind = 1) (hin : ¬ (0 < rankF o.at_ gone ∧ rankF o.at_ gone < countF gone)) (hw : w + widthF o ≤ 65535) :
  StepE d o { o with at_ := o.at_ - rankF o.at_ gone } N N' ∧ (0 ≤ rankF o.at_ gone ∧ rankF o.at_ gone ≤ o.at_) ∧ ∃ g', GoneI d (insRow o N) (insRow { o with at_ := o.at_ - rankF o.at_ gone } N') (thrF gone o.at_ (widthF o)).1 g' := by
 have hi := ho.ins hk
 have hwo := ho.width
 have hwd := wid_nn d
 have hb := blk_w hwd
 have hrk := G.rank hwd o.at_
 have hct := G.count
 obtain ⟨l1, l2⟩ := G.len
 have hgone := G.gone
 obtain ⟨P, Q, eN, eN', eg⟩ := G.row
 have hlN : N.length = P.length + ((blk d).length + Q.length) := by rw [eN, List.length_append, List.length_append]
 have hlN' : N'.length = P.length + Q.length := by rw [eN', List.length_append]
 -- in front of the gap, or behind it
 obtain ⟨r, hr⟩ : ∃ r, r = rankF o.at_ gone := ⟨_, rfl⟩
 rw [← hr] at hrk hin ⊢
 have hcase : (o.at_ ≤ g ∧ r = 0) ∨ (¬ o.at_ ≤ g ∧ g + widthF d ≤ o.at_ ∧ r = widthF d) := by
  by_cases hd : d.kind = 1
  ·rw [if_pos hd] at hrk hct
   rw [hct] at hin
   by_cases h1 : o.at_ ≤ g
   ·rw [if_pos h1] at hrk; exact .inl ⟨h1, hrk⟩
   ·rw [if_neg h1] at hrk
    have := hd1 hd
    omega
  ·rw [if_neg hd] at hrk
   have := wid_no hd
   omega
 have hthr : (thrF gone o.at_ (widthF o)).1 = if d.kind = 1 then [⟨if o.at_ ≤ g then g + widthF o else g, (if o.at_ ≤ g then g + widthF o else g) + widthF d⟩] else [] := by
  rw [hgone]
  by_cases hd : d.kind = 1
  ·have := hd1 hd
   rw [if_pos hd, if_pos hd, thr_one (T := w) (by omega) (by omega) (by omega) (by omega) hwo.1 hw (by omega)]
  ·rw [if_neg hd, if_neg hd, thr_nil' _ _ w (by omega) (by omega) hwo.1 hw]
 have hsame : Same o { o with at_ := o.at_ - r } := ⟨rfl, rfl, rfl, rfl, rfl, rfl, rfl⟩
 have hbo : blk ({ o with at_ := o.at_ - r } : GOp) = blk o := rfl
 refine ⟨⟨hsame, ?_, ?_⟩, by omega, ?_⟩
 ·unfold namesOf
  rw [if_pos (show ({ o with at_ := o.at_ - r } : GOp).kind = 1 from hk), if_pos hk]; rfl
 ·exact ho.at_ hk (by omega) (by omega)
 ·by_cases hdk : d.kind = 1
  case neg =>
   have hz := wid_no hdk
   have hr0 : r = 0 := by omega
   have e1 : blk d = [] := blk_nil hz
   have e2 : N = N' := by rw [eN, eN', e1]; rfl
   have e3 : ({ o with at_ := o.at_ - r } : GOp) = o := by rw [hr0, Int.sub_zero]
   rw [e3, ← e2]
   refine ⟨0, ⟨⟨[], insRow o N, by rw [e1]; rfl, rfl, rfl⟩, by rw [hthr, if_neg hdk, if_neg hdk], fun _ => rfl⟩⟩
  rcases hcase with ⟨h1, h2⟩ | ⟨h0, h1, h2⟩
  ·refine ⟨g + (widthF o).toNat, ⟨⟨P.take o.at_.toNat ++ (blk o ++ P.drop o.at_.toNat), Q, ?_, ?_, ?_⟩, ?_, fun h => absurd hdk h⟩⟩
   ·unfold insRow
    rw [eN, List.take_append_of_le_length (by omega), List.drop_append_of_le_length (by omega)]
    simp
   ·unfold insRow
    rw [hbo]
    show N'.take (o.at_ - r).toNat ++ (blk o ++ N'.drop (o.at_ - r).toNat) = _
    rw [show (o.at_ - r).toNat = o.at_.toNat from by omega, eN', List.take_append_of_le_length (by omega), List.drop_append_of_le_length (by omega)]
    simp
   ·simp only [List.length_append, List.length_take, List.length_drop, blk_len]; omega
   ·rw [hthr, if_pos h1]
    have : ((g + (widthF o).toNat : Nat) : Int) = g + widthF o := by omega
    rw [this]
  ·obtain ⟨k, hk2⟩ : ∃ k : Nat, o.at_ = g + widthF d + k := ⟨(o.at_ - g - widthF d).toNat, by omega⟩
   obtain ⟨t1, t2, t3, t4⟩ := take_gap P (blk d) Q k
   refine ⟨g, ⟨⟨P, Q.take k ++ (blk o ++ Q.drop k), ?_, ?_, eg⟩, ?_, fun h => absurd hdk h⟩⟩
   ·unfold insRow
    rw [show o.at_.toNat = P.length + ((blk d).length + k) from by omega, eN, t1, t2]
    simp
   ·unfold insRow
    rw [hbo]
    show N'.take (o.at_ - r).toNat ++ (blk o ++ N'.drop (o.at_ - r).toNat) = _
    rw [show (o.at_ - r).toNat = P.length + k from by omega, eN', t3, t4]
    simp
   ·rw [hthr, if_neg h0]
theorem step_hide {d o : GOp} {N N' : List Nm} {gone : List Rg} {g : Nat} {w : Int} (hd1 : d.kind = 1 → 1 ≤ widthF d) (hN : (N.length : Int) = w) (G : GoneI d N N' gone g) (ho : Right w o) (hk : o.kind = 2) (hin : meetF [] gone o.rs = []) (hw : w ≤ 65535) :
  StepE d o { o with rs := packF [] (downR gone o.rs) } N N' ∧ SortR 0 (downR gone o.rs) ∧ BelowR N'.length (downR gone o.rs) ∧ Pls N'.length (packF [] (downR gone o.rs)) := by
 obtain ⟨c1, c2⟩ := ho.cov hk hw
 have hwd := wid_nn d
 have hb := blk_w hwd
 obtain ⟨l1, l2⟩ := G.len
 have hgone := G.gone
 have hrk := G.rank hwd
 obtain ⟨P, Q, eN, eN', eg⟩ := G.row
 have hdis : ∀ s ∈ o.rs, s.hi ≤ g ∨ g + widthF d ≤ s.lo := by
  by_cases hd : d.kind = 1
  ·have h1 := hd1 hd
   rw [hgone, if_pos hd] at hin
   intro s hs
   have := meetF_one (r := ⟨g, g + widthF d⟩) (by dsimp only; omega) c2.norm hin s hs
   dsimp only at this; omega
  ·have := wid_no hd
   have hz := G.z hd
   intro s hs
   have := (c2.norm.mem s hs).1
   omega
 have hrk2 : ∀ p : Int, (p ≤ g → rankF p gone = 0) ∧ (g + widthF d ≤ p → rankF p gone = widthF d) := by
  intro p
  rw [hrk p]
  by_cases hd : d.kind = 1
  ·rw [if_pos hd]
   constructor
   ·intro h; rw [if_pos h]
   ·intro h
    split <;> omega
  ·rw [if_neg hd]
   have := wid_no hd
   exact ⟨fun _ => rfl, fun _ => this.symm⟩
 obtain ⟨d1, d2, d3⟩ := down_ok (g := g) (wd := widthF d) (by omega) hwd (rk := fun p => rankF p gone) hrk2 (T := N'.length) c2.norm (Int.le_refl _) (by
  intro x hx
  have := c2.below x hx
  omega) (by omega) hdis
 have d1' : SortR 0 (downR gone o.rs) := by
  have := d1
  rw [if_pos (by omega)] at this; exact this
 obtain ⟨p1, p2, p3⟩ := packF_ok (T := N'.length) (downR gone o.rs) [] 0 (Int.le_refl _) d1' d2 trivial (fun r hr => by cases hr) (fun l hl => by cases hl)
 have hp : Pls N'.length (packF [] (downR gone o.rs)) := ⟨p1, p2⟩
 have hmem : ∀ q, memR q (packF [] (downR gone o.rs)) ↔ memR (if q < g then q else q + widthF d) o.rs := fun q => by
  rw [p3]
  exact ⟨fun h => h.elim (fun h => absurd h (memR_nil _)) (d3 q).1, fun h => .inr ((d3 q).2 h)⟩
 have hpl : placesF o.rs = (placesF (packF [] (downR gone o.rs))).map (shQ g (widthF d)) := by
  refine sorted_ext (places_sorted c2.norm) ?_ fun q => ?_
  ·rw [List.pairwise_map]
   exact (places_sorted hp.norm).imp fun {x y} hxy => by unfold shQ; split <;> split <;> omega
  ·rw [mem_places, List.mem_map]
   constructor
   ·intro hq
    obtain ⟨s, hs, h2⟩ := hq
    have h3 := hdis s hs
    rcases h3 with h3 | h3
    ·exact ⟨q, mem_places.2 ((hmem q).2 (by rw [if_pos (by omega)]; exact ⟨s, hs, h2⟩)), by unfold shQ; rw [if_pos (by omega)]⟩
    ·exact ⟨q - widthF d, mem_places.2 ((hmem _).2 (by rw [if_neg (by omega), Int.sub_add_cancel]; exact ⟨s, hs, h2⟩)), by unfold shQ; rw [if_neg (by omega)]; omega⟩
   ·rintro ⟨p, hp2, rfl⟩
    have := (hmem p).1 (mem_places.1 hp2)
    unfold shQ
    exact this
 refine ⟨⟨⟨rfl, rfl, rfl, rfl, rfl, rfl, rfl⟩, ?_, ?_⟩, d1', d2, hp⟩
 ·unfold namesOf
  rw [if_neg (show ¬ ({ o with rs := packF [] (downR gone o.rs) } : GOp).kind = 1 from by show ¬ o.kind = 1; omega), if_neg (by omega)]
  show (placesF (packF [] (downR gone o.rs))).map _ = (placesF o.rs).map _
  rw [hpl, List.map_map]
  refine List.map_congr_left fun q hq => ?_
  have hq2 := hp.in (mem_places.1 hq)
  have := gap_get (D := blk d) (P := P) (Q := Q) q hq2.1
  rw [eN, eN', ← this]
  simp only [Function.comp]
  rw [eg, hb]
 ·refine ho.ranged hk ?_ hp (by omega)
  intro e
  obtain ⟨x, hx⟩ := List.exists_mem_of_ne_nil _ c1
  have hxm := c2.norm.mem x hx
  have h1 : memR x.lo o.rs := ⟨x, hx, by omega⟩
  have h2 := mem_places.2 h1
  rw [hpl, e] at h2
  cases h2
theorem step_st {d o : GOp} {N N' : List Nm} (hl : N'.length ≤ 1048576) {w : Int} (ho : Right w o) (hk : o.kind = 4) : StepE d o o N N' := by
 refine ⟨Same.refl o, ?_, ?_⟩
 ·have hr := ho.noRs (show o.kind ≠ 2 by omega)
  unfold namesOf
  rw [if_neg (by omega), if_neg (by omega), hr]; rfl
 ·have h1 := (check_st hk ho.w0).1 ho.ck
  exact ⟨(check_st hk (by omega)).2 h1, ho.kind⟩
end Go.Proofs.YtcjbjkbghgjmdaaGreatDoor
/- The loop of Erase, plain; what it makes is an order that can be put. -/
namespace Go.Proofs.YtcjbjkbghgjmdaaGreatDoor
open Go Go.GW
theorem stOf_w {d o : GOp} (h : stOf d o) : widthF o = 0 := wid_no (by have := h.1; omega)
theorem Er.sum {d : GOp} {N N' : List Nm} {l l' : List GOp} (h : Er d N N' l l') : sumO l' = sumO l := by
 induction h with
 | nil => rfl
 | skip h _ ih => simp only [sumO]; rw [stOf_w h, ih]; omega
 | keep _ hs _ _ _ _ ih => simp only [sumO]; rw [hs.width, ih]
theorem Er.subids {d : GOp} {N N' : List Nm} {l l' : List GOp} (h : Er d N N' l l') : (l'.map fun o => (o.c, o.n)).Sublist (l.map fun o => (o.c, o.n)) := by
 induction h with
 | nil => exact Sr
 | skip _ _ ih => exact ih.cons _
 | keep _ hs _ _ _ _ ih => simp only [List.map_cons, hs.c, hs.n]; exact ih.cons_cons _
theorem Er.tgt {d : GOp} {N N' : List Nm} {l l' : List GOp} (h : Er d N N' l l') : ∀ {P P' : List GOp}, (∀ p ∈ P, p.kind ≠ 4 → ¬ (p.c = d.c ∧ p.n = d.n) → ∃ q ∈ P', q.c = p.c ∧ q.n = p.n ∧ q.kind = p.kind) → TgtOk P l → TgtOk P' l' := by
 induction h with
 | nil => intro P P' _ _; trivial
 | skip h _ ih =>
  intro P P' hp ht
  refine ih (fun p hm hk hd => ?_) ht.2
  rcases List.mem_append.1 hm with hm | hm
  ·exact hp p hm hk hd
  ·rw [List.mem_singleton] at hm; subst hm; exact absurd h.1 hk
 | @keep N N' o o' l l' h hs _ _ _ _ ih =>
  intro P P' hp ht
  refine ⟨fun hk => ?_, ih (fun p hm hk hd => ?_) ht.2⟩
  ·have hk' : o.kind = 4 := by rw [← hs.kind]; exact hk
   obtain ⟨p, p1, p2, p3, p4⟩ := ht.1 hk'
   obtain ⟨q, q1, q2, q3, q4⟩ := hp p p1 p4 (fun hh => h ⟨hk', p2.symm.trans hh.1, p3.symm.trans hh.2⟩)
   exact ⟨q, q1, by rw [q2, p2, hs.tc], by rw [q3, p3, hs.tn], by rw [q4]; exact p4⟩
  ·rcases List.mem_append.1 hm with hm | hm
   ·obtain ⟨q, q1, q2⟩ := hp p hm hk hd
    exact ⟨q, List.mem_append_left _ q1, q2⟩
   ·rw [List.mem_singleton] at hm; subst hm
    exact ⟨o', List.mem_append_right _ (List.mem_singleton.2 rfl), hs.c, hs.n, hs.kind⟩
theorem Er.ctx {d : GOp} {N N' : List Nm} {l l' : List GOp} (h : Er d N N' l l') : CtxOk N'.length l' := by
 induction h with
 | nil => trivial
 | skip _ _ ih => exact ih
 | keep _ hs _ hw _ _ ih => exact ⟨hw, by rw [← hw.rowLen rfl]; exact ih⟩
theorem Er.ord {A B B' : List GOp} {d : GOp} (O : OrdOk (A ++ (d :: B))) (hd : d.kind ≠ 4) (h : Er d (insRow d (rowN [] A)) (rowN [] A) B B') : OrdOk (A ++ B') := by
 have c := O.ctx
 rw [CtxOk.append, Int.zero_add] at c
 have hl : ((rowN [] A).length : Int) = sumO A := by rw [rowN_len (w := 0) rfl c.1]; omega
 refine ⟨?_, ?_, ?_, ?_, ?_⟩
 ·rw [CtxOk.append, Int.zero_add, ← hl]; exact ⟨c.1, h.ctx⟩
 ·have := O.ids
  rw [List.map_append] at this ⊢
  exact this.sublist ((Sr).append (h.subids.cons _))
 ·intro o ho
  rcases List.mem_append.1 ho with ho | ho
  ·exact O.idr o (List.mem_append_left _ ho)
  ·obtain ⟨x, hx, hs⟩ := h.mem o ho
   rw [hs.c, hs.n]; exact O.idr x (List.mem_append_right _ (List.mem_cons_of_mem _ hx))
 ·have := O.tgt
  rw [TgtOk.append, List.nil_append] at this ⊢
  refine ⟨this.1, h.tgt (P := A ++ [d]) (fun p hm hk hx => ?_) this.2.2⟩
  rcases List.mem_append.1 hm with hm | hm
  ·exact ⟨p, hm, rfl, rfl, rfl⟩
  ·rw [List.mem_singleton] at hm; subst hm; exact absurd ⟨rfl, rfl⟩ hx
 ·have h1 := O.le
  rw [sumO_append] at h1 ⊢
  simp only [sumO] at h1
  have := wid_nn d
  rw [h.sum]; omega
/-- k of those behind the edit have been looked at. -/
structure ErS (A B : List GOp) (d : GOp) (k : Nat) (M : List GOp) (gone : List Rg) : Prop where
 le : k ≤ B.length
 ex : ∃ (N N' : List Nm) (g : Nat), N = rowN (insRow d (rowN [] A)) (B.take k) ∧ GoneI d N N' gone g ∧ N'.length ≤ N.length ∧ (∀ l l', Er d N N' l l' → Er d (insRow d (rowN [] A)) (rowN [] A) (B.take k ++ l) (M ++ l'))
 len : M.length ≤ k
theorem ErS.zero {A B : List GOp} {d : GOp} {gone : List Rg} (hc : CtxOk 0 (A ++ (d :: B))) (hg : gone = if d.kind = 1 then [⟨d.at_, d.at_ + widthF d⟩] else []) : ErS A B d 0 [] gone := by
 rw [CtxOk.append, Int.zero_add] at hc
 have hl : ((rowN [] A).length : Int) = sumO A := by rw [rowN_len (w := 0) rfl hc.1]; omega
 refine ⟨Nat.zero_le _, ⟨insRow d (rowN [] A), rowN [] A, if d.kind = 1 then d.at_.toNat else 0, ?_, ?_, ?_, fun l l' h => h⟩, Nat.le_refl _⟩
 ·rw [List.take_zero]; rfl
 ·by_cases hk : d.kind = 1
  ·have hi := hc.2.1.ins hk
   refine ⟨⟨(rowN [] A).take d.at_.toNat, (rowN [] A).drop d.at_.toNat, rfl, (List.take_append_drop _ _).symm, ?_⟩, ?_, ?_⟩
   ·rw [if_pos hk, List.length_take]; omega
   ·rw [hg, if_pos hk, if_pos hk, if_pos hk, show ((d.at_.toNat : Nat) : Int) = d.at_ from by omega]
   ·exact fun h => absurd hk h
  ·refine ⟨⟨[], rowN [] A, ?_, rfl, ?_⟩, ?_, ?_⟩
   ·rw [insRow_nil (wid_no hk), blk_nil (wid_no hk)]; rfl
   ·rw [if_neg hk]; rfl
   ·rw [hg, if_neg hk, if_neg hk]
   ·exact fun _ => if_neg hk
 ·have := hc.2.1.rowLen hl
  have := wid_nn d
  omega
/-- The next one. -/
theorem ErS.at_ {A B : List GOp} {d : GOp} {k : Nat} {M : List GOp} {gone : List Rg} (h : ErS A B d k M gone) (O : OrdOk (A ++ (d :: B))) (hd4 : d.kind ≠ 4) {o : GOp} (ho : B[k]? = some o) :
  (stOf d o → ErS A B d (k + 1) M gone) ∧
  (¬ stOf d o → o.kind = 1 → (0 ≤ countF gone ∧ countF gone ≤ 60000) ∧ Pls 60000 gone ∧ (0 ≤ o.at_ ∧ o.at_ ≤ 60000) ∧ ((0 < rankF o.at_ gone ∧ rankF o.at_ gone < countF gone → d.kind = 1) ∧ (¬ (0 < rankF o.at_ gone ∧ rankF o.at_ gone < countF gone) → ((0 ≤ rankF o.at_ gone ∧ rankF o.at_ gone ≤ o.at_) ∧ (thrF gone o.at_ (widthF o)).2 = 0 ∧ ErS A B d (k + 1) (M ++ [{ o with at_ := o.at_ - rankF o.at_ gone }]) (thrF gone o.at_ (widthF o)).1)))) ∧
  (¬ stOf d o → o.kind = 2 → Pls 60000 gone ∧ Pls 60000 o.rs ∧ (¬ meetF [] gone o.rs = [] → d.kind = 1) ∧ (meetF [] gone o.rs = [] → SortR 0 (downR gone o.rs) ∧ BelowR 60000 (downR gone o.rs) ∧ Pls 60000 (packF [] (downR gone o.rs)) ∧ ErS A B d (k + 1) (M ++ [{ o with rs := packF [] (downR gone o.rs) }]) gone)) ∧
  (¬ stOf d o → o.kind = 4 → ErS A B d (k + 1) (M ++ [o]) gone) ∧ (o.kind = 1 ∨ o.kind = 2 ∨ o.kind = 4) := by
 have hk : k < B.length := by
  rcases Nat.lt_or_ge k B.length with h | h
  ·exact h
  ·rw [List.getElem?_eq_none h] at ho; cases ho
 have hoe : B[k] = o := by rw [List.getElem?_eq_getElem hk] at ho; exact Option.some.inj ho
 obtain ⟨N, N', g, eN, G, hle, hcont⟩ := h.ex
 have hc := O.ctx
 have hsum := O.le
 rw [CtxOk.append, Int.zero_add] at hc
 obtain ⟨hcA, hcd, hcB⟩ := hc
 have hspB : B = B.take k ++ (o :: B.drop (k + 1)) := by rw [← hoe, ← List.drop_eq_getElem_cons hk, List.take_append_drop]
 have htk : B.take (k + 1) = B.take k ++ [o] := by rw [List.take_succ_eq_append_getElem hk, hoe]
 rw [hspB, CtxOk.append] at hcB
 obtain ⟨hcB1, hR, hcB2⟩ := hcB
 have hl0 : ((rowN [] A).length : Int) = sumO A := by rw [rowN_len (w := 0) rfl hcA]; omega
 have hl1 := hcd.rowLen hl0
 have hN : (N.length : Int) = sumO A + widthF d + sumO (B.take k) := by rw [eN, rowN_len hl1 hcB1]
 have hsB : sumO B = sumO (B.take k) + (widthF o + sumO (B.drop (k + 1))) := by
  conv => lhs; rw [hspB]
  rw [sumO_append]; rfl
 have hpos := sumO_nonneg hcB2
 rw [sumO_append] at hsum
 simp only [sumO] at hsum
 have hwo := hR.width
 have hd1 : d.kind = 1 → 1 ≤ widthF d := fun hk => (hcd.width.2.2.1 hk).1
 have hNw : (N.length : Int) ≤ 60000 := by omega
 have hrow : ∀ x : GOp, blk x = blk o → True := fun _ _ => trivial
 -- how the state goes on
 have hnext : ∀ o' gone' g', ¬ stOf d o → StepE d o o' N N' → GoneI d (insRow o N) (insRow o' N') gone' g' → ErS A B d (k + 1) (M ++ [o']) gone' := by
  intro o' gone' g' hns hs hg
  refine ⟨hk, ⟨insRow o N, insRow o' N', g', ?_, hg, ?_, ?_⟩, by rw [List.length_append]; have := h.len; simp; omega⟩
  ·rw [htk, rowN_append, eN]; rfl
  ·have := hg.len
   omega
  ·intro l l' hl
   rw [htk, List.append_assoc, List.append_assoc]
   exact hcont _ _ (.keep hns hs.same hs.names hs.right hg.gap hl)
 have hgp : Pls 60000 gone := by
  rw [G.gone]
  have hgl := G.len
  have hb := blk_w (wid_nn d)
  split
  ·rename_i hk1
   have := hd1 hk1
   exact ⟨⟨by dsimp only; omega, by dsimp only; omega, trivial⟩, fun r hr => by rw [List.mem_singleton] at hr; subst hr; dsimp only; omega⟩
  ·exact ⟨trivial, fun r hr => by cases hr⟩
 have hsame : ∀ o', insRow o N = N → insRow o' N' = N' → GoneI d (insRow o N) (insRow o' N') gone g := fun o' h1 h2 => by rw [h1, h2]; exact G
 refine ⟨fun hst => ?_, fun hns hk1 => ?_, fun hns hk2 => ?_, fun hns hk4 => ?_, hR.kind⟩
 ·refine ⟨hk, ⟨N, N', g, ?_, G, hle, ?_⟩, by have := h.len; omega⟩
  ·rw [htk, rowN_append, ← eN]
   exact (stOf_row hst N).symm
  ·intro l l' hl
   rw [htk, List.append_assoc]
   exact hcont _ _ (.skip hst hl)
 ·have hi := hR.ins hk1
  have hct := G.count
  refine ⟨⟨?_, ?_⟩, hgp, by omega, fun hin => ?_, fun hin => ?_⟩
  ·rw [hct]; have := wid_nn d; split <;> omega
  ·rw [hct]; have := hcd.width; split <;> omega
  ·rcases (show d.kind = 1 ∨ d.kind ≠ 1 from by omega) with hx | hx
   ·exact hx
   ·rw [hct, if_neg hx] at hin; omega
  ·obtain ⟨s1, s2, g', s3⟩ := step_ins hd1 (w := sumO A + widthF d + sumO (B.take k)) hN G hR hk1 hin (by omega)
   refine ⟨s2, ?_, hnext _ _ _ hns s1 s3⟩
   have hgp2 : Pls (sumO A + widthF d + sumO (B.take k)) gone := by
    have hgl := G.len
    have hb := blk_w (wid_nn d)
    refine ⟨hgp.norm, fun r hr => ?_⟩
    rw [G.gone] at hr
    split at hr
    ·rw [List.mem_singleton] at hr; subst hr; dsimp only; omega
    ·cases hr
   exact (thr_ok hgp2 (by omega) ⟨hi.1, hi.2.1⟩ hwo.1 (by omega)).1
 ·obtain ⟨c1, c2⟩ := hR.cov hk2 (by omega)
  refine ⟨hgp, ⟨c2.norm, c2.below.mono (by omega)⟩, fun hin => ?_, fun hin => ?_⟩
  ·rcases (show d.kind = 1 ∨ d.kind ≠ 1 from by omega) with hx | hx
   ·exact hx
   ·rw [G.gone, if_neg hx] at hin; exact absurd (meetF_nilA _) hin
  ·obtain ⟨s1, s2, s3, s4⟩ := step_hide hd1 (w := sumO A + widthF d + sumO (B.take k)) hN G hR hk2 hin (by omega)
   have hz : widthF o = 0 := wid_no (by omega)
   refine ⟨s2, s3.mono (by omega), ⟨s4.norm, s4.below.mono (by omega)⟩, hnext _ _ _ hns s1 (hsame _ (insRow_nil hz N) (insRow_nil (by unfold widthF; rw [if_neg (show ¬ o.kind = 1 by omega)]) N'))⟩
 ·have hz : widthF o = 0 := wid_no (by omega)
  exact hnext _ _ _ hns (step_st (by omega) hR hk4) (hsame _ (insRow_nil hz N) (insRow_nil hz N'))
theorem ErS.done {A B : List GOp} {d : GOp} {M : List GOp} {gone : List Rg} (h : ErS A B d B.length M gone) : Er d (insRow d (rowN [] A)) (rowN [] A) B M := by
 obtain ⟨N, N', g, eN, G, hle, hcont⟩ := h.ex
 have := hcont [] [] .nil
 rw [List.take_length, List.append_nil, List.append_nil] at this
 exact this
end Go.Proofs.YtcjbjkbghgjmdaaGreatDoor
/- Walks: Erase. -/
namespace Go.Proofs.YtcjbjkbghgjmdaaGreatDoor
open Go Go.GW
theorem ctx_mem : ∀ {w T : Int} {l : List GOp} {o : GOp}, CtxOk w l → o ∈ l → w + sumO l ≤ T → ∃ w', w' ≤ T ∧ Right w' o
 | w, T, x :: l, o, h, hm, ht => by
  have h2 := sumO_nonneg h.2
  have h3 := wid_nn x
  simp only [sumO] at ht
  rcases List.mem_cons.1 hm with rfl | hm
  ·exact ⟨w, by omega, h.1⟩
  ·exact ctx_mem h.2 hm (by omega)
theorem OrdOk.right {L : List GOp} (h : OrdOk L) {o : GOp} (ho : o ∈ L) : ∃ w', w' ≤ 60000 ∧ Right w' o := ctx_mem h.ctx ho (by have := h.le; omega)
theorem ErS.one {A B : List GOp} {d : GOp} {k : Nat} {M : List GOp} {gone : List Rg} (h : ErS A B d k M gone) : gone.length ≤ 1 := by
 obtain ⟨N, N', g, _, G, _⟩ := h.ex
 rw [G.gone]; split <;> simp
theorem ErS.pls {A B : List GOp} {d : GOp} {k : Nat} {M : List GOp} {gone : List Rg} (h : ErS A B d k M gone) (hk : k < B.length) (O : OrdOk (A ++ (d :: B))) (hd : d.kind ≠ 4) : gone.length ≤ 4398046511104 := by have := h.one; omega
def ErRes (B : List GOp) (A0 : List GOp) (d : GOp) (ps : List Part) : Value → List Part → List Fact → Prop := fun v Lo fs =>
 Lo = ps ∧ ((v = .tuple #[.slice none 0 0, .int .i64 23] ∧ d.kind = 1 ∧ B ≠ [] ∧ fs = []) ∨ ∃ (M : List GOp) (A' : Option Addr) (c' : Nat), v = .tuple #[.slice A' (A0 ++ M).length c', .int .i64 0] ∧ Er d (insRow d (rowN [] A0)) (rowN [] A0) B M ∧ fs = [RdF opD A' c' (A0 ++ M)])
theorem ErS.gpls {A B : List GOp} {d : GOp} {k : Nat} {M : List GOp} {gone : List Rg} (h : ErS A B d k M gone) (O : OrdOk (A ++ (d :: B))) (hd4 : d.kind ≠ 4) {o : GOp} (ho : B[k]? = some o) : Pls 60000 gone := by
 obtain ⟨N, N', g, eN, G, hle, hcont⟩ := h.ex
 have hc := O.ctx
 have hsum := O.le
 rw [CtxOk.append, Int.zero_add] at hc
 obtain ⟨hcA, hcd, hcB⟩ := hc
 have hl0 : ((rowN [] A).length : Int) = sumO A := by rw [rowN_len (w := 0) rfl hcA]; omega
 have hl1 := hcd.rowLen hl0
 have hk := h.le
 have hspB : B = B.take k ++ B.drop k := (List.take_append_drop _ _).symm
 rw [hspB, CtxOk.append] at hcB
 have hN : (N.length : Int) = sumO A + widthF d + sumO (B.take k) := by rw [eN, rowN_len hl1 hcB.1]
 have hsB : sumO B = sumO (B.take k) + sumO (B.drop k) := by
  conv => lhs; rw [hspB]
  rw [sumO_append]
 have hpos := sumO_nonneg hcB.2
 rw [sumO_append] at hsum
 simp only [sumO] at hsum
 have hd1 : d.kind = 1 → 1 ≤ widthF d := fun hk => (hcd.width.2.2.1 hk).1
 rw [G.gone]
 have hgl := G.len
 have hb := blk_w (wid_nn d)
 split
 ·rename_i hk1
  have := hd1 hk1
  exact ⟨⟨by dsimp only; omega, by dsimp only; omega, trivial⟩, fun r hr => by rw [List.mem_singleton] at hr; subst hr; dsimp only; omega⟩
 ·exact ⟨trivial, fun r hr => by cases hr⟩

set_option maxRecDepth 10000 in
theorem erase_p (h m cap : Nat) (A : Option Addr) (H : Hist) (L : List MR) (hr : HR H L) (i0 i1 : Int) (k : Nat) (hw : whereId H.ents i0 i1 = some k) (hk4 : ∀ e, H.ents[k]? = some e → e.op.kind ≠ 4) (hO : OrdOk H.ops) (A0 Bs : List GOp) (d : GOp) (hAB : H.ops = A0 ++ (d :: Bs)) (hA0 : A0.length = k) (hx : H.ops.length ≤ 1000000) : Sp Tryz.prog 12 [.pointer (some ⟨h, 0, none⟩), .agg #[.int .i64 i0, .int .i64 i1]] [hdP h A H.ops.length cap m H.total, mpP m L, mkP L] [barF, RdF opD A cap H.ops] (ErRes Bs A0 d [hdP h A H.ops.length cap m H.total, mpP m L, mkP L]) := by
 have hol := ops_len H
 have hlen := hr.len
 have hod : H.ops[k]? = some d := by rw [hAB, ← hA0, List.getElem?_append_right (Nat.le_refl _), Nat.sub_self]; rfl
 have hkl : k < H.ops.length := by rw [hAB, List.length_append, List.length_cons]; omega
 have hO' : OrdOk (A0 ++ (d :: Bs)) := hAB ▸ hO
 obtain ⟨hke, hic, hin⟩ := whereId_some hw
 have hde : H.ents[k].op = d := by have h1 := ops_at hke; rw [List.getElem?_eq_getElem hkl] at hod; exact h1.symm.trans (Option.some.inj hod)
 rw [hde] at hic hin
 have hd4 : d.kind ≠ 4 := fun h4 => hk4 _ (List.getElem?_eq_getElem hke) (by rw [hde]; exact h4)
 have hfit : ∀ x ∈ H.ops, Fit x := fun x hx => by obtain ⟨e, he, rfl⟩ := List.mem_map.1 hx; exact hr.fit e he
 have hmd : d ∈ H.ops := List.mem_of_getElem? hod
 obtain ⟨wd, hwd, hRd⟩ := hO.right hmd
 have hd0 := hRd.own (by omega)
 have hbl : H.ops.length - (k + 1) = Bs.length := by rw [hAB, List.length_append, List.length_cons]; omega
 have hdrop : H.ops.drop (k + 1) = Bs := by rw [hAB, ← hA0]; simp
 refine Sp.of (n := 104) ⟨_, Tryz.func12, rfl, rfl, rfl, rfl⟩ (Nat.le_of_ble_eq_true rfl) fun Ps As => WC_seq (WC_region (WL_main rfl (OW_box (cs := [_, _]) rfl rfl (by decide) fun b3 => Lq (q_assign rfl) (Lq (q_assign rfl) (WL_nil (thenN (WC_seq (WC_region (Lq (q_move rfl) (Lq (q_loadN (vs := [_, _]) Un37 rfl ti37 rfl own0 rfl rfl) (WL_main rfl (OW_call3 (edit_s h m cap A H L hr i0 i1 k hw hk4) (.cons rfl (.cons rfl (.nil))) (by decide) (.s (.z)) (.s (.z)) (.s (.z)) (memc M1 mem0) fun u1_2 Lo fs hres => ?_))))))))))))
 obtain ⟨hk, j0, xb, xA, xc, hj, rfl, rfl, rfl⟩ := hres
 refine Lq (q_move rfl) (Lq (q_extract (vs := [_, _]) rfl rfl) (Lq (q_extract (vs := [_, _]) rfl rfl) (Lq (q_assign rfl) (Lq (q_assign rfl) (WL_nil (thenN (WC_seq (WC_seq (WC_region (Lq (q_move rfl) (Lq (q_neq rfl rfl) (WL_nil (thenN (WC_false rfl rfl (WC_skip (thenN (WC_seq (WC_region (Lq (q_move rfl) ?_)))))))))))))))))))
 refine Lq (q_move rfl) (Lq (q_nil rfl) (Lq (q_field (o' := 0) Un76 rfl ti3 rfl rfl) (Lq (q_load1 (v := .int .i64 k) Un3 rfl rfl (ownS (ownS (ownI (mkP_mem hj)))) rfl) (WL_main rfl (OW_call3 (hops_o h m cap A H L hr k (by omega) hx) (.cons rfl (.cons rfl (.cons rfl (.nil)))) (by decide) (.z) (.z) (.z) (memc M1 mem0) fun u4_5 Lo fs hres => ?_)))))
 obtain ⟨v1, p1, css1, rfl, hr1, rfl, rfl⟩ := hres
 refine Lq (q_move rfl) (Lq (q_extract (vs := [_, _]) rfl rfl) (Lq (q_extract (vs := [_, _]) rfl rfl) (Lq (q_assign rfl) (Lq (q_assign rfl) (WL_nil (thenN (WC_fr [(8, _), (6, _), (5, _), (4, _), (3, _), (0, _)] (.cons rfl (.cons rfl (.cons rfl (.cons rfl (.cons rfl (.cons rfl (.nil _))))))) (WC_seq (WC_region (Lq (q_assign rfl) (WL_nil (thenN ?_))))))))))))
 refine WC_meet (α := Option Addr × Nat × List Rg)
  (fun (G, gc, gone) => [(0, .pointer (some ⟨h, 0, none⟩)), (3, .pointer (some ⟨b3, 0, none⟩)), (6, .pointer (some ⟨xb, 0, none⟩)), (8, v1), (10, .slice G gone.length gc)])
  (fun (G, gc, gone) => (p1 :: hdP h A H.ops.length cap m H.total :: mpP m L :: mkP L :: [(b3, cellsO [.int .i64 i0, .int .i64 i1] 37)] :: Ps))
  (fun (G, gc, gone) => (RdF rgD G gc gone :: RepsF opD (H.ops.take k) css1 :: barF :: RdF opD A cap H.ops :: As))
  (fun (G, gc, gone) => gone = if d.kind = 1 then [⟨d.at_, d.at_ + widthF d⟩] else []) ?_ ?_
 ·refine WC_seq (WC_elem (k := k) M2 hod (op_open _) fun b6 q6 y6 e6 => ?_)
  cases e6
  refine WC_draw _ _ [11] (.c 0 0 (.c 1 0 (.c 2 0 (.c 3 0 (.c 4 0 (.c 5 0 (.c 6 0 (.c 7 0 (.c 8 0 (.c 9 0 (.c 10 2 (.c 11 3 .nil)))))))))))) mixed (fun _ _ _ _ h => h) (Sk (Sk (Sk (Sk (Sk (Sr)))))) (fun _ h => h) (by kernel_rfl) (by decide) fun ws Z0 => Qe rfl (q_move rfl) (Qe rfl (q_nil rfl) (Qe rfl (q_field (o' := 0) Un67 rfl ti51 rfl rfl) (Qe rfl (q_load1 Un51 rfl rfl (ownS (own0)) rfl) (Qe rfl (q_move rfl) (Qe rfl (q_nil rfl) (Qe rfl (q_field (o' := 0) Un76 rfl ti3 rfl rfl) (Qe rfl (q_load1 (v := .int .i64 k) Un3 rfl rfl (ownS (ownS (ownS (ownI (mkP_mem hj))))) rfl) (Qe rfl (q_idxRd Un51 ti47 rfl rfl (by omega) (by omega)) ?_))))))))
  refine Qe rfl (q_loadFN (k := 0) (vs := [_, _, _, _, _, _, _, _, _]) Un47 rfl ti47 rfl M0 rfl rfl rfl) (WE_main rfl rfl (OW_alloc (cs := [_, _, _, _, _, _, _, _, _]) ti47 rfl (by decide) fun b11 => ?_))
  refine ⟨⟨(Sd (Sk (Sk (Sk (Sk (Sk (Sr))))))), M0⟩, ?_⟩
  refine WE_end (WF_last rfl rfl (OW_storeN (cs' := [_, _, _, _, _, _, _, _, _]) (vs := [_, _, _, _, _, _, _, _, _]) ti47 rfl rfl rfl rfl rfl (Nat.le_of_ble_eq_true rfl) (.z) (WF_nil (thenN (WC_seq (WC_fact (A := RdF rgD none 0 []) (fun Z w hs => RdS.nil _ _ _) (WC_region (Lq (q_field (o' := 0) Un47 rfl ti44 rfl rfl) (Lq (q_field (o' := 2) Un44 rfl ti42 rfl rfl) (Lq (q_load1 Un42 rfl rfl own0 rfl) (Lq (q_eql rfl rfl) (WL_nil (thenN ?_)))))))))))))
  refine WC_fr [(47, _), (11, _), (10, _), (8, _), (6, _), (5, _), (4, _), (3, _), (0, _)] (.cons rfl (.cons rfl (.cons rfl (.cons rfl (.cons rfl (.cons rfl (.cons rfl (.cons rfl (.cons rfl (.nil _)))))))))) (WC_cond rfl (fun h47 => ?_) (fun h47 => ?_))
  ·refine WC_region (Lq (q_loadN (vs := [_, _, _, _, _, _, _, _, _]) Un47 rfl ti47 rfl own0 rfl rfl) (WL_main rfl (OW_call0 (covers_p d y6.1 y6.2 (hfit _ hmd) (by simpa using h47) hd0) (.cons rfl (.nil)) (by decide) (memc M5 (memc M3 mem0)) fun u8_1 Lo fs hres => ?_)))
   obtain ⟨A2, c2, rfl, rfl, rfl⟩ := hres
   refine Lq (q_assign rfl) (WL_nil (thenK ?_))
   refine ⟨(A2, c2, [⟨d.at_, d.at_ + widthF d⟩]), ?_, (.cons rfl (.cons rfl (.cons rfl (.cons rfl (.cons rfl (.nil _)))))), (Sd (Sk (Sk (Sk (Sk (Sk (Sr))))))), (memc M0 T5)⟩
   exact (if_pos (by simpa using h47)).symm
  ·refine WC_skip (thenK ?_)
   refine ⟨(none, 0, []), ?_, (.cons rfl (.cons rfl (.cons rfl (.cons rfl (.cons rfl (.nil _)))))), (Sd (Sk (Sk (Sk (Sk (Sk (Sr))))))), (memc M0 T4)⟩
   exact (if_neg (by simpa using h47)).symm
 ·rintro ⟨G, gc, gone⟩ hM
  refine WC_seq (WC_seq ?_)
  have hE0 := ErS.zero (by exact hO'.ctx) hM
  refine WC_capLe M3 fun hcap hcap2 => ?_
  obtain ⟨Bc, hB⟩ : ∃ Bc, Bc = cutA A (k + 1) cap 9 := ⟨_, rfl⟩
  refine WC_fact (A := RdF opD Bc (cap - (k + 1)) Bs) (fun Z w hs => by rw [hB, ← hdrop]; have h1 := RdS.cut (lo := k + 1) (hi := H.ops.length) (m := cap) (hs.facts _ M3) (by omega) (by omega) (by omega) (Nat.le_refl _); rw [List.take_length] at h1; exact h1) (WC_draw _ _ [] (.c 0 0 (.c 1 0 (.c 2 0 (.c 3 0 (.c 4 0 (.c 5 0 (.c 6 0 (.c 7 0 (.c 8 0 (.c 9 0 (.c 10 0 (.c 11 0 .nil)))))))))))) mixed (fun _ _ _ _ h => h) (Sk (Sk (Sk (Sk (Sk (Sr)))))) (fun _ h => h) (by kernel_rfl) (by decide) fun ws Z0 => Qe rfl (q_move rfl) (Qe rfl (q_nil rfl) (Qe rfl (q_field (o' := 0) Un67 rfl ti51 rfl rfl) (Qe rfl (q_load1 Un51 rfl rfl (ownS (own0)) rfl) (Qe rfl (q_move rfl) (Qe rfl (q_nil rfl) ?_))))))
  refine Qe rfl (q_field (o' := 0) Un76 rfl ti3 rfl rfl) (Qe rfl (q_load1 (v := .int .i64 k) Un3 rfl rfl (ownS (ownS (ownS (ownI (mkP_mem hj))))) rfl) (Qe rfl (q_add rfl rfl (wr64 (by omega)) (c := ((k + 1 : Nat) : Int))) (Qe rfl (q_cutLo Un51 ti47 rfl rfl (by omega) (by omega)) (Qe rfl (q_len Un51 rfl) (Qe rfl (q_move rfl) (WE_end (WF_nil (thenN (WC_block ?_)))))))))
  have hA0e : H.ops.take k = A0 ++ [] := by rw [hAB, ← hA0]; simp
  rw [hA0e]
  refine WC_loopE (α := Nat × Value × Part × List (List Value) × List GOp × Option Addr × Nat × List Rg) (fun (j, v, p, css, M, G, gc, gone) => Bs.length - j)
   (fun (j, v, p, css, M, G, gc, gone) => [(0, .pointer (some ⟨h, 0, none⟩)), (3, .pointer (some ⟨b3, 0, none⟩)), (8, v), (10, .slice G gone.length gc), (59, .slice Bc Bs.length (cap - (k + 1))), (60, .int .i64 Bs.length), (61, .int .i64 j)])
   (fun (j, v, p, css, M, G, gc, gone) => (p :: hdP h A H.ops.length cap m H.total :: mpP m L :: mkP L :: [(b3, cellsO [.int .i64 i0, .int .i64 i1] 37)] :: Ps))
   (fun (j, v, p, css, M, G, gc, gone) => (RepsF opD (A0 ++ M) css :: RdF rgD G gc gone :: RdF opD Bc (cap - (k + 1)) Bs :: barF :: RdF opD A cap H.ops :: As))
   (fun (j, v, p, css, M, G, gc, gone) => ErS A0 Bs d j M gone ∧ Row 47 9 v (A0 ++ M).length css.flatten p)
   (0, v1, p1, css1, [], G, gc, gone) ?_ (.cons rfl (.cons rfl (.cons rfl (.cons rfl (.cons (by rw [hB, ← hbl]; rfl) (.cons (by rw [← hbl]; rfl) (.cons rfl (.nil _)))))))) (Sk (Sk (Sk (Sk (Sk (Sr)))))) (memc M3 (memc M2 (memc M1 T4))) ?_
  ·exact ⟨hE0, by rw [List.append_nil, hA0]; exact hr1⟩
  ·rintro ⟨j, v, p, css, M, G, gc, gone⟩ hI
   have hml := hI.1.len
   have hjl := hI.1.le
   have hal : (A0 ++ M).length = A0.length + M.length := List.length_append
   have hol2 : H.ops.length = A0.length + (Bs.length + 1) := by rw [hAB, List.length_append, List.length_cons]
   refine WC_seq (WC_region (Lq (q_lss rfl rfl) (WL_nil (thenN (WC_seq (WC_cond rfl (fun h62 => ?_) (fun h62 => ?_)))))))
   ·refine WC_skip (thenN (WC_seq (WC_block (WC_seq ?_))))
    try simp only [Bp, Bq] at *
    have hj2 : j < Bs.length := by omega
    obtain ⟨o, ho⟩ : ∃ o, Bs[j]? = some o := ⟨_, List.getElem?_eq_getElem hj2⟩
    have hmo : o ∈ H.ops := by rw [hAB]; exact List.mem_append_right _ (List.mem_cons_of_mem _ (List.mem_of_getElem? ho))
    obtain ⟨wo, hwo, hRo⟩ := hO.right hmo
    obtain ⟨e0, e1, e2, e4, ek⟩ := hI.1.at_ hO' hd4 ho
    refine WC_elem (k := j) M2 ho (op_open _) fun b11 q11 y11 e11 => ?_
    cases e11
    refine WC_region (Lq (q_idxRd Un51 ti47 rfl rfl (by omega) (by omega)) (Lq (q_loadFN (k := 0) (vs := [_, _, _, _, _, _, _, _, _]) Un47 rfl ti47 rfl M0 rfl rfl rfl) (WL_main rfl (OW_alloc (cs := [_, _, _, _, _, _, _, _, _]) ti47 rfl (by decide) fun b13 => WL_main rfl (OW_storeN (cs' := [_, _, _, _, _, _, _, _, _]) (vs := [_, _, _, _, _, _, _, _, _]) ti47 rfl rfl rfl rfl rfl (Nat.le_of_ble_eq_true rfl) (.z) (WL_nil (thenN ?_)))))))
    refine WC_meet (α := Unit)
     (fun _ => [(0, .pointer (some ⟨h, 0, none⟩)), (3, .pointer (some ⟨b3, 0, none⟩)), (8, v), (10, .slice G gone.length gc), (59, .slice (some ⟨b11, q11, none⟩) Bs.length (cap - (k + 1))), (60, .int .i64 Bs.length), (61, .int .i64 j), (13, .pointer (some ⟨b13, 0, none⟩))])
     (fun _ => ([(b13, cellsO (opC o y11.1 y11.2) 47)] :: p :: hdP h A H.ops.length cap m H.total :: mpP m L :: mkP L :: [(b3, cellsO [.int .i64 i0, .int .i64 i1] 37)] :: Ps))
     (fun _ => (RdF rgD y11.1 y11.2 o.rs :: RepsF opD (A0 ++ M) css :: RdF rgD G gc gone :: RdF opD (some ⟨b11, q11, none⟩) (cap - (k + 1)) Bs :: barF :: RdF opD A cap H.ops :: As))
     (fun _ => ¬ stOf d o) ?_ ?_
    ·refine WC_seq (WC_region (Lq (q_field (o' := 0) Un47 rfl ti44 rfl rfl) (Lq (q_field (o' := 2) Un44 rfl ti42 rfl rfl) (Lq (q_load1 Un42 rfl rfl own0 rfl) (Lq (q_eql rfl rfl) (Lq (q_move rfl) (WL_guard (t := 69) rfl (fun g69 => ?_) (fun g69 => ?_))))))))
     ·refine Lg rfl rfl rfl g69 (q_field (o' := 6) Un47 rfl ti37 rfl rfl) (Lg rfl rfl rfl g69 (q_loadN (vs := [_, _]) Un37 rfl ti37 rfl own0 rfl rfl) (Lg rfl rfl rfl g69 (q_loadN (vs := [_, _]) Un37 rfl ti37 rfl (ownS (ownS (ownS (ownS (ownS (own0)))))) rfl rfl) (Lg rfl rfl rfl g69 (q_aggeql rfl rfl (eq37 _ _ _ _)) (Lq (q_pickT rfl g69 rfl) (WL_nil (thenN (WC_cond rfl (fun h74 => ?_) (fun h74 => ?_))))))))
      ·refine WC_exit (thenExit (blockHit (thenN (WC_region (Lq (q_add rfl rfl (wr64 (by omega)) (c := ((j + 1 : Nat) : Int))) (Lq (q_move rfl) (WL_nil (thenK ?_))))))))
       try simp only [Bp, Bq] at *
       refine ⟨(j + 1, v, p, css, M, G, gc, gone), ?_, (.cons rfl (.cons rfl (.cons rfl (.cons rfl (.cons rfl (.cons rfl (.cons rfl (.nil _)))))))), (Sd (Sk (Sk (Sk (Sk (Sk (Sr))))))), T2⟩
       exact ⟨by show Bs.length - (j + 1) < Bs.length - j; omega, e0 ⟨g69, by rw [hic, hin]; exact h74⟩, hI.2⟩
      ·refine WC_skip (thenK ?_)
       try simp only [Bp, Bq] at *
       refine ⟨(), ?_, (.cons rfl (.cons rfl (.cons rfl (.cons rfl (.cons rfl (.cons rfl (.cons rfl (.cons rfl (.nil _))))))))), (Sk (Sk (Sk (Sk (Sk (Sk (Sr))))))), T1⟩
       exact fun ⟨s1, s2, s3⟩ => by first | exact absurd s1 g69 | (rw [hic, hin] at *; first | exact h74 ⟨s2, s3⟩ | exact h74 s2 s3 | exact (h74.elim (fun q => q s2) (fun q => q s3)))
     ·refine Ln rfl rfl rfl g69 (Ln rfl rfl rfl g69 (Ln rfl rfl rfl g69 (Ln rfl rfl rfl g69 (Lq (q_pickF rfl g69 rfl) (WL_nil (thenN (WC_false rfl rfl (WC_skip (thenK ?_)))))))))
      try simp only [Bp, Bq] at *
      refine ⟨(), ?_, (.cons rfl (.cons rfl (.cons rfl (.cons rfl (.cons rfl (.cons rfl (.cons rfl (.cons rfl (.nil _))))))))), (Sk (Sk (Sk (Sk (Sk (Sk (Sr))))))), T1⟩
      exact fun ⟨s1, s2, s3⟩ => by first | exact absurd s1 g69 | (rw [hic, hin] at *; first | exact h74 ⟨s2, s3⟩ | exact h74 s2 s3 | exact (h74.elim (fun q => q s2) (fun q => q s3)))
    ·rintro ⟨⟩ hns
     refine WC_meet2 (α := Nat × GOp × Option Addr × Nat)
      (fun (b14, o2, A2, c2) => [(0, .pointer (some ⟨h, 0, none⟩)), (3, .pointer (some ⟨b3, 0, none⟩)), (8, v), (10, .slice G gone.length gc), (59, .slice (some ⟨b11, q11, none⟩) Bs.length (cap - (k + 1))), (60, .int .i64 Bs.length), (61, .int .i64 j), (13, .pointer (some ⟨b13, 0, none⟩)), (14, .pointer (some ⟨b14, 0, none⟩))])
      (fun (b14, o2, A2, c2) => ([(b14, cellsO (opC o2 A2 c2) 47)] :: [(b13, cellsO (opC o y11.1 y11.2) 47)] :: p :: hdP h A H.ops.length cap m H.total :: mpP m L :: mkP L :: [(b3, cellsO [.int .i64 i0, .int .i64 i1] 37)] :: Ps))
      (fun (b14, o2, A2, c2) => (RdF rgD A2 c2 o2.rs :: RepsF opD (A0 ++ M) css :: RdF rgD G gc gone :: RdF opD (some ⟨b11, q11, none⟩) (cap - (k + 1)) Bs :: barF :: RdF opD A cap H.ops :: As))
      (fun (b14, o2, A2, c2) => (o.kind = 1 → (thrF gone o.at_ (widthF o)).2 = 0 ∧ ErS A0 Bs d (j + 1) (M ++ [o2]) (thrF gone o.at_ (widthF o)).1) ∧ (o.kind ≠ 1 → ErS A0 Bs d (j + 1) (M ++ [o2]) gone)) ?_ ?_
     ·have hg1 := hI.1.one
      rcases ek with hk1 | hk2 | hk4o
      ·have hrs := hRo.noRs (by omega)
       obtain ⟨q0, q1, q2, q3, q4⟩ := e1 hns hk1
       by_cases hin1 : 0 < rankF o.at_ gone ∧ rankF o.at_ gone < countF gone
       ·refine WC_region (Lq (q_loadN (vs := [_, _, _, _, _, _, _, _, _]) Un47 rfl ti47 rfl own0 rfl rfl) (WL_main rfl (OW_call0 (clone_o o y11.1 y11.2 (hfit _ hmo).rs) (.cons rfl (.nil)) (by decide) (memc M0 mem0) fun u13_1 Lo fs hres => ?_)))
        obtain ⟨A5, c5, p5, rfl, hr5, rfl, rfl⟩ := hres
        refine WL_fact (A := RepsF rgD o.rs (o.rs.map rgC)) (fun Z w _ => rgs_reps _ Z w) (WL_freeze (e := rgD) (css := o.rs.map rgC) hr5 (.z) rfl M0 fun A6 c6 e6 => ?_)
        obtain ⟨rfl, _, rfl⟩ := Value.slice.inj e6
        refine Lq (q_move rfl) (WL_main rfl (OW_call0 (wo_insE o A5 c5 G gc gone q1 hg1 hk1 q2 hin1) (.cons rfl (.cons rfl (.nil))) (by decide) (memc M4 mem0) fun u13_3 Lo fs hres => ?_))
        obtain ⟨rfl, rfl, rfl⟩ := hres
        refine Lq (q_move rfl) (Lq (q_extract (vs := [_, _]) rfl rfl) (Lq (q_extract (vs := [_, _]) rfl rfl) (WL_main rfl (OW_alloc (cs := [_, _, _, _, _, _, _, _, _]) ti47 rfl (by decide) fun b14 => WL_main rfl (OW_storeN (cs' := [_, _, _, _, _, _, _, _, _]) (vs := [_, _, _, _, _, _, _, _, _]) ti47 rfl rfl rfl rfl rfl (Nat.le_of_ble_eq_true rfl) (.z) (Lq (q_assign rfl) (WL_nil (thenN (WC_seq (WC_region (Lq (q_move rfl) (Lq (q_neq rfl rfl) (WL_nil (thenN (WC_true rfl rfl (WC_seq (WC_region ?_)))))))))))))))))
        refine Lq (q_move rfl) (Lq (q_assign rfl) (Lq (q_assign rfl) (WL_nil (thenN (WC_ret (thenRet (blockRet (thenRet (thenRet (blockRet (thenRet ?_)))))))))))
        refine ⟨_, [_, _, _], [], fun Z w hs => .tmp rfl (.tmp rfl (.nil)), ?_, fun Z w hs => hs.out (Sd (Sd (Sd (Sk (Sk (Sk (Sd (Sr)))))))) T6⟩
        exact ⟨rfl, .inl ⟨rfl, q3 hin1, List.ne_nil_of_length_pos (by omega), rfl⟩⟩
       ·refine WC_region (Lq (q_loadN (vs := [_, _, _, _, _, _, _, _, _]) Un47 rfl ti47 rfl own0 rfl rfl) (WL_main rfl (OW_call0 (clone_o o y11.1 y11.2 (hfit _ hmo).rs) (.cons rfl (.nil)) (by decide) (memc M0 mem0) fun u13_1 Lo fs hres => ?_)))
        obtain ⟨A5, c5, p5, rfl, hr5, rfl, rfl⟩ := hres
        refine WL_fact (A := RepsF rgD o.rs (o.rs.map rgC)) (fun Z w _ => rgs_reps _ Z w) (WL_freeze (e := rgD) (css := o.rs.map rgC) hr5 (.z) rfl M0 fun A6 c6 e6 => ?_)
        obtain ⟨rfl, _, rfl⟩ := Value.slice.inj e6
        refine Lq (q_move rfl) (WL_main rfl (OW_call0 (wo_ins o A5 c5 G gc gone q1 hg1 hk1 q2 hin1) (.cons rfl (.cons rfl (.nil))) (by decide) (memc M4 mem0) fun u13_3 Lo fs hres => ?_))
        obtain ⟨rfl, rfl, rfl⟩ := hres
        refine Lq (q_move rfl) (Lq (q_extract (vs := [_, _]) rfl rfl) (Lq (q_extract (vs := [_, _]) rfl rfl) (WL_main rfl (OW_alloc (cs := [_, _, _, _, _, _, _, _, _]) ti47 rfl (by decide) fun b14 => WL_main rfl (OW_storeN (cs' := [_, _, _, _, _, _, _, _, _]) (vs := [_, _, _, _, _, _, _, _, _]) ti47 rfl rfl rfl rfl rfl (Nat.le_of_ble_eq_true rfl) (.z) (Lq (q_assign rfl) (WL_nil (thenN (WC_seq (WC_region (Lq (q_move rfl) (Lq (q_neq rfl rfl) (WL_nil (thenN (WC_false rfl rfl (WC_skip (thenK ?_)))))))))))))))))
        refine ⟨(b14, { o with at_ := o.at_ - rankF o.at_ gone }, A5, c5), ?_, (.cons rfl (.cons rfl (.cons rfl (.cons rfl (.cons rfl (.cons rfl (.cons rfl (.cons rfl (.cons rfl (.nil _)))))))))), (Sk (Sk (Sk (Sk (Sk (Sk (Sk (Sr)))))))), (memc M0 T3)⟩
        exact ⟨fun _ => (q4 hin1).2, fun hne => absurd hk1 hne⟩
      ·have hrne := (hRo.cov hk2 (by omega)).1
       obtain ⟨q1, q2, q3, q4⟩ := e2 hns hk2
       by_cases hin1 : meetF [] gone o.rs = []
       ·refine WC_region (Lq (q_loadN (vs := [_, _, _, _, _, _, _, _, _]) Un47 rfl ti47 rfl own0 rfl rfl) (WL_main rfl (OW_call0 (clone_o o y11.1 y11.2 (hfit _ hmo).rs) (.cons rfl (.nil)) (by decide) (memc M0 mem0) fun u13_1 Lo fs hres => ?_)))
        obtain ⟨A5, c5, p5, rfl, hr5, rfl, rfl⟩ := hres
        obtain ⟨_, ⟨_, hz, _⟩ | ⟨b5, cap5, jk, e5, rfl, hc5, hl5, hm5⟩⟩ := hr5
        ·exact absurd (List.length_eq_zero_iff.1 hz) hrne
        obtain ⟨rfl, _, rfl⟩ := Value.slice.inj e5
        refine Lq (q_move rfl) (WL_main rfl (OW_call1 (wo_hide o G gc gone q1 hg1 b5 c5 jk q2 hc5 hl5 hm5 hk2 hin1 ⟨(q4 hin1).1, (q4 hin1).2.1⟩ hrne) (.cons rfl (.cons rfl (.nil))) (by decide) (.z) (memc M2 mem0) fun u13_3 Lo fs hres => ?_))
        obtain ⟨A7, c7, rfl, rfl, rfl⟩ := hres
        refine Lq (q_move rfl) (Lq (q_extract (vs := [_, _]) rfl rfl) (Lq (q_extract (vs := [_, _]) rfl rfl) (WL_main rfl (OW_alloc (cs := [_, _, _, _, _, _, _, _, _]) ti47 rfl (by decide) fun b14 => WL_main rfl (OW_storeN (cs' := [_, _, _, _, _, _, _, _, _]) (vs := [_, _, _, _, _, _, _, _, _]) ti47 rfl rfl rfl rfl rfl (Nat.le_of_ble_eq_true rfl) (.z) (Lq (q_assign rfl) (WL_nil (thenN (WC_seq (WC_region (Lq (q_move rfl) (Lq (q_neq rfl rfl) (WL_nil (thenN (WC_false rfl rfl (WC_skip (thenK ?_)))))))))))))))))
        refine ⟨(b14, { o with rs := packF [] (downR gone o.rs) }, A7, c7), ?_, (.cons rfl (.cons rfl (.cons rfl (.cons rfl (.cons rfl (.cons rfl (.cons rfl (.cons rfl (.cons rfl (.nil _)))))))))), (Sk (Sk (Sk (Sk (Sk (Sk (Sk (Sr)))))))), (memc M0 T2)⟩
        exact ⟨fun h1 => by omega, fun _ => (q4 hin1).2.2.2⟩
       ·refine WC_region (Lq (q_loadN (vs := [_, _, _, _, _, _, _, _, _]) Un47 rfl ti47 rfl own0 rfl rfl) (WL_main rfl (OW_call0 (clone_o o y11.1 y11.2 (hfit _ hmo).rs) (.cons rfl (.nil)) (by decide) (memc M0 mem0) fun u13_1 Lo fs hres => ?_)))
        obtain ⟨A5, c5, p5, rfl, hr5, rfl, rfl⟩ := hres
        obtain ⟨_, ⟨_, hz, _⟩ | ⟨b5, cap5, jk, e5, rfl, hc5, hl5, hm5⟩⟩ := hr5
        ·exact absurd (List.length_eq_zero_iff.1 hz) hrne
        obtain ⟨rfl, _, rfl⟩ := Value.slice.inj e5
        refine Lq (q_move rfl) (WL_main rfl (OW_call1 (wo_hideE o G gc gone q1 hg1 b5 c5 jk q2 hc5 hl5 hm5 hk2 hin1) (.cons rfl (.cons rfl (.nil))) (by decide) (.z) (memc M2 mem0) fun u13_3 Lo fs hres => ?_))
        obtain ⟨rfl, rfl, rfl⟩ := hres
        refine Lq (q_move rfl) (Lq (q_extract (vs := [_, _]) rfl rfl) (Lq (q_extract (vs := [_, _]) rfl rfl) (WL_main rfl (OW_alloc (cs := [_, _, _, _, _, _, _, _, _]) ti47 rfl (by decide) fun b14 => WL_main rfl (OW_storeN (cs' := [_, _, _, _, _, _, _, _, _]) (vs := [_, _, _, _, _, _, _, _, _]) ti47 rfl rfl rfl rfl rfl (Nat.le_of_ble_eq_true rfl) (.z) (Lq (q_assign rfl) (WL_nil (thenN (WC_seq (WC_region (Lq (q_move rfl) (Lq (q_neq rfl rfl) (WL_nil (thenN (WC_true rfl rfl (WC_seq (WC_region ?_)))))))))))))))))
        refine Lq (q_move rfl) (Lq (q_assign rfl) (Lq (q_assign rfl) (WL_nil (thenN (WC_ret (thenRet (blockRet (thenRet (thenRet (blockRet (thenRet ?_)))))))))))
        refine ⟨_, [_, _, _], [], fun Z w hs => .tmp rfl (.tmp rfl (.nil)), ?_, fun Z w hs => hs.out (Sd (Sd (Sd (Sk (Sk (Sk (Sd (Sr)))))))) T4⟩
        exact ⟨rfl, .inl ⟨rfl, q3 hin1, List.ne_nil_of_length_pos (by omega), rfl⟩⟩
      ·refine WC_region (Lq (q_loadN (vs := [_, _, _, _, _, _, _, _, _]) Un47 rfl ti47 rfl own0 rfl rfl) (WL_main rfl (OW_call0 (clone_o o y11.1 y11.2 (hfit _ hmo).rs) (.cons rfl (.nil)) (by decide) (memc M0 mem0) fun u13_1 Lo fs hres => ?_)))
       obtain ⟨A5, c5, p5, rfl, hr5, rfl, rfl⟩ := hres
       refine WL_fact (A := RepsF rgD o.rs (o.rs.map rgC)) (fun Z w _ => rgs_reps _ Z w) (WL_freeze (e := rgD) (css := o.rs.map rgC) hr5 (.z) rfl M0 fun A6 c6 e6 => ?_)
       obtain ⟨rfl, _, rfl⟩ := Value.slice.inj e6
       refine Lq (q_move rfl) (WL_main rfl (OW_call0 (wo_st o A5 c5 G gc gone (hI.1.gpls hO' hd4 ho) hg1 hk4o) (.cons rfl (.cons rfl (.nil))) (by decide) (memc M4 mem0) fun u13_3 Lo fs hres => ?_))
       obtain ⟨rfl, rfl, rfl⟩ := hres
       refine Lq (q_move rfl) (Lq (q_extract (vs := [_, _]) rfl rfl) (Lq (q_extract (vs := [_, _]) rfl rfl) (WL_main rfl (OW_alloc (cs := [_, _, _, _, _, _, _, _, _]) ti47 rfl (by decide) fun b14 => WL_main rfl (OW_storeN (cs' := [_, _, _, _, _, _, _, _, _]) (vs := [_, _, _, _, _, _, _, _, _]) ti47 rfl rfl rfl rfl rfl (Nat.le_of_ble_eq_true rfl) (.z) (Lq (q_assign rfl) (WL_nil (thenN (WC_seq (WC_region (Lq (q_move rfl) (Lq (q_neq rfl rfl) (WL_nil (thenN (WC_false rfl rfl (WC_skip (thenK ?_)))))))))))))))))
       refine ⟨(b14, o, A5, c5), ?_, (.cons rfl (.cons rfl (.cons rfl (.cons rfl (.cons rfl (.cons rfl (.cons rfl (.cons rfl (.cons rfl (.nil _)))))))))), (Sk (Sk (Sk (Sk (Sk (Sk (Sk (Sr)))))))), (memc M0 T3)⟩
       exact ⟨fun h1 => by omega, fun _ => e4 hns hk4o⟩
     ·rintro ⟨b14, o2, A2, c2⟩ ⟨hi1, hi2⟩
      refine WC_seq (WC_region (Lq (q_move rfl) (Lq (q_loadN (vs := [_, _, _, _, _, _, _, _, _]) Un47 rfl ti47 rfl own0 rfl rfl) (WL_main rfl (OW_slice1 (cs := [_, _, _, _, _, _, _, _, _]) Un51 ti47 (by decide) (by decide) rfl rfl rfl rfl (by decide) fun b87 => WL_main rfl (OW_append1 (news := [_, _, _, _, _, _, _, _, _]) Un51 ti47 rfl (by decide) rfl rfl hI.2 own0 rfl rfl (by omega) (by unfold maxLen; omega) (by decide) (DelAt.perm (.s (.s (.s (.z))))) fun v88 p88 hr88 => Lq (q_assign rfl) (WL_nil (thenN (WC_seq (WC_repsAdd (xs' := A0 ++ (M ++ [o2])) (u := o2) (cs := opC o2 A2 c2) M1 (fun Z w hs => ⟨A2, c2, rfl, hs.facts _ M0⟩) (List.append_assoc _ _ _).symm (WC_region (Lq (q_field (o' := 0) Un47 rfl ti44 rfl rfl) ?_))))))))))))
      refine Lq (q_field (o' := 2) Un44 rfl ti42 rfl rfl) (Lq (q_load1 Un42 rfl rfl (ownS (ownS (ownS (own0)))) rfl) (Lq (q_eql rfl rfl) (WL_nil (thenN (WC_cond rfl (fun h92 => ?_) (fun h92 => ?_))))))
      ·refine WC_draw _ _ [] (.c 0 0 (.c 1 0 (.c 2 0 (.c 3 0 (.c 4 2 (.c 5 2 (.c 6 0 (.c 7 0 (.c 8 0 (.c 9 0 .nil)))))))))) mixed (fun _ _ _ _ h => h) (Sk (Sk (Sk (Sk (Sk (Sk (Sk (Sk (Sr))))))))) (fun _ h => h) (by kernel_rfl) (by decide) fun ws Z0 => Qe rfl (q_move rfl) (Qe rfl (q_field (o' := 3) Un47 rfl ti3 rfl rfl) (Qe rfl (q_load1 Un3 rfl rfl (ownS (ownS (ownS (own0)))) rfl) (Qe rfl (q_loadN (vs := [_, _, _, _, _, _, _, _, _]) Un47 rfl ti47 rfl (ownS (ownS (ownS (own0)))) rfl rfl) ?_)))
       refine WE_main rfl rfl (OW_call0 (width_s o y11.1 y11.2 (by have := (hfit _ hmo).text; omega)) (.cons rfl (.nil)) (by decide) (memc M6 mem0) fun u18_4 Lo fs hres => ?_)
       obtain ⟨rfl, rfl, rfl⟩ := hres
       refine ⟨⟨(Sk (Sk (Sk (Sk (Sk (Sk (Sk (Sk (Sr))))))))), M0⟩, ?_⟩
       refine WE_main rfl rfl (OW_call0 (through_s G gc gone o.at_ (widthF o) (by have := hI.1.one; omega)) (.cons rfl (.cons rfl (.cons rfl (.nil)))) (by decide) (memc M4 mem0) fun u18_5 Lo fs hres => ?_)
       obtain ⟨A3, c3, rfl, rfl, rfl⟩ := hres
       refine ⟨⟨(Sk (Sk (Sk (Sk (Sk (Sk (Sk (Sk (Sr))))))))), M1⟩, ?_⟩
       refine Qe rfl (q_move rfl) (Qe rfl (q_extract (vs := [_, _]) rfl rfl) (Qe rfl (q_extract (vs := [_, _]) rfl rfl) (Qe rfl (q_assign rfl) (WE_end (WF_nil (blockN (thenN (WC_fr [(10, _), (100, _), (93, _), (99, _), (98, _), (97, _), (96, _), (95, _), (94, _), (92, _), (91, _), (90, _), (89, _), (8, _), (88, _), (87, _), (86, _), (85, _), (0, _), (3, _), (59, _), (60, _), (61, _), (13, _), (14, _)] (.cons rfl (.cons rfl (.cons rfl (.cons rfl (.cons rfl (.cons rfl (.cons rfl (.cons rfl (.cons rfl (.cons rfl (.cons rfl (.cons rfl (.cons rfl (.cons rfl (.cons rfl (.cons rfl (.cons rfl (.cons rfl (.cons rfl (.cons rfl (.cons rfl (.cons rfl (.cons rfl (.cons rfl (.cons rfl (.nil _)))))))))))))))))))))))))) (WC_region (Lq (q_add rfl rfl (wr64 (by omega)) (c := ((j + 1 : Nat) : Int))) (Lq (q_move rfl) ?_)))))))))))
       refine WL_nil (thenK ?_)
       refine ⟨(j + 1, v88, p88, css ++ [opC o2 A2 c2], M ++ [o2], A3, c3, (thrF gone o.at_ (widthF o)).1), ?_, (.cons rfl (.cons rfl (.cons rfl (.cons rfl (.cons rfl (.cons rfl (.cons rfl (.nil _)))))))), (Sk (Sd (Sd (Sd (Sk (Sk (Sk (Sk (Sr))))))))), (memc M2 (memc M0 T6))⟩
       exact ⟨by show Bs.length - (j + 1) < Bs.length - j; omega, (hi1 (by simpa using h92)).2, (by rw [← List.append_assoc, List.length_append, List.flatten_append, show [opC o2 A2 c2].flatten = opC o2 A2 c2 from by simp]; exact hr88)⟩
      ·refine WC_skip (blockN (thenN (WC_region (Lq (q_add rfl rfl (wr64 (by omega)) (c := ((j + 1 : Nat) : Int))) (Lq (q_move rfl) (WL_nil (thenK ?_)))))))
       refine ⟨(j + 1, v88, p88, css ++ [opC o2 A2 c2], M ++ [o2], G, gc, gone), ?_, (.cons rfl (.cons rfl (.cons rfl (.cons rfl (.cons rfl (.cons rfl (.cons rfl (.nil _)))))))), (Sk (Sd (Sd (Sd (Sk (Sk (Sk (Sk (Sr))))))))), (memc M0 T3)⟩
       exact ⟨by show Bs.length - (j + 1) < Bs.length - j; omega, hi2 (by simpa using h92), (by rw [← List.append_assoc, List.length_append, List.flatten_append, show [opC o2 A2 c2].flatten = opC o2 A2 c2 from by simp]; exact hr88)⟩
   ·refine WC_exit (thenExit (thenExit (blockHit (thenN (WC_seq ?_)))))
    try simp only [Bp, Bq] at *
    obtain rfl : j = Bs.length := by have := hI.1.le; omega
    refine WC_freeze (e := opD) hI.2 (.z) rfl M0 fun A9 c9 e9 => ?_
    subst e9
    refine WC_region (Lq (q_move rfl) (Lq (q_assign rfl) (Lq (q_assign rfl) (WL_nil (thenN (WC_ret ?_))))))
    refine ⟨_, [_, _, _], [_], fun Z w hs => .tmp rfl (.tmp rfl (.nil)), ?_, fun Z w hs => hs.out (Sk (Sk (Sk (Sd (Sr))))) (memc M0 T4)⟩
    exact ⟨rfl, .inr ⟨M, A9, c9, rfl, hI.1.done, rfl⟩⟩

end Go.Proofs.YtcjbjkbghgjmdaaGreatDoor
/- Erasing, plain: what the walk of HistoryErases asks. -/
namespace Go.Proofs.YtcjbjkbghgjmdaaGreatDoor
open Go Go.GW
/-! ### A history that has no edit is empty -/
theorem Made.edit {n : Nat} {H : Hist} {X : List Ce} (h : Made n H X) : n ≤ 1000 → n = 0 ∨ ∃ x ∈ kindsOf H.ents, x ≠ 2 := by
 induction h with
 | zero => exact fun _ => .inl rfl
 | @step n H X i o h g ih =>
  intro hn
  obtain ⟨h1, h2, h3⟩ := h.inv (by omega)
  obtain ⟨es, nw, eff, p⟩ := put_good h1 g
  have hks : kindsOf (putF H i o).1.ents = insAt (kindsOf H.ents) i (kindN o) := p.noted kindN (fun a b hs => by unfold kindN; rw [hs.kind]) h1 g
  refine .inr ?_
  have hm : ∀ x, x = kindN o ∨ x ∈ kindsOf H.ents → x ∈ kindsOf (putF H i o).1.ents := fun x hx => by
   rw [hks]; unfold insAt
   rw [List.mem_append, List.mem_cons]
   rcases hx with hx | hx
   ·exact .inr (.inl hx)
   ·rw [← List.take_append_drop i (kindsOf H.ents), List.mem_append] at hx
    exact hx.imp id .inr
  by_cases hk : o.kind = 4
  ·obtain ⟨k, hk1, hk2, e, he, hek⟩ := g.target hk
   refine ⟨kindN e.op, hm _ (.inr (List.mem_map.2 ⟨e, List.mem_of_getElem? he, rfl⟩)), ?_⟩
   unfold kindN; rw [if_neg hek]; split <;> decide
  ·refine ⟨kindN o, hm _ (.inl rfl), ?_⟩
   unfold kindN; rw [if_neg hk]; split <;> decide
theorem no_edits {N : Int} {n : Nat} {H : Hist} {X : List Ce} {nx : List Int} (hV : VI N n H X nx) (h : editsL ((idsOf H.ents).take H.ents.length) ((kindsOf H.ents).take H.ents.length) = []) : n = 0 ∧ H.ents.length = 0 ∧ X.length = 0 := by
 have hn : n = 0 := by
  rcases hV.made.edit (by have := hV.le; omega) with h0 | ⟨x, hx, hx2⟩
  ·exact h0
  ·exfalso
   obtain ⟨j, hj⟩ := List.mem_iff_getElem?.1 hx
   have hjl : j < H.ents.length := by
    rcases Nat.lt_or_ge j H.ents.length with h | h
    ·exact h
    ·rw [List.getElem?_eq_none (by unfold kindsOf; rw [List.length_map]; exact h)] at hj; cases hj
   have hi : (idsOf H.ents)[j]? = some (H.ents[j].op.c, H.ents[j].op.n) := by unfold idsOf; rw [List.getElem?_map, List.getElem?_eq_getElem hjl]; rfl
   have hz : (((idsOf H.ents).zip (kindsOf H.ents)))[j]? = some ((H.ents[j].op.c, H.ents[j].op.n), x) := List.getElem?_zip_eq_some.2 ⟨hi, hj⟩
   rw [List.take_of_length_le (by simp [idsOf]), List.take_of_length_le (by simp [kindsOf])] at h
   unfold editsL at h
   have hm := List.mem_filter (p := fun z : (Int × Int) × Int => !(z.2 == 2)) |>.2 ⟨List.mem_of_getElem? hz, (by simpa using hx2 : (!(x == 2)) = true)⟩
   have := List.mem_map_of_mem (f := (·.1)) hm
   rw [h] at this; cases this
 have hl := hV.len
 have ht := hV.total
 have hr := hV.rule.len
 exact ⟨hn, by omega, by omega⟩
def turnO (x tc tn : Int) (on : Bool) : GOp := { zeroOp with c := 8, n := x + 1, kind := 4, tc := tc, tn := tn, on := on }
theorem turn_step {N : Int} {n : Nat} {H : Hist} {X : List Ce} {nx : List Int} (hV : VI N n H X nx) (hN : N ≤ 1000) {j : Nat} {e1 : Ent} (hj : H.ents[j]? = some e1) (hk : e1.op.kind ≠ 4) {x : Int} (hx : nx[8]? = some x) :
  Good H n (turnO x e1.op.c e1.op.n e1.off) ∧ ∃ H2, Tk H X n n (turnO x e1.op.c e1.op.n e1.off) H2 (turnF e1 e1.off) ∧ H2.ents[j]? = some (offE e1 (!e1.off)) := by
 have hjl : j < H.ents.length := by
  rcases Nat.lt_or_ge j H.ents.length with h | h
  ·exact h
  ·rw [List.getElem?_eq_none h] at hj; cases hj
 have hje : H.ents[j] = e1 := by rw [List.getElem?_eq_getElem hjl] at hj; exact Option.some.inj hj
 have hx0 := hV.nx0 x (List.mem_of_getElem? hx)
 have hlen := hV.len
 have hfr : whereId H.ents 8 (x + 1) = none := hV.fresh (c := 8) hx (by omega) (by omega)
 have hg : Good H n (turnO x e1.op.c e1.op.n e1.off) := by
  have := good_status hV (Nat.le_refl n) hfr (by unfold rightF; simp; omega) hjl (by omega) (by rw [hje]; exact hk) e1.off
  rw [hje] at this; exact this
 obtain ⟨H2, eff, T⟩ := take_facts hV hg
 obtain ⟨es, nw, eff', p⟩ := put_good hV.hv hg
 have hst := p.status rfl
 have hwh : whereId H.ents e1.op.c e1.op.n = some j := by
  have := whereId_of hV.hv.ids hjl
  rwa [hje] at this
 have htd : turnedF H n (turnO x e1.op.c e1.op.n e1.off) = (H.ents.set j (offE e1 (!e1.off)), turnF e1 e1.off) := by
  unfold turnedF
  rw [List.drop_of_length_le (by omega)]
  show (if laterT [] e1.op.c e1.op.n = true then _ else match whereId H.ents e1.op.c e1.op.n with | none => _ | some k => _) = _
  rw [hwh]
  simp [laterT, hj, turnO]
 have hput := p.put
 rw [T.put] at hput
 have e1' : H2 = _ := congrArg (·.1) hput
 have e2' : eff = eff' := congrArg (·.2.1) hput
 have e3 : eff = turnF e1 e1.off := by rw [e2', hst.2.2, htd]
 subst e3
 refine ⟨hg, H2, T, ?_⟩
 rw [e1']
 show (newEnts n _ nw es _)[j]? = _
 unfold newEnts
 have hes : es = H.ents.set j (offE e1 (!e1.off)) := by rw [hst.1, htd]
 rw [hes, List.getElem?_append_left (by rw [List.length_take, List.length_set]; omega), List.getElem?_take, if_pos (by omega), List.getElem?_set_self hjl]
theorem turnF_k (e : Ent) (on : Bool) : (turnF e on).kind = 2 ∨ (turnF e on).kind = 3 := by unfold turnF; dsimp only; split <;> simp
theorem Er.last {d s : GOp} {N N' : List Nm} {l l' : List GOp} (h : Er d N N' l l') (hs : stOf d s) : Er d N N' (l ++ [s]) l' := by
 induction h with
 | nil => exact .skip hs .nil
 | skip h _ ih => exact .skip h ih
 | keep h hs' hn hw hg _ ih => exact .keep h hs' hn hw hg ih
def stN (d : GOp) (l : List GOp) : Nat := l.countP fun o => decide (stOf d o)
theorem stN_cons (d o : GOp) (l : List GOp) : stN d (o :: l) = stN d l + (if stOf d o then 1 else 0) := by
 unfold stN; rw [List.countP_cons]; simp only [decide_eq_true_eq]
theorem stN_append (d : GOp) (a b : List GOp) : stN d (a ++ b) = stN d a + stN d b := by unfold stN; rw [List.countP_append]
theorem Er.stN {d : GOp} {N N' : List Nm} {l l' : List GOp} (h : Er d N N' l l') : l'.length + stN d l = l.length := by
 induction h with
 | nil => rfl
 | skip h _ ih => rw [stN_cons, if_pos h, List.length_cons]; omega
 | keep h _ _ _ _ _ ih => rw [stN_cons, if_neg h, List.length_cons, List.length_cons]; omega
theorem Er.noSt {d : GOp} {N N' : List Nm} {l l' : List GOp} (h : Er d N N' l l') : ∀ o ∈ l', ¬ stOf d o := by
 induction h with
 | nil => intro o ho; cases ho
 | skip _ _ ih => exact ih
 | keep h hs _ _ _ _ ih =>
  intro x hx
  rcases List.mem_cons.1 hx with rfl | hx
  ·exact fun ⟨h1, h2, h3⟩ => h ⟨by rw [← hs.kind]; exact h1, by rw [← hs.tc]; exact h2, by rw [← hs.tn]; exact h3⟩
  ·exact ih x hx
theorem noTgt {w : Int} {o : GOp} (h : Right w o) (hk : o.kind ≠ 4) : o.tc = 0 ∧ o.tn = 0 := by
 have h1 := (h.head h.w0).2.2
 unfold extraF at h1
 simp only [Bool.or_eq_true, Bool.and_eq_true, decide_eq_true_eq, not_or, not_and] at h1
 have h2 := h1.2 hk
 constructor
 ·exact Classical.byContradiction fun h => h2.1.1 h
 ·exact Classical.byContradiction fun h => h2.1.2 h
theorem tgt_st {d o : GOp} {w : Int} (h : Right w o) (hd : 1 ≤ d.c) (h1 : o.tc = d.c) (h2 : o.tn = d.n) : stOf d o := by
 refine ⟨Classical.byContradiction fun hk => ?_, h1, h2⟩
 have := (noTgt h hk).1
 omega
/-- Ahead of the edit no command is about it. -/
theorem st_ahead {A B : List GOp} {d : GOp} (O : OrdOk (A ++ (d :: B))) : ∀ o ∈ A, ¬ stOf d o := by
 intro o ho ⟨h1, h2, h3⟩
 have ht := (TgtOk.append.1 O.tgt).1
 have key : ∀ {l P : List GOp}, TgtOk P l → o ∈ l → ∃ p, (p ∈ P ∨ p ∈ l) ∧ p.c = d.c ∧ p.n = d.n := by
  intro l
  induction l with
  | nil => intro P _ hm; cases hm
  | cons x l ih =>
   intro P ht hm
   rcases List.mem_cons.1 hm with rfl | hm
   ·obtain ⟨p, p1, p2, p3, _⟩ := ht.1 h1
    exact ⟨p, .inl p1, by rw [p2, h2], by rw [p3, h3]⟩
   ·obtain ⟨p, p1, p2⟩ := ih ht.2 hm
    rcases p1 with p1 | p1
    ·rcases List.mem_append.1 p1 with p1 | p1
     ·exact ⟨p, .inl p1, p2⟩
     ·exact ⟨p, .inr (by rw [List.mem_singleton.1 p1]; exact List.mem_cons_self), p2⟩
    ·exact ⟨p, .inr (List.mem_cons_of_mem _ p1), p2⟩
 obtain ⟨p, p1 | p1, p2, p3⟩ := key ht ho
 ·cases p1
 ·have hn := O.ids
  rw [List.map_append, List.nodup_append] at hn
  exact hn.2.2 _ (List.mem_map.2 ⟨p, p1, rfl⟩) _ (List.mem_map.2 ⟨d, List.mem_cons_self, rfl⟩) (by rw [p2, p3])
theorem stN_zero {d : GOp} {l : List GOp} (h : ∀ o ∈ l, ¬ stOf d o) : stN d l = 0 := by
 unfold stN; rw [List.countP_eq_zero]; intro o ho; simpa using h o ho
/-- What the statement's walk looks at, of each command of the shorter order. -/
theorem erase_ids {A B M : List GOp} {d : GOp} (O : OrdOk (A ++ (d :: B))) (hd4 : d.kind ≠ 4) (h : Er d (insRow d (rowN [] A)) (rowN [] A) B M) (hr : ∀ o ∈ A ++ M, ∃ w, Right w o) : ∀ o ∈ A ++ M, (o.c == d.c && o.n == d.n) = false ∧ (o.tc == d.c && o.tn == d.n) = false := by
 intro o ho
 have hdc := right_bd (O.idr d (List.mem_append_right _ List.mem_cons_self))
 constructor
 ·rw [← Bool.not_eq_true, Bool.and_eq_true, beq_iff_eq, beq_iff_eq]
  rintro ⟨h1, h2⟩
  have hn := O.ids
  rw [List.map_append, List.map_cons, List.nodup_append, List.nodup_cons] at hn
  rcases List.mem_append.1 ho with ho | ho
  ·exact hn.2.2 _ (List.mem_map.2 ⟨o, ho, rfl⟩) _ List.mem_cons_self (by rw [h1, h2])
  ·exact hn.2.1.1 (h.subids.subset (List.mem_map.2 ⟨o, ho, by rw [h1, h2]⟩))
 ·rw [← Bool.not_eq_true, Bool.and_eq_true, beq_iff_eq, beq_iff_eq]
  rintro ⟨h1, h2⟩
  obtain ⟨w, hw⟩ := hr o ho
  have hs := tgt_st hw hdc.1 h1 h2
  rcases List.mem_append.1 ho with ho | ho
  ·exact st_ahead O o ho hs
  ·exact h.noSt o ho hs
theorem ent_st {e : Ent} {d : GOp} {w : Int} (hR : Right w e.op) (hd : 1 ≤ d.c) : ((entE e).tc == d.c && (entE e).tn == d.n) = decide (stOf d e.op) := by
 unfold entE
 rw [Bool.eq_iff_iff, Bool.and_eq_true, beq_iff_eq, beq_iff_eq, decide_eq_true_eq]
 by_cases hk : e.op.kind = 4
 ·rw [if_pos hk]; dsimp only
  exact ⟨fun ⟨h1, h2⟩ => ⟨hk, h1, h2⟩, fun ⟨_, h1, h2⟩ => ⟨h1, h2⟩⟩
 ·rw [if_neg hk]; dsimp only
  exact ⟨fun ⟨h1, _⟩ => by omega, fun ⟨h1, _⟩ => absurd h1 hk⟩
theorem lastOff_st {d s : GOp} (hs : stOf d s) (hn : s.on = false) (l : List GOp) : lastOff d.c d.n false (l ++ [s]) = true := by
 rw [lastOff_append]
 simp only [lastOff]
 rw [if_pos ⟨hs.1, hs.2.1, hs.2.2⟩, hn]; rfl
/-- The law, as_ the statement's walk meets it. -/
theorem erase_vis {N : Int} {n : Nat} {H : Hist} {X : List Ce} {nx : List Int} (hV : VI N n H X nx) (hN : N ≤ 1000) {j : Nat} (hj : j < H.ents.length) {A B M : List GOp} {d : GOp} (hd : H.ents[j].op = d) (hk : d.kind ≠ 4) (hAB : H.ops = A ++ (d :: B)) (hE : Er d (insRow d (rowN [] A)) (rowN [] A) B M) {m : Nat} {Hu : Hist} {Xu : List Ce} {nxu : List Int} (hU : VI 1024 m Hu Xu nxu) (hu : Hu.ops = A ++ M) :
  visF Xu = visF (if H.ents[j].off = true then X else applyRow (turnF H.ents[j] false) X) := by
 have hl := hV.le
 have hlu := hU.le
 have ho := (hV.made.ci (by omega)).off _ (List.getElem_mem hj)
 rw [hd] at ho
 by_cases hf : H.ents[j].off = true
 ·rw [if_pos hf]
  exact erase_text hV.made (by omega) hU.made (by omega) hAB hu hE hk (by rw [← ho]; exact hf)
 ·rw [if_neg hf]
  have hff : H.ents[j].off = false := by simpa using hf
  obtain ⟨x, hx⟩ : ∃ x, nx[8]? = some x := ⟨_, List.getElem?_eq_getElem (by rw [hV.nxl]; decide)⟩
  obtain ⟨hg, H2, T, _⟩ := turn_step hV hN (List.getElem?_eq_getElem hj) (by rw [hd]; exact hk) hx
  have hm := Made.step hV.made hg
  have hop := hV.made.ops (by omega) hg
  rw [T.put, hff] at hm
  have hhl : H.ops.length = n := by rw [← hV.len]; simp [Hist.ops]
  rw [List.take_of_length_le (by omega), List.drop_eq_nil_of_le (by omega), carry_nil] at hop
  have hst : stOf d (turnO x H.ents[j].op.c H.ents[j].op.n H.ents[j].off) := by rw [hd]; exact ⟨rfl, rfl, rfl⟩
  rw [T.put] at hop
  dsimp only at hop
  refine erase_text hm (by omega) hU.made (by omega) (B := B ++ [turnO x H.ents[j].op.c H.ents[j].op.n H.ents[j].off]) ?_ hu (hE.last hst) hk ?_
  ·rw [hop, hAB, List.append_assoc]; rfl
  ·rw [hop]; exact lastOff_st hst hff _
/-- The edit turned off: what is applied. -/
theorem off_app {N : Int} {n : Nat} {H : Hist} {X : List Ce} {nx : List Int} (hV : VI N n H X nx) (hN : N ≤ 1000) {j : Nat} (hj : j < H.ents.length) (hk : H.ents[j].op.kind ≠ 4) (hff : H.ents[j].off = false) : EffOk (turnF H.ents[j] H.ents[j].off) X ∧ (turnF H.ents[j] H.ents[j].off).text.size ≤ 1024 ∧ (turnF H.ents[j] H.ents[j].off).rs.length ≤ 60001 ∧ (applyRow (turnF H.ents[j] H.ents[j].off) X).length ≤ 60000 := by
 obtain ⟨x, hx⟩ : ∃ x, nx[8]? = some x := ⟨_, List.getElem?_eq_getElem (by rw [hV.nxl]; decide)⟩
 obtain ⟨hg, H2, T, _⟩ := turn_step hV hN (List.getElem?_eq_getElem hj) hk hx
 have h0 : (turnO x H.ents[j].op.c H.ents[j].op.n H.ents[j].off).text.size = 0 := rfl
 have h1 := T.text
 have h2 := turnF_k H.ents[j] H.ents[j].off
 have hl := hV.le
 have hm := Made.step hV.made hg
 have hr := hV.rule.len
 obtain ⟨v2, r2, _⟩ := hm.inv (by omega)
 have hrl := r2.len
 rw [T.put] at hrl v2
 dsimp only at hrl v2
 refine ⟨T.app (by omega), by omega, T.rs, ?_⟩
 have h3 := T.tot
 have h4 := T.cb (n + 1)
 omega
/-- The first k of an order have come, one by one. -/
structure EuI (L : List GOp) (k : Nat) (H1 : Hist) (X1 : List Ce) (nx1 : List Int) (L1 : List MR) (t1 : Tr) : Prop where
 le : k ≤ L.length
 vi : VI 1024 k H1 X1 nx1
 ops : H1.ops = L.take k
 hr : HR H1 L1
 wt : Wf t1
 hX : t1.row = X1
end Go.Proofs.YtcjbjkbghgjmdaaGreatDoor
/- Walks: Runs. -/
namespace Go.Proofs.YtcjbjkbghgjmdaaGreatDoor
open Go Go.GW
theorem rune_open (u : Int) : ∀ Z w cs, runeD.rep Z w u cs → ∃ y : Unit, cs = [.int .i32 u] ∧ ∀ B ∈ ([] : List Fact), B.holds Z w := fun _ _ _ h => ⟨(), h, fun _ h => by cases h⟩

end Go.Proofs.YtcjbjkbghgjmdaaGreatDoor
/- Walks: rope.walk. -/
namespace Go.Proofs.YtcjbjkbghgjmdaaGreatDoor
open Go Go.GW
theorem WC_nodeT {P : Program} {n : Nat} {R : Post} {l : Fr} {Ps : List Part} {As : List Fact} {c : Code} {A : Option Addr} {t : Tr} (hA : TrF A t ∈ As) (ht : t ≠ .nil)
  (h : ∀ (b : Nat) (Al Ar Ac : Option Addr) (rs : List Int) (cc : Nat) (hid plus : Int), A = some ⟨b, 0, none⟩ → WC P n c R l Ps (FzA b 0 (ndC (allF t) Al Ar Ac rs cc hid plus) :: As)) : WC P n c R l Ps As := by
 cases t with
 | nil => exact absurd rfl ht
 | nd s lt rs hid rt plus =>
  intro Z w a hs ha
  obtain ⟨b, Al, Ar, Ac, cc, e, g1, g2, g3, g4, g5⟩ : trRep Z w (.nd s lt rs hid rt plus) A := hs.facts _ hA
  exact h b Al Ar Ac rs cc hid plus e Z w a (hs.addFact (A := FzA b 0 (ndC s Al Ar Ac rs cc hid plus)) ⟨g1, g2⟩) ha
theorem wf_pos {t : Tr} (hw : Wf t) (ht : t ≠ .nil) : 0 < t.row.length := by
 cases t with
 | nil => exact absurd rfl ht
 | nd s l rs hid r plus =>
  have h := List.length_pos_iff.2 hw.opened.ne
  simp only [Tr.row, up_length, List.length_append, cellsOf_length]; omega
end Go.Proofs.YtcjbjkbghgjmdaaGreatDoor
/- Walks: what Text calls. -/
namespace Go.Proofs.YtcjbjkbghgjmdaaGreatDoor
open Go Go.GW
set_option maxRecDepth 10000 in
theorem shown_s (s : Sm) : Sp Tryz.prog 72 [smV s] [] [] (Is (.int .i64 (shownF s))) := by
 refine Sp.of (n := 8) ⟨_, Tryz.func72, rfl, rfl, rfl, rfl⟩ (Nat.le_of_ble_eq_true rfl) fun Ps As => WC_seq (WC_region (WL_main rfl (OW_box (cs := [_, _, _, _, _, _]) rfl rfl (by decide) fun b1 => Lq (q_assign rfl) (WL_nil (thenN (WC_seq (WC_seq (WC_region (Lq (q_field (o' := 3) Un69 rfl ti3 rfl rfl) (Lq (q_load1 Un3 rfl rfl own0 rfl) (Lq (q_eql rfl rfl) (WL_nil (thenN (WC_cond rfl (fun h5 => ?_) (fun h5 => ?_)))))))))))))))
 ·refine WC_seq (WC_region (Lq (q_field (o' := 4) Un69 rfl ti3 rfl rfl) (Lq (q_load1 Un3 rfl rfl own0 rfl) (Lq (q_assign rfl) (WL_nil (thenN (WC_ret (thenRet ?_))))))))
  refine ⟨_, [], [], fun Z w hs => .tmp rfl (.nil), ?_, fun Z w hs => hs.out (Sd (Sr)) (fun _ h => h)⟩
  try simp only [Bp, Bq] at *
  exact ⟨congrArg (Value.int .i64) (by unfold shownF; first | rw [if_pos h5] | rw [if_neg h5]), rfl, rfl⟩
 ·refine WC_skip (thenN (WC_seq (WC_region (Lq (q_assign rfl) (WL_nil (thenN (WC_ret ?_)))))))
  refine ⟨_, [], [], fun Z w hs => .tmp rfl (.nil), ?_, fun Z w hs => hs.out (Sd (Sr)) (fun _ h => h)⟩
  try simp only [Bp, Bq] at *
  exact ⟨congrArg (Value.int .i64) (by unfold shownF; first | rw [if_pos h5] | rw [if_neg h5]), rfl, rfl⟩


set_option maxRecDepth 10000 in
theorem rshown_s (b : Nat) (A : Option Addr) (t : Tr) (wt : Wf t) : Sp Tryz.prog 39 [.pointer (some ⟨b, 0, none⟩)] [rpP b A] [TrF A t] (fun v Lo fs => v = .int .i64 (visN t.row : Nat) ∧ Lo = [rpP b A] ∧ fs = []) := by
 refine Sp.of (n := 9) ⟨_, Tryz.func39, rfl, rfl, rfl, rfl⟩ (Nat.le_of_ble_eq_true rfl) fun Ps As => WC_seq (WC_region (Lq (q_assign rfl) (WL_nil (thenN (WC_seq (WC_region (Lq (q_move rfl) (Lq (q_nil rfl) (Lq (q_field (o' := 0) Un72 rfl ti70 rfl rfl) (Lq (q_load1 Un70 rfl rfl own0 rfl) (WL_main rfl (OW_call0 (all_s A t) (.cons rfl (.nil)) (by decide) (memc M0 mem0) fun u1_4 Lo fs hres => ?_))))))))))))
 obtain ⟨rfl, rfl, rfl⟩ := hres
 refine WL_main rfl (OW_call0 (shown_s (allF t)) (.cons rfl (.nil)) (by decide) mem0 fun u1_5 Lo fs hres => ?_)
 obtain ⟨rfl, rfl, rfl⟩ := hres
 refine Lq (q_assign rfl) (WL_nil (thenN (WC_ret ?_)))
 refine ⟨_, [_], [], fun Z w hs => .tmp rfl (.nil), ?_, fun Z w hs => hs.out (Sk (Sr)) (fun _ h => h)⟩
 exact ⟨congrArg (Value.int .i64) wt.shown, rfl, rfl⟩

theorem fd112_0Xw53 (x0 : Int) (x1 : Int) (x2 : Int) (x3 : Int) (x4 : Int) (x5 : Int) (w : World) : (Instr.field 69 (.agg #[.int .i64 x0, .int .i64 x1, .int .i64 x2, .int .i64 x3, .int .i64 x4, .int .i64 x5]) 0).run Tryz.prog w = .ok (.int .i64 x0) w := by kernel_rfl

set_option maxRecDepth 10000 in
theorem totalOf_s (b : Nat) (A : Option Addr) (t : Tr) (wt : Wf t) (hb : t.row.length ≤ 1048576) (h0 : 0 < visN t.row) : Sp Tryz.prog 89 [.pointer (some ⟨b, 0, none⟩), .int .i64 0] [rpP b A] [TrF A t] (fun v Lo fs => ∃ k : Nat, Fst t.row k ∧ v = .tuple #[.int .i64 k, .int .i64 0] ∧ Lo = [rpP b A] ∧ fs = []) := by
 refine Sp.of (n := 73) ⟨_, Tryz.func89, rfl, rfl, rfl, rfl⟩ (Nat.le_of_ble_eq_true rfl) fun Ps As => WC_seq (WC_region (Lq (q_assign rfl) (Lq (q_assign rfl) (WL_nil (thenN (WC_seq (WC_seq (WC_region (Lq (q_move rfl) (Lq (q_lss rfl rfl) (Lq (q_move rfl) (Lg rfl rfl rfl rfl (q_move rfl) (Lg rfl rfl rfl rfl (q_move rfl) ?_)))))))))))))
 refine WL_gmain rfl rfl rfl rfl (OW_call1 (rshown_s b A t wt) (.cons rfl (.nil)) (by decide) (.z) (memc M0 mem0) fun u1_5 Lo fs hres => ?_)
 obtain ⟨rfl, rfl, rfl⟩ := hres
 refine Lg rfl rfl rfl rfl (q_gtr rfl rfl) (Lq (q_pickF rfl rfl rfl) (WL_nil (thenN (WC_false rfl (by simp) (WC_skip (thenN (WC_seq (WC_seq (WC_region (Lq (q_move rfl) (Lq (q_move rfl) (WL_main rfl (OW_call1 (rshown_s b A t wt) (.cons rfl (.nil)) (by decide) (.z) (memc M0 mem0) fun u3_2 Lo fs hres => ?_)))))))))))))
 obtain ⟨rfl, rfl, rfl⟩ := hres
 refine Lq (q_eql rfl rfl) (WL_nil (thenN (WC_false rfl (by simp; omega) (WC_skip (thenN (WC_seq (WC_region (Lq (q_assign rfl) (WL_nil (thenN (WC_seq (WC_region (Lq (q_move rfl) (Lq (q_nil rfl) (Lq (q_field (o' := 0) Un72 rfl ti70 rfl rfl) (Lq (q_load1 Un70 rfl rfl own0 rfl) ?_))))))))))))))))
 refine Lq (q_assign rfl) (WL_nil (thenN (WC_block ?_)))
 refine WC_loopE (α := Nat × Option Addr × Tr) (fun (k, D, z) => z.size)
  (fun (k, D, z) => [(0, .pointer (some ⟨b, 0, none⟩)), (1, .int .i64 0), (6, .int .i64 k), (7, .pointer D)])
  (fun (k, D, z) => (rpP b A :: Ps))
  (fun (k, D, z) => (TrF D z :: TrF A t :: As))
  (fun (k, D, z) => GoI t.row z k)
  (0, A, t) ?_ (.cons rfl (.cons rfl (.cons rfl (.cons rfl (.nil _))))) (Sk (Sr)) (memc M0 (fun _ h => h)) ?_
 ·exact GoI.zero wt h0
 ·rintro ⟨k, D, z⟩ hI
  have hbd := hI.bd
  refine WC_block (WC_seq (WC_region (Lq (q_move rfl) (WL_main rfl (OW_call0 (open_r D z hI.wf hI.ne (by omega)) (.cons rfl (.nil)) (by decide) (memc M0 mem0) fun u7_1 Lo fs hres => ?_)))))
  obtain ⟨B1, l1, s1, k1, C1, d1, D1, m1, rfl, rfl, rfl, wl1, wm1, n1, h1, r1, zl1, zm1⟩ := hres
  have e1 := congrArg List.length r1
  simp only [List.length_append, cellsOf_length] at e1
  have n1p := List.length_pos_iff.2 n1
  refine Lq (q_move rfl) (Lq (q_extract (vs := [_, _, _]) rfl rfl) (Lq (q_extract (vs := [_, _, _]) rfl rfl) (Lq (q_extract (vs := [_, _, _]) rfl rfl) (WL_main rfl (OW_alloc (cs := [_, _]) ti102 rfl (by decide) fun b9 => Lq (q_assign rfl) (WL_main rfl (OW_storeN (cs' := [_, _]) (vs := [_, _]) ti102 rfl rfl rfl rfl rfl (Nat.le_of_ble_eq_true rfl) (.z) (Lq (q_assign rfl) (WL_nil (thenN (WC_seq (WC_region (Lq (q_move rfl) ?_)))))))))))))
  refine WL_main rfl (OW_call0 (all_s B1 l1) (.cons rfl (.nil)) (by decide) (memc M0 mem0) fun u8_1 Lo fs hres => ?_)
  obtain ⟨rfl, rfl, rfl⟩ := hres
  refine WL_main rfl (OW_call0 (shown_s (allF l1)) (.cons rfl (.nil)) (by decide) mem0 fun u8_2 Lo fs hres => ?_)
  obtain ⟨rfl, rfl, rfl⟩ := hres
  rw [wl1.shown]
  refine Lq (q_assign rfl) (WL_nil (thenN (WC_seq (WC_seq (WC_region (Lq (q_move rfl) (Lq (q_move rfl) (Lq (q_lss rfl rfl) (WL_nil (thenN (WC_cond rfl (fun h41 => ?_) (fun h41 => ?_))))))))))))
  ·refine WC_seq (WC_region (Lq (q_move rfl) (Lq (q_assign rfl) (WL_nil (thenN (WC_exit (thenExit (blockHit (thenK ?_)))))))))
   refine ⟨(k, B1, l1), ?_, (.cons rfl (.cons rfl (.cons rfl (.cons rfl (.nil _))))), (Sd (Sk (Sr))), (memc M0 T4)⟩
   simp only [decide_eq_true_eq] at h41
   exact ⟨zl1, hI.left wl1 r1 (by omega)⟩
  ·have hz : visN l1.row = 0 := by simp only [decide_eq_false_iff_not] at h41; omega
   refine WC_skip (thenN (WC_seq (WC_region (Lq (q_move rfl) (Lq (q_move rfl) (Lq (q_sub rfl rfl (by rw [hz]; exact wr64 (by omega)) (c := 0)) (Lq (q_assign rfl) (WL_nil (thenN (WC_seq (WC_region (Lq (q_move rfl) (Lq (q_move rfl) (WL_main rfl (OW_call0 (all_s B1 l1) (.cons rfl (.nil)) (by decide) (memc M0 mem0) fun u12_2 Lo fs hres => ?_)))))))))))))))
   obtain ⟨rfl, rfl, rfl⟩ := hres
   refine Lq (q_part rfl (fd112_0Xw53 _ _ _ _ _ _)) (Lq (q_add rfl rfl (by rw [wl1.tot]; exact wr64 (by omega)) (c := ((k + l1.row.length : Nat) : Int))) (Lq (q_assign rfl) (WL_nil (thenN (WC_seq (WC_seq (WC_region (Lq (q_field (o' := 1) Un102 rfl ti3 rfl rfl) (Lq (q_load1 Un3 rfl rfl own0 rfl) (Lq (q_eql rfl rfl) (WL_nil (thenN (WC_cond rfl (fun h53 => ?_) (fun h53 => ?_))))))))))))))
   ·refine WC_seq (WC_seq (WC_region (Lq (q_move rfl) (Lq (q_field (o' := 0) Un102 rfl ti100 rfl rfl) (Lq (q_load1 Un100 rfl rfl own0 rfl) (Lq (q_len Un100 rfl) (Lq (q_lss rfl rfl) (WL_nil (thenN (WC_true rfl (by simp; omega) (WC_seq (WC_region (Lq (q_move rfl) ?_)))))))))))))
    refine Lq (q_move rfl) (Lq (q_add rfl rfl (wr64 (by omega)) (c := ((k + l1.row.length : Nat) : Int))) (Lq (q_assign rfl) (Lq (q_assign rfl) (WL_nil (thenN (WC_ret (thenRet (thenRet (blockRet (thenRet (blockRet ?_)))))))))))
    refine ⟨_, [_], [], fun Z w hs => .tmp rfl (.tmp rfl (.nil)), ?_, fun Z w hs => hs.out (Sd (Sk (Sr))) T4⟩
    have hg := hI.own r1 hz
    exact ⟨_, hg, rfl, rfl, rfl⟩
   ·refine WC_skip (thenN (WC_seq (WC_region (Lq (q_move rfl) (Lq (q_field (o' := 0) Un102 rfl ti100 rfl rfl) (Lq (q_load1 Un100 rfl rfl own0 rfl) (Lq (q_len Un100 rfl) (Lq (q_add rfl rfl (wr64 (by omega)) (c := ((k + l1.row.length + s1.length : Nat) : Int))) (Lq (q_assign rfl) (WL_nil (thenN (WC_region (Lq (q_move rfl) (Lq (q_assign rfl) ?_))))))))))))))
    refine WL_nil (blockN (thenK ?_))
    refine ⟨(k + l1.row.length + s1.length, D1, m1), ?_, (.cons rfl (.cons rfl (.cons rfl (.cons rfl (.nil _))))), (Sd (Sk (Sr))), (memc M2 T4)⟩
    have hk0 : k1 ≠ 0 := by simpa using h53
    have hg := hI.right wm1 r1 hz (cells_hid s1 hk0)
    rw [cellsOf_length] at hg
    exact ⟨zm1, hg⟩


set_option maxRecDepth 10000 in
theorem slice1_s (bB : Nat) (us : List Int) (ad : Option Addr) (v : Value) (p : Part) (had : ad = none ∨ ad = some ⟨bB, 0, none⟩) (hr : Row 5 1 v us.length (ints .u8 us) p) (hu : us.length ≤ 8388608) (x : Int) (rs : List Int) (A : Option Addr) (c : Nat) (hl : rs.length ≤ 2097152) : Sp Tryz.prog 69 [.int .i64 x, .slice A rs.length c, .pointer (some ⟨bB, 0, none⟩)] [blP bB ad v, p] [RdF runeD A c rs] (fun u Lo fs => u = .tuple #[] ∧ fs = [] ∧ ∃ ad' v' p', (ad' = none ∨ ad' = some ⟨bB, 0, none⟩) ∧ Row 5 1 v' (us ++ rs.flatMap encI).length (ints .u8 (us ++ rs.flatMap encI)) p' ∧ Lo = [blP bB ad' v', p']) := by
 refine Sp.of (n := 16) ⟨_, Tryz.func69, rfl, rfl, rfl, rfl⟩ (Nat.le_of_ble_eq_true rfl) fun Ps As => WC_seq (WC_region (Lq (q_move rfl) (Lq (q_len Un100 rfl) (Lq (q_move rfl) (WL_nil (thenN (WC_block ?_)))))))
 refine WC_loopE (α := Nat × Option Addr × Value × Part) (fun (k, ad5, v5, p5) => rs.length - k)
  (fun (k, ad5, v5, p5) => [(2, .pointer (some ⟨bB, 0, none⟩)), (7, .slice A rs.length c), (8, .int .i64 rs.length), (9, .int .i64 k)])
  (fun (k, ad5, v5, p5) => (blP bB ad5 v5 :: p5 :: Ps))
  (fun (k, ad5, v5, p5) => (RdF runeD A c rs :: As))
  (fun (k, ad5, v5, p5) => k ≤ rs.length ∧ (ad5 = none ∨ ad5 = some ⟨bB, 0, none⟩) ∧ Row 5 1 v5 (us ++ (rs.take k).flatMap encI).length (ints .u8 (us ++ (rs.take k).flatMap encI)) p5)
  (0, ad, v, p) ?_ (.cons rfl (.cons rfl (.cons rfl (.cons rfl (.nil _))))) (Sk (Sk (Sr))) (fun _ h => h) ?_
 ·refine ⟨Nat.zero_le _, had, ?_⟩
  rw [List.take_zero, List.flatMap_nil, List.append_nil]; exact hr
 ·rintro ⟨k, ad5, v5, p5⟩ hI
  have hle := hI.1
  have hlb : (us ++ (rs.take k).flatMap encI).length ≤ 1073741824 := by
   have h4 := flat_len4 (rs.take k)
   rw [List.length_take] at h4
   rw [List.length_append]; omega
  refine WC_seq (WC_region (Lq (q_lss rfl rfl) (WL_nil (thenN (WC_seq (WC_cond rfl (fun h10 => ?_) (fun h10 => ?_)))))))
  ·refine WC_skip (thenN (WC_seq (WC_block (WC_seq ?_))))
   try simp only [Bp, Bq] at *
   have hk : k < rs.length := by omega
   refine WC_elem (k := k) M0 (List.getElem?_eq_getElem hk) (rune_open _) fun bx qx yx ex => ?_
   cases ex
   refine WC_region (Lq (q_idxRd Un100 ti21 rfl rfl (by omega) (by omega)) (Lq (q_loadF1 (j := 0) Un21 rfl rfl M0 rfl rfl) (Lq (q_assign rfl) (WL_nil (thenN (WC_region (Lq (q_move rfl) (WL_main rfl (OW_call2 (bwrite_s bB ad5 v5 (us ++ (rs.take k).flatMap encI) p5 rs[k] hI.2.1 hI.2.2 hlb) (.cons rfl (.cons rfl (.nil))) (by decide) (.z) (.z) mem0 fun u3_1 Lo fs hres => ?_)))))))))
   obtain ⟨v6, p6, hr6, rfl, rfl⟩ := hres
   refine WL_nil (blockN (thenN (WC_region (Lq (q_add rfl rfl (wr64 (by omega)) (c := ((k + 1 : Nat) : Int))) (Lq (q_move rfl) (WL_nil (thenK ?_)))))))
   refine ⟨(k + 1, some ⟨bB, 0, none⟩, v6, p6), ?_, (.cons rfl (.cons rfl (.cons rfl (.cons rfl (.nil _))))), (Sk (Sk (Sr))), T1⟩
   refine ⟨by show rs.length - (k + 1) < rs.length - k; omega, by omega, .inr rfl, ?_⟩
   have e : us ++ (rs.take (k + 1)).flatMap encI = us ++ (rs.take k).flatMap encI ++ encI rs[k] := by rw [List.take_succ_eq_append_getElem hk, List.flatMap_append, List.append_assoc]; simp
   rw [e]; exact hr6
  ·refine WC_exit (thenExit (thenExit (blockHit ?_)))
   refine ⟨_, [_, _], [], fun Z w hs => .nil, ?_, fun Z w hs => hs.out (Sk (Sk (Sr))) (fun _ h => h)⟩
   simp only [decide_eq_false_iff_not] at h10
   obtain rfl : k = rs.length := by omega
   have hrow := hI.2.2
   rw [List.take_length] at hrow
   exact ⟨rfl, rfl, ad5, v5, p5, hI.2.1, hrow, rfl⟩

end Go.Proofs.YtcjbjkbghgjmdaaGreatDoor
/- Walks: rope.walk from a place on, and what between calls. -/
namespace Go.Proofs.YtcjbjkbghgjmdaaGreatDoor
open Go Go.GW
theorem WC_cutAll {α : Type} {e : De α} {P : Program} {n : Nat} {R : Post} {l : Fr} {Ps : List Part} {As : List Fact} {c : Code} {A : Option Addr} {cap : Nat} {xs : List α} (hA : RdF e A cap xs ∈ As) (h : WC P n c R l Ps (RdF e (cutA A 0 cap e.sz) cap xs :: As)) : WC P n c R l Ps As := by
 have := fun h' => WC_cutHi (P := P) (n := n) (R := R) (l := l) (Ps := Ps) (c := c) xs.length hA (Nat.le_refl _) h'
 rw [List.take_length] at this
 exact this h
def clT (bB : Nat) : Value := .func (.func 69) #[] #[.pointer (some ⟨bB, 0, none⟩)]
abbrev seP (bS bB : Nat) : Part := [(bS, cellsO [clT bB] 144)]
def txtL (bF bL bS bB : Nat) (F : Nat) (left : Int) (ad : Option Addr) (v : Value) (p : Part) : List Part := [hcP bF F, hcP bL left, seP bS bB, blP bB ad v, p]
structure TxS (bB : Nat) (us : List Int) (ad : Option Addr) (v : Value) (p : Part) : Prop where
 ad : ad = none ∨ ad = some ⟨bB, 0, none⟩
 row : Row 5 1 v us.length (ints .u8 us) p
/-- While Text walks: X is behind us. -/
def TxI (bF bL bS bB : Nat) (F : Nat) (R X : List Ce) (q : Part) : Prop := ∃ ad v p, TxS bB (vbs X) ad v p ∧ q = (txtL bF bL bS bB F ((visN R : Int) - visN X) ad v p).flatten
def TxJ (bF bL bS bB : Nat) (F : Nat) (R : List Ce) (q : Part) : Prop := ∃ left ad v p, TxS bB (vbs R) ad v p ∧ q = (txtL bF bL bS bB F left ad v p).flatten

set_option maxRecDepth 10000 in
theorem btw_h (bF bL bS bB F : Nat) (left : Int) (ad : Option Addr) (v : Value) (p : Part) (x : Int) (rs : List Int) (hid : Int) (A : Option Addr) (c : Nat) (hh : 0 < hid) : Sp Tryz.prog 91 [.int .i64 x, pcV rs hid A c, .pointer (some ⟨bF, 0, none⟩), .pointer (some ⟨bL, 0, none⟩), .pointer (some ⟨bS, 0, none⟩)] (txtL bF bL bS bB F left ad v p) [RdF runeD A c rs] (fun u Lo fs => u = .bool true ∧ fs = [] ∧ Lo = txtL bF bL bS bB F left ad v p) := by
 refine Sp.of (n := 39) ⟨_, Tryz.func91, rfl, rfl, rfl, rfl⟩ (Nat.le_of_ble_eq_true rfl) fun Ps As => WC_seq (WC_region (WL_main rfl (OW_box (cs := [_, _]) rfl rfl (by decide) fun b6 => Lq (q_assign rfl) (WL_nil (thenN (WC_seq (WC_seq (WC_region (Lq (q_field (o' := 1) Un102 rfl ti3 rfl rfl) (Lq (q_load1 Un3 rfl rfl own0 rfl) (Lq (q_gtr rfl rfl) (WL_nil (thenN (WC_true rfl (by simpa using hh) ?_))))))))))))))
 refine WC_seq (WC_region (Lq (q_assign rfl) (WL_nil (thenN (WC_ret (thenRet ?_))))))
 refine ⟨_, [_, _, _, _, _], [], fun Z w hs => .tmp rfl (.nil), ?_, fun Z w hs => hs.out (Sd (Sk (Sk (Sk (Sk (Sk (Sr))))))) (fun _ h => h)⟩
 exact ⟨rfl, rfl, rfl⟩


set_option maxRecDepth 10000 in
theorem btw_v (bF bL bS bB F : Nat) (left : Int) (us : List Int) (ad : Option Addr) (v : Value) (p : Part) (hs : TxS bB us ad v p) (hu : us.length ≤ 8388608) (x : Nat) (rs : List Int) (A : Option Addr) (c : Nat) (hF : F ≤ x) (hx : x ≤ 1048576) (hl : rs.length ≤ 1048576) (hl2 : (rs.length : Int) ≤ left) (hl3 : left ≤ 1048576) : Sp Tryz.prog 91 [.int .i64 x, pcV rs 0 A c, .pointer (some ⟨bF, 0, none⟩), .pointer (some ⟨bL, 0, none⟩), .pointer (some ⟨bS, 0, none⟩)] (txtL bF bL bS bB F left ad v p) [RdF runeD A c rs] (fun u Lo fs => u = .bool (decide (left - rs.length > 0)) ∧ fs = [] ∧ ∃ ad' v' p', TxS bB (us ++ rs.flatMap encI) ad' v' p' ∧ Lo = txtL bF bL bS bB F (left - rs.length) ad' v' p') := by
 refine Sp.of (n := 39) ⟨_, Tryz.func91, rfl, rfl, rfl, rfl⟩ (Nat.le_of_ble_eq_true rfl) fun Ps As => WC_seq (WC_region (WL_main rfl (OW_box (cs := [_, _]) rfl rfl (by decide) fun b6 => Lq (q_assign rfl) (WL_nil (thenN (WC_seq (WC_seq (WC_region (Lq (q_field (o' := 1) Un102 rfl ti3 rfl rfl) (Lq (q_load1 Un3 rfl rfl own0 rfl) (Lq (q_gtr rfl rfl) (WL_nil (thenN (WC_false rfl rfl (WC_skip (thenN (WC_seq (WC_region (Lq (q_load1 Un3 rfl rfl (ownS (own0)) rfl) ?_)))))))))))))))))))
 refine Lq (q_move rfl) (Lq (q_sub rfl rfl (wr64 (by omega))) (Lq (q_max rfl rfl) (Lq (q_assign rfl) (WL_nil (thenN (WC_seq (WC_cap M0 fun hcap => WC_cutLo 0 M0 (Nat.zero_le _) ?_)))))))
 have hm0 : max (0 : Int) ((F : Int) - x) = 0 := by omega
 refine WC_region (Lq (q_field (o' := 0) Un102 rfl ti100 rfl rfl) (Lq (q_load1 Un100 rfl rfl own0 rfl) (Lq (q_move rfl) (Lq (q_cutLoE (j := 0) (m := rs.length) (by omega) (by omega) Un100 ti21 rfl rfl (by omega) (by omega)) (Lq (q_assign rfl) (WL_nil (thenN (WC_seq (WC_cutAll M0 ?_)))))))))
 have hmn : min left (rs.length : Int) = rs.length := by omega
 refine WC_region (Lq (q_move rfl) (Lq (q_load1 Un3 rfl rfl (ownS (ownS (own0))) rfl) (Lq (q_move rfl) (Lq (q_len Un100 rfl) (Lq (q_min rfl rfl) (Lq (q_cutHiE (m := rs.length) (by omega) Un100 ti21 rfl rfl (by omega) (by omega)) (Lq (q_assign rfl) (WL_nil (thenN (WC_seq (WC_pick (.s (.s (.s (.s (.s (.z)))))) ?_)))))))))))
 refine WC_pick (.s (.s (.s (.s (.s (.z)))))) (WC_region (Lq (q_load1 Un144 rfl rfl (ownS (ownS (ownS (ownS (ownS (own0)))))) rfl) (Lq (q_move rfl) (Lq (q_move rfl) (Lq (q_add rfl rfl (wr64 (by omega))) (Lq (q_move rfl) (WL_main rfl (OW_callV (caps := [_]) rfl (slice1_s bB us ad v p hs.ad hs.row hu _ rs _ _ (by omega)) (.cons rfl (.cons rfl .nil)) (by decide) (List.Perm.refl _) (memc M0 mem0) fun u6 Lo fs hres => ?_))))))))
 obtain ⟨rfl, rfl, ad2, v2, p2, had2, hr2, rfl⟩ := hres
 refine WL_nil (thenN (WC_seq (WC_region (Lq (q_load1 Un3 rfl rfl (ownS (ownS (ownS (ownS (own0))))) rfl) (Lq (q_move rfl) (Lq (q_len Un100 rfl) (Lq (q_sub rfl rfl (wr64 (by omega))) (WL_main rfl (OW_store1 ti3 rfl rfl rfl (.z) (.s (.s (.s (.s (.z))))) (WL_nil (thenN (WC_seq (WC_region (Lq (q_load1 Un3 rfl rfl (ownS (ownS (ownS (ownS (own0))))) rfl) (Lq (q_gtr rfl rfl) (Lq (q_assign rfl) ?_))))))))))))))))
 refine WL_nil (thenN (WC_ret ?_))
 refine ⟨_, [_, _, _, _, _], [], fun Z w hs => .tmp rfl (.nil), ?_, fun Z w hs => (((((hs.pick (.s (.z))).pick (.s (.z))).pick (.s (.s (.s (.s (.s (.z))))))).pick (.s (.s (.s (.s (.s (.z))))))).pick (.s (.s (.s (.s (.s (.z))))))).out (Sk (Sk (Sk (Sk (Sk (Sd (Sr))))))) T2⟩
 exact ⟨rfl, rfl, ad2, v2, p2, ⟨had2, hr2⟩, rfl⟩

def CbF (fn : FuncId) (caps : List Value) (I : List Ce → Part → Prop) (J : Part → Prop) (R : List Ce) (lo : Nat) : Prop := ∀ (X : List Ce) (q : Part) (rs : List Int) (hid : Int) (A : Option Addr) (c : Nat), I X q → rs ≠ [] → 0 ≤ hid → X ++ cellsOf rs hid <+: R → lo < X.length + rs.length → Sp Tryz.prog fn ([.int .i64 X.length, pcV rs hid A c] ++ caps) [q] [RdF runeD A c rs] (fun v Lo fs => fs = [] ∧ ∃ q', Lo = [q'] ∧ ((v = .bool true ∧ I (X ++ cellsOf rs hid) q') ∨ (v = .bool false ∧ J q')))
def WkF (I : List Ce → Part → Prop) (J : Part → Prop) (X : List Ce) : Value → List Part → List Fact → Prop := fun v Lo fs => fs = [] ∧ ∃ q', Lo = [q'] ∧ ((v = .bool true ∧ I X q') ∨ (v = .bool false ∧ J q'))

set_option maxRecDepth 10000 in
theorem walkf_0 (fn : FuncId) (caps : List Value) (I : List Ce → Part → Prop) (J : Part → Prop) (X : List Ce) (q : Part) (x y : Int) (hI : I X q) : Sp Tryz.prog 90 [.pointer none, .int .i64 x, .int .i64 y, .func (.func fn) #[] caps.toArray] [q] [TrF none .nil] (WkF I J X) := by
 refine Sp.of (n := 66) ⟨_, Tryz.func90, rfl, rfl, rfl, rfl⟩ (Nat.le_of_ble_eq_true rfl) fun Ps As => WC_seq (WC_region (Lq (q_assign rfl) (WL_nil (thenN (WC_seq (WC_seq (WC_region (Lq (q_move rfl) (Lq (q_peql Un70 rfl rfl (by simp)) (Lq (q_move rfl) (Ln rfl rfl rfl rfl (Ln rfl rfl rfl rfl (Ln rfl rfl rfl rfl ?_)))))))))))))
 refine Ln rfl rfl rfl rfl (Ln rfl rfl rfl rfl (Ln rfl rfl rfl rfl (Ln rfl rfl rfl rfl (Ln rfl rfl rfl rfl (Ln rfl rfl rfl rfl (Lq (q_pickT rfl rfl rfl) (WL_nil (thenN (WC_fr [(25, _), (8, _), (0, _), (1, _), (2, _), (3, _)] (.cons rfl (.cons rfl (.cons rfl (.cons rfl (.cons rfl (.cons rfl (.nil _))))))) (WC_true rfl rfl (WC_seq (WC_region ?_))))))))))))
 refine Lq (q_assign rfl) (WL_nil (thenN (WC_ret (thenRet ?_))))
 refine ⟨_, [_], [], fun Z w hs => .tmp rfl (.nil), ?_, fun Z w hs => hs.out (Sk (Sr)) (fun _ h => h)⟩
 exact ⟨rfl, _, rfl, .inl ⟨rfl, hI⟩⟩

theorem fd112_0Xw54 (x0 : Int) (x1 : Int) (x2 : Int) (x3 : Int) (x4 : Int) (x5 : Int) (w : World) : (Instr.field 69 (.agg #[.int .i64 x0, .int .i64 x1, .int .i64 x2, .int .i64 x3, .int .i64 x4, .int .i64 x5]) 0).run Tryz.prog w = .ok (.int .i64 x0) w := by kernel_rfl

set_option maxRecDepth 10000 in
theorem walk_f (fn : FuncId) (caps : List Value) (I : List Ce → Part → Prop) (J : Part → Prop) (R : List Ce) (lo : Nat) (hR : R.length ≤ 1048576) (hlo : lo ≤ R.length) (hcb : CbF fn caps I J R lo) (hskip : ∀ X Y q, I X q → X ++ Y <+: R → (X ++ Y).length ≤ lo → I (X ++ Y) q) (N : Nat) : ∀ (A : Option Addr) (t : Tr) (X : List Ce) (q : Part) (wt : Wf t), t.size ≤ N → X ++ t.row <+: R → I X q → Sp Tryz.prog 90 [.pointer A, .int .i64 X.length, .int .i64 lo, .func (.func fn) #[] caps.toArray] [q] [TrF A t] (WkF I J (X ++ t.row)) := by
 induction N using Nat.strongRecOn
 rename_i N ih
 intro A t X q wt hN hpre hI
 by_cases nt : t = .nil
 ·subst nt
  have h0 := walkf_0 fn caps I J (X ++ []) q X.length lo (by rw [List.append_nil]; exact hI)
  refine ⟨h0.enters, fun Z w Ps As hs => ?_⟩
  obtain rfl : A = none := hs.facts _ (by simp : TrF A .nil ∈ [TrF A .nil] ++ As)
  exact h0.calls Z w Ps As hs
 have hpos := wf_pos wt nt
 have hpl := hpre.length_le
 rw [List.length_append] at hpl
 refine Sp.of (n := 66) ⟨_, Tryz.func90, rfl, rfl, rfl, rfl⟩ (Nat.le_of_ble_eq_true rfl) fun Ps As => WC_nodeT M0 nt fun b Al Ar Ac rs0 cc hid0 plus0 e => ?_
 cases e
 refine WC_seq (WC_region (Lq (q_assign rfl) (WL_nil (thenN (WC_seq (WC_seq (WC_region (Lq (q_move rfl) (Lq (q_peql Un70 rfl rfl (by simp)) (Lq (q_move rfl) (Lg rfl rfl rfl rfl (q_move rfl) (Lg rfl rfl rfl rfl (q_move rfl) (Lg rfl rfl rfl rfl (q_nil rfl) (Lg rfl rfl rfl rfl (q_field (o' := _ + 0) Un104 rfl ti69 rfl rfl) ?_))))))))))))))
 refine Lg rfl rfl rfl rfl (q_field (o' := _ + 0) Un69 rfl ti3 rfl rfl) (Lg rfl rfl rfl rfl (q_loadF1 (j := 0) Un3 rfl rfl M0 rfl rfl) (Lg rfl rfl rfl rfl (q_add rfl rfl (by rw [wt.tot]; exact wr64 (by omega)) (c := ((X.length + t.row.length : Nat) : Int))) (Lg rfl rfl rfl rfl (q_move rfl) (Lg rfl rfl rfl rfl (q_leq rfl rfl) (Lq (q_pickF rfl rfl rfl) (WL_nil (thenN (WC_cond rfl (fun h25 => ?_) (fun h25 => ?_)))))))))
 ·refine WC_seq (WC_region (Lq (q_assign rfl) (WL_nil (thenN (WC_ret (thenRet ?_))))))
  refine ⟨_, [_], [], fun Z w hs => .tmp rfl (.nil), ?_, fun Z w hs => hs.out (Sk (Sr)) T1⟩
  exact ⟨rfl, _, rfl, .inl ⟨rfl, hskip X t.row q hI hpre (by rw [List.length_append]; simp only [decide_eq_true_eq] at h25; omega)⟩⟩
 ·refine WC_skip (thenN (WC_seq (WC_region (Lq (q_move rfl) (WL_main rfl (OW_call0 (open_r (some ⟨b, 0, none⟩) t wt nt (by omega)) (.cons rfl (.nil)) (by decide) (memc M1 mem0) fun u3_1 Lo fs hres => ?_))))))
  obtain ⟨B1, l1, s1, k1, C1, d1, D1, m1, rfl, rfl, rfl, wl1, wm1, n1, h1, r1, zl1, zm1⟩ := hres
  have e1 := congrArg List.length r1
  simp only [List.length_append, cellsOf_length] at e1
  have n1p := List.length_pos_iff.2 n1
  have hp3 : X ++ l1.row ++ cellsOf s1 k1 ++ m1.row <+: R := by have := hpre; rw [r1, ← List.append_assoc, ← List.append_assoc] at this; exact this
  have hp2 : X ++ l1.row ++ cellsOf s1 k1 <+: R := (List.prefix_append _ _).trans hp3
  have hp1 : X ++ l1.row <+: R := (List.prefix_append _ _).trans hp2
  have eX1 : (X ++ l1.row).length = X.length + l1.row.length := List.length_append
  have eX2 : (X ++ l1.row ++ cellsOf s1 k1).length = X.length + l1.row.length + s1.length := by rw [List.length_append, eX1, cellsOf_length]
  refine Lq (q_move rfl) (Lq (q_extract (vs := [_, _, _]) rfl rfl) (Lq (q_extract (vs := [_, _, _]) rfl rfl) (Lq (q_extract (vs := [_, _, _]) rfl rfl) (WL_main rfl (OW_alloc (cs := [_, _]) ti102 rfl (by decide) fun b10 => Lq (q_assign rfl) (WL_main rfl (OW_storeN (cs' := [_, _]) (vs := [_, _]) ti102 rfl rfl rfl rfl rfl (Nat.le_of_ble_eq_true rfl) (.z) (Lq (q_assign rfl) (WL_nil (thenN (WC_seq (WC_seq (WC_pick (.s (.z)) ?_)))))))))))))
  refine WC_region (Lq (q_move rfl) (Lq (q_move rfl) (Lq (q_move rfl) (Lq (q_move rfl) (WL_main rfl (OW_callP (ih l1.size (by omega) B1 l1 X q wl1 (Nat.le_refl _) hp1 hI) (.cons rfl (.cons rfl (.cons rfl (.cons rfl .nil)))) (by decide) (List.Perm.refl _) (memc M0 mem0) fun u4 Lo fs hres => ?_))))))
  obtain ⟨rfl, q1, rfl, hv⟩ := hres
  rcases hv with ⟨rfl, hI1⟩ | ⟨rfl, hJ⟩
  ·refine Lq (q_not rfl) (WL_nil (thenN (WC_false rfl rfl (WC_skip (thenN (WC_seq (WC_region (Lq (q_move rfl) (Lq (q_move rfl) (WL_main rfl (OW_call0 (all_s B1 l1) (.cons rfl (.nil)) (by decide) (memc M0 mem0) fun u6_2 Lo fs hres => ?_)))))))))))
   obtain ⟨rfl, rfl, rfl⟩ := hres
   refine Lq (q_part rfl (fd112_0Xw54 _ _ _ _ _ _)) (Lq (q_add rfl rfl (by rw [wl1.tot, eX1]; exact wr64 (by omega)) (c := (((X ++ l1.row).length : Nat) : Int))) (Lq (q_assign rfl) (WL_nil (thenN (WC_seq (WC_seq (WC_pick (.z) (WC_region (Lq (q_move rfl) (Lq (q_field (o' := 0) Un102 rfl ti100 rfl rfl) (Lq (q_load1 Un100 rfl rfl (ownS (own0)) rfl) (Lq (q_len Un100 rfl) ?_))))))))))))
   refine Lq (q_add rfl rfl (by rw [eX1]; exact wr64 (by omega)) (c := ((X.length + l1.row.length + s1.length : Nat) : Int))) (Lq (q_move rfl) (Lq (q_gtr rfl rfl) (Lq (q_move rfl) (WL_guard (t := 50) rfl (fun g50 => ?_) (fun g50 => ?_)))))
   ·refine Lg rfl rfl rfl g50 (q_move rfl) (Lg rfl rfl rfl g50 (q_move rfl) (Lg rfl rfl rfl g50 (q_loadN (vs := [_, _]) Un102 rfl ti102 rfl (ownS (own0)) rfl rfl) (WL_gmain rfl rfl rfl g50 (OW_callV (caps := caps) rfl (hcb (X ++ l1.row) q1 s1 k1 C1 d1 hI1 n1 h1.1 hp2 (by simp only [decide_eq_true_eq] at g50; omega)) (.cons rfl (.cons rfl .nil)) (by decide) (List.Perm.refl _) (memc M1 mem0) fun u7 Lo fs hres => ?_))))
    obtain ⟨rfl, q2, rfl, hv⟩ := hres
    rcases hv with ⟨rfl, hI2⟩ | ⟨rfl, hJ⟩
    ·refine Lg rfl rfl rfl g50 (q_not rfl) (Lq (q_pickT rfl g50 rfl) (WL_nil (thenN (WC_fr [(56, _), (12, _), (11, _), (10, _), (8, _), (2, _), (3, _)] (.cons rfl (.cons rfl (.cons rfl (.cons rfl (.cons rfl (.cons rfl (.cons rfl (.nil _)))))))) (WC_false rfl rfl (WC_skip (thenN (WC_seq (WC_pick (.z) (WC_region (Lq (q_move rfl) (Lq (q_move rfl) (Lq (q_field (o' := 0) Un102 rfl ti100 rfl rfl) ?_)))))))))))))
     refine Lq (q_load1 Un100 rfl rfl (ownS (own0)) rfl) (Lq (q_len Un100 rfl) (Lq (q_add rfl rfl (by rw [eX1, eX2]; exact wr64 (by omega)) (c := (((X ++ l1.row ++ cellsOf s1 k1).length : Nat) : Int))) (Lq (q_move rfl) (Lq (q_move rfl) (WL_main rfl (OW_callP (ih m1.size (by omega) D1 m1 (X ++ l1.row ++ cellsOf s1 k1) q2 wm1 (Nat.le_refl _) hp3 hI2) (.cons rfl (.cons rfl (.cons rfl (.cons rfl (.nil))))) (by decide) (List.Perm.refl _) (memc M2 mem0) fun u9_8 Lo fs hres => ?_))))))
     obtain ⟨rfl, q3, rfl, hv3⟩ := hres
     refine Lq (q_assign rfl) (WL_nil (thenN (WC_ret ?_)))
     refine ⟨_, [_], [], fun Z w hs => .tmp rfl (.nil), ?_, fun Z w hs => hs.out (Sk (Sd (Sr))) T4⟩
     refine ⟨rfl, q3, rfl, ?_⟩
     rw [r1, ← List.append_assoc, ← List.append_assoc]; exact hv3
    ·refine Lg rfl rfl rfl g50 (q_not rfl) (Lq (q_pickT rfl g50 rfl) (WL_nil (thenN (WC_fr [(56, _), (12, _), (11, _), (10, _), (8, _), (2, _), (3, _)] (.cons rfl (.cons rfl (.cons rfl (.cons rfl (.cons rfl (.cons rfl (.cons rfl (.nil _)))))))) (WC_true rfl rfl (WC_seq (WC_region (Lq (q_assign rfl) (WL_nil (thenN (WC_ret (thenRet ?_))))))))))))
     refine ⟨_, [_], [], fun Z w hs => .tmp rfl (.nil), ?_, fun Z w hs => hs.out (Sk (Sd (Sr))) T4⟩
     exact ⟨rfl, _, rfl, .inr ⟨rfl, hJ⟩⟩
   ·refine Ln rfl rfl rfl g50 (Ln rfl rfl rfl g50 (Ln rfl rfl rfl g50 (Ln rfl rfl rfl g50 (Ln rfl rfl rfl g50 (Lq (q_pickF rfl g50 rfl) (WL_nil (thenN (WC_fr [(56, _), (12, _), (11, _), (10, _), (8, _), (2, _), (3, _)] (.cons rfl (.cons rfl (.cons rfl (.cons rfl (.cons rfl (.cons rfl (.cons rfl (.nil _)))))))) (WC_false rfl rfl (WC_skip (thenN (WC_seq ?_))))))))))))
    have hI2 := hskip (X ++ l1.row) (cellsOf s1 k1) q1 hI1 hp2 (by simp only [decide_eq_false_iff_not] at g50; omega)
    refine WC_pick (.z) (WC_region (Lq (q_move rfl) (Lq (q_move rfl) (Lq (q_field (o' := 0) Un102 rfl ti100 rfl rfl) (Lq (q_load1 Un100 rfl rfl (ownS (own0)) rfl) (Lq (q_len Un100 rfl) (Lq (q_add rfl rfl (by rw [eX1, eX2]; exact wr64 (by omega)) (c := (((X ++ l1.row ++ cellsOf s1 k1).length : Nat) : Int))) (Lq (q_move rfl) (Lq (q_move rfl) ?_)))))))))
    refine WL_main rfl (OW_callP (ih m1.size (by omega) D1 m1 (X ++ l1.row ++ cellsOf s1 k1) q1 wm1 (Nat.le_refl _) hp3 hI2) (.cons rfl (.cons rfl (.cons rfl (.cons rfl (.nil))))) (by decide) (List.Perm.refl _) (memc M2 mem0) fun u9_8 Lo fs hres => ?_)
    obtain ⟨rfl, q3, rfl, hv3⟩ := hres
    refine Lq (q_assign rfl) (WL_nil (thenN (WC_ret ?_)))
    refine ⟨_, [_], [], fun Z w hs => .tmp rfl (.nil), ?_, fun Z w hs => hs.out (Sk (Sd (Sr))) T4⟩
    refine ⟨rfl, q3, rfl, ?_⟩
    rw [r1, ← List.append_assoc, ← List.append_assoc]; exact hv3
  ·refine Lq (q_not rfl) (WL_nil (thenN (WC_true rfl rfl (WC_seq (WC_region (Lq (q_assign rfl) (WL_nil (thenN (WC_ret (thenRet ?_))))))))))
   refine ⟨_, [_], [], fun Z w hs => .tmp rfl (.nil), ?_, fun Z w hs => hs.out (Sk (Sd (Sr))) T4⟩
   exact ⟨rfl, _, rfl, .inr ⟨rfl, hJ⟩⟩

end Go.Proofs.YtcjbjkbghgjmdaaGreatDoor
/- Walks: Text. -/
namespace Go.Proofs.YtcjbjkbghgjmdaaGreatDoor
open Go Go.GW
theorem vbs_ne {X : List Ce} (h : 0 < visN X) : vbs X ≠ [] := fun e => by
 unfold vbs at e
 rw [← visF_length] at h
 obtain ⟨r, rs, hr⟩ := List.exists_cons_of_ne_nil (List.length_pos_iff.1 h)
 rw [hr, List.flatMap_cons] at e
 have := encI_len r
 have e2 := (List.append_eq_nil_iff.1 e).1
 rw [e2] at this
 simp at this
theorem txCb (bF bL bS bB F : Nat) (R : List Ce) (hF : Fst R F) (hR : R.length ≤ 1048576) : CbF 91 [.pointer (some ⟨bF, 0, none⟩), .pointer (some ⟨bL, 0, none⟩), .pointer (some ⟨bS, 0, none⟩)] (TxI bF bL bS bB F R) (TxJ bF bL bS bB F R) R F := by
 rintro X q rs hid A c ⟨ad, v, p, hs, rfl⟩ hne hh hp hlo
 have hpl := hp.length_le
 rw [List.length_append, cellsOf_length] at hpl
 rcases Int.lt_or_eq_of_le hh with h | h
 ·refine (btw_h bF bL bS bB F ((visN R : Int) - visN X) ad v p X.length rs hid A c h).flat.mono ?_
  rintro u Lo fs ⟨Lo', ⟨rfl, rfl, rfl⟩, rfl⟩
  have hz := cells_hid rs (show hid ≠ 0 by omega)
  refine ⟨rfl, _, rfl, .inl ⟨rfl, ad, v, p, ?_, ?_⟩⟩
  ·have e : vbs (X ++ cellsOf rs hid) = vbs X := by rw [vbs_append]; unfold vbs; rw [visF_hid hz]; simp
   rw [e]; exact hs
  ·rw [visN_append, visN_hid hz, Nat.add_zero]
 ·subst h
  have hx := hF.vis hne hp
  have hv : visN (X ++ cellsOf rs 0) = visN X + rs.length := by rw [visN_append, ← visF_length (cellsOf rs 0), visF_cells]
  have hvp := visN_pre hp
  have hvR := visN_le R
  have hbl := vbs_len X
  refine (btw_v bF bL bS bB F ((visN R : Int) - visN X) (vbs X) ad v p hs (by omega) X.length rs A c hx (by omega) (by omega) (by omega) (by omega)).flat.mono ?_
  rintro u Lo fs ⟨Lo', ⟨rfl, rfl, ad', v', p', hs', rfl⟩, rfl⟩
  have e : vbs (X ++ cellsOf rs 0) = vbs X ++ rs.flatMap encI := by rw [vbs_append]; unfold vbs; rw [visF_cells]
  refine ⟨rfl, _, rfl, ?_⟩
  by_cases hl : (visN R : Int) - visN X - rs.length > 0
  ·refine .inl ⟨by rw [decide_eq_true hl], ad', v', p', by rw [e]; exact hs', ?_⟩
   rw [hv, show (visN R : Int) - ((visN X + rs.length : Nat) : Int) = (visN R : Int) - visN X - rs.length from by omega]
  ·refine .inr ⟨by rw [decide_eq_false hl], _, ad', v', p', ?_, rfl⟩
   have e2 : vbs R = vbs (X ++ cellsOf rs 0) := by unfold vbs; rw [visF_full hp (by omega)]
   rw [e2, e]; exact hs'
theorem txI_nil (bF bL bS bB F : Nat) (R : List Ce) : TxI bF bL bS bB F R [] (txtL bF bL bS bB F (visN R) none (.slice none 0 0) []).flatten :=
 ⟨none, _, [], ⟨.inl rfl, Row.nil _ _⟩, by rw [show visN [] = 0 from rfl]; simp⟩
theorem txSkip (bF bL bS bB F : Nat) (R : List Ce) (hF : Fst R F) : ∀ X Y q, TxI bF bL bS bB F R X q → X ++ Y <+: R → (X ++ Y).length ≤ F → TxI bF bL bS bB F R (X ++ Y) q := by
 rintro X Y q ⟨ad, v, p, hs, rfl⟩ hp hl
 have h1 := hF.skip hp hl
 have h2 := hF.skip ((List.prefix_append X Y).trans hp) (by rw [List.length_append] at hl; omega)
 refine ⟨ad, v, p, ?_, ?_⟩
 ·have e : vbs (X ++ Y) = vbs X := by unfold vbs; rw [h1, h2]
  rw [e]; exact hs
 ·have e : visN (X ++ Y) = visN X := by rw [← visF_length, ← visF_length, h1, h2]
  rw [e]
theorem q_sliceData0 {P : Program} {l : Fr} {Ps : List Part} {As : List Fact} {d : Option Tmp} {ty : TypeId} {pos : String} {aft : Array Edge} {g : Option (Nat × Bool)} {T : TypeId} {x : Operand} {m c : Nat} (hx : evs l x = some (.slice none m c)) : QR P l Ps As ⟨d, .call ⟨.builtin .unsafeSliceData, #[x], #[T]⟩, ty, pos, aft, g⟩ (.pointer none) := fun Z w ρ hs hρ => by
 simp only [execOp, resolve, invoke, List.map_toArray, List.map_cons, List.map_nil, hρ _ _ hx, Sem.run_bind, Sem.run_pure, Result.andThen_ok]
 show ((do pure (Next.value (← Builtin.unsafeSliceData_ #[T] ty #[.slice none m c])) : Sem Next)).run P w = _
 rw [Sem.run_bind, Lib.run_unsafeSliceData_nil]; rfl
theorem q_unsafeString0 {P : Program} {l : Fr} {Ps : List Part} {As : List Fact} {d : Option Tmp} {ty : TypeId} {pos : String} {aft : Array Edge} {g : Option (Nat × Bool)} {pt it : TypeId} {x y : Operand} {p : Option Addr} (hx : evs l x = some (.pointer p)) (hy : evs l y = some (.int .i64 0)) : QR P l Ps As ⟨d, .call ⟨.builtin .unsafeString, #[x, y], #[pt, it]⟩, ty, pos, aft, g⟩ (.string .empty) := fun Z w ρ hs hρ => by
 simp only [execOp, resolve, invoke, List.map_toArray, List.map_cons, List.map_nil, hρ _ _ hx, hρ _ _ hy, Sem.run_bind, Sem.run_pure, Result.andThen_ok]
 show ((do pure (Next.value (← Builtin.unsafeString_ #[pt, it] ty #[.pointer p, .int .i64 0])) : Sem Next)).run P w = _
 rw [Sem.run_bind, Lib.run_unsafeString_none]; rfl

set_option maxRecDepth 10000 in
theorem bstr_0 (b : Nat) (ad : Option Addr) : Sp Tryz.prog 71 [.pointer (some ⟨b, 0, none⟩)] [blP b ad (.slice none 0 0)] [] (fun u Lo fs => u = .string .empty ∧ Lo = [blP b ad (.slice none 0 0)] ∧ fs = []) := by
 refine Sp.of (n := 14) ⟨_, Tryz.func71, rfl, rfl, rfl, rfl⟩ (Nat.le_of_ble_eq_true rfl) fun Ps As => WC_seq (WC_region (Lq (q_assign rfl) (WL_nil (thenN (WC_seq (WC_draw _ _ [] (.c 0 0 (.c 1 0 (.c 2 0 (.c 3 0 (.c 4 0 (.c 5 0 (.c 6 0 (.c 7 0 (.c 8 0 (.c 9 0 (.c 10 2 (.c 11 0 .nil)))))))))))) mixed (fun _ _ _ _ h => h) (Sk (Sr)) (fun _ h => h) (by kernel_rfl) (by decide) fun ws Z0 => Qe rfl (q_move rfl) (Qe rfl (q_nil rfl) (Qe rfl (q_field (o' := 1) Un138 rfl ti136 rfl rfl) (Qe rfl (q_load1 Un136 rfl rfl own0 rfl) (Qe rfl (q_sliceData0 rfl) ?_))))))))))
 refine Qe rfl (q_move rfl) (Qe rfl (q_nil rfl) (Qe rfl (q_field (o' := 1) Un138 rfl ti136 rfl rfl) (Qe rfl (q_load1 Un136 rfl rfl own0 rfl) (Qe rfl (q_len Un136 rfl) (WE_main rfl rfl (OW_quiet (q_unsafeString0 rfl rfl) (by decide) ?_))))))
 refine ⟨⟨(Sk (Sr)), M0⟩, ?_⟩
 refine Qe rfl (q_assign rfl) (WE_end (WF_nil (thenN (WC_ret ?_))))
 refine ⟨_, [_], [], fun Z w hs => .tmp rfl (.nil), ?_, fun Z w hs => hs.out (Sk (Sr)) T1⟩
 exact ⟨rfl, rfl, rfl⟩


set_option maxRecDepth 10000 in
theorem between_0 (b bB : Nat) : Sp Tryz.prog 68 [.pointer (some ⟨b, 0, none⟩), .int .i64 0, .int .i64 0, clT bB] [] [] (Is (.tuple #[])) := by
 refine Sp.of (n := 30) ⟨_, Tryz.func68, rfl, rfl, rfl, rfl⟩ (Nat.le_of_ble_eq_true rfl) fun Ps As => WC_seq (WC_region (WL_main rfl (OW_box (cs := [_]) rfl rfl (by decide) fun b7 => WL_nil (thenN (WC_seq (WC_seq (WC_region (Lq (q_move rfl) (Lq (q_move rfl) (Lq (q_eql rfl rfl) (WL_nil (thenN (WC_true rfl rfl (WC_ret (thenRet ?_)))))))))))))))
 refine ⟨_, [], [], fun Z w hs => .nil, ?_, fun Z w hs => hs.out (Sd (Sr)) (fun _ h => h)⟩
 exact ⟨rfl, rfl, rfl⟩


set_option maxRecDepth 10000 in
theorem between_1 (b : Nat) (A : Option Addr) (t : Tr) (wt : Wf t) (hb : t.row.length ≤ 1048576) (h0 : 0 < visN t.row) (bB : Nat) : Sp Tryz.prog 68 [.pointer (some ⟨b, 0, none⟩), .int .i64 0, .int .i64 (visN t.row : Nat), clT bB] [rpP b A, blP bB none (.slice none 0 0), []] [TrF A t] (fun u Lo fs => u = .tuple #[] ∧ fs = [] ∧ ∃ q bF bL bS F left ad v p, TxS bB (vbs t.row) ad v p ∧ q = (txtL bF bL bS bB F left ad v p).flatten ∧ Lo = [rpP b A, q]) := by
 refine Sp.of (n := 30) ⟨_, Tryz.func68, rfl, rfl, rfl, rfl⟩ (Nat.le_of_ble_eq_true rfl) fun Ps As => WC_seq (WC_region (WL_main rfl (OW_box (cs := [_]) rfl rfl (by decide) fun b7 => WL_nil (thenN (WC_seq (WC_seq (WC_region (Lq (q_move rfl) (Lq (q_move rfl) (Lq (q_eql rfl rfl) (WL_nil (thenN (WC_false rfl (by simp; omega) (WC_skip (thenN (WC_seq (WC_region ?_)))))))))))))))))
 refine Lq (q_move rfl) (Lq (q_move rfl) (WL_main rfl (OW_call1 (totalOf_s b A t wt hb h0) (.cons rfl (.cons rfl (.nil))) (by decide) (.s (.z)) (memc M0 mem0) fun u2_2 Lo fs hres => ?_)))
 obtain ⟨F, hF, rfl, rfl, rfl⟩ := hres
 have hFle := hF.le
 have hvl := visN_le t.row
 refine Lq (q_move rfl) (Lq (q_extract (vs := [_, _]) rfl rfl) (Lq (q_extract (vs := [_, _]) rfl rfl) (WL_main rfl (OW_alloc (cs := [_]) ti3 rfl (by decide) fun b8 => WL_main rfl (OW_store1 ti3 rfl rfl rfl (.z) (.z) (Lq (q_assign rfl) (WL_nil (thenN (WC_seq (WC_region (Lq (q_move rfl) (Lq (q_move rfl) (Lq (q_sub rfl rfl (wr64 (by omega)) (c := ((visN t.row : Nat) : Int))) ?_)))))))))))))
 refine WL_main rfl (OW_alloc (cs := [_]) ti3 rfl (by decide) fun b10 => WL_main rfl (OW_store1 ti3 rfl rfl rfl (.z) (.z) (WL_nil (thenN (WC_pick (.s (.s (.s (.s (.s (.z)))))) (WC_pick (.s (.s (.s (.s (.s (.z)))))) (WC_pick (.s (.s (.s (.s (.s (.z)))))) (WC_pick (.s (.s (.s (.z)))) (WC_pick (.s (.s (.s (.s (.z))))) (WC_draw _ _ [] (.c 0 0 (.c 1 0 (.c 2 0 (.c 3 0 (.c 5 0 (.c 4 2 (.c 6 2 .nil))))))) mixed (fun _ _ _ _ h => h) (Sd (Sd (Sd (Sd (Sd (Sk (Sr))))))) (fun _ h => h) (by kernel_rfl) (by decide) fun ws Z0 => Qe rfl (q_move rfl) ?_))))))))))
 refine Qe rfl (q_nil rfl) (Qe rfl (q_field (o' := 0) Un72 rfl ti70 rfl rfl) (Qe rfl (q_load1 Un70 rfl rfl own0 rfl) (Qe rfl (q_func (.cons rfl (.cons rfl (.cons rfl (.nil))))) (WE_main rfl rfl (OW_quiet (q_load1 Un3 rfl rfl own0 rfl) (by decide) ?_)))))
 refine ⟨⟨(Sd (Sd (Sd (Sd (Sd (Sk (Sr))))))), M0⟩, ?_⟩
 refine WE_main rfl rfl (OW_callP (walk_f 91 _ _ _ t.row F hb hFle (txCb b8 b10 b7 bB F t.row hF hb) (txSkip b8 b10 b7 bB F t.row hF) t.size A t [] _ wt (Nat.le_refl _) (List.prefix_refl _) (txI_nil b8 b10 b7 bB F t.row)) (.cons rfl (.cons rfl (.cons rfl (.cons rfl .nil)))) (by decide) (List.Perm.refl _) (memc M1 mem0) fun u4 Lo fs hres => ?_)
 obtain ⟨rfl, q1, rfl, hv⟩ := hres
 refine ⟨⟨(Sd (Sd (Sk (Sr)))), M0⟩, ?_⟩
 refine WE_end (WF_nil ?_)
 refine ⟨_, [_, _], [], fun Z w hs => .nil, ?_, fun Z w hs => ((hs.pick (.z)).pick (.s (.s (.z)))).out (Sk (Sk (Sd (Sr)))) T1⟩
 refine ⟨rfl, rfl, ?_⟩
 rcases hv with ⟨_, ad, v, p, hs, rfl⟩ | ⟨_, left, ad, v, p, hs, rfl⟩
 ·exact ⟨_, b8, b10, b7, F, _, ad, v, p, hs, rfl, rfl⟩
 ·exact ⟨_, b8, b10, b7, F, left, ad, v, p, hs, rfl, rfl⟩


set_option maxRecDepth 10000 in
theorem slice_0 (b : Nat) (A : Option Addr) (t : Tr) (wt : Wf t) (hb : t.row.length ≤ 1048576) (h0 : visN t.row = 0) : Sp Tryz.prog 38 [.pointer (some ⟨b, 0, none⟩), .int .i64 0, .int .i64 (visN t.row : Nat)] [rpP b A] [TrF A t] (fun u Lo fs => u = .tuple #[.string (textF t.row), .int .i64 0] ∧ Lo = [rpP b A] ∧ fs = []) := by
 refine Sp.of (n := 28) ⟨_, Tryz.func38, rfl, rfl, rfl, rfl⟩ (Nat.le_of_ble_eq_true rfl) fun Ps As => WC_seq (WC_region (Lq (q_assign rfl) (Lq (q_assign rfl) (WL_nil (thenN (WC_seq (WC_seq (WC_region (Lq (q_move rfl) (Lq (q_lss rfl rfl) (Lq (q_move rfl) (Lg rfl rfl rfl rfl (q_move rfl) (Lg rfl rfl rfl rfl (q_move rfl) ?_)))))))))))))
 refine Lg rfl rfl rfl rfl (q_gtr rfl rfl) (Lq (q_pickF rfl rfl rfl) (Lq (q_move rfl) (Lg rfl rfl rfl (by simp) (q_move rfl) (Lg rfl rfl rfl (by simp) (q_move rfl) (WL_gmain rfl rfl rfl (by simp) (OW_call1 (rshown_s b A t wt) (.cons rfl (.nil)) (by decide) (.z) (memc M0 mem0) fun u1_10 Lo fs hres => ?_))))))
 obtain ⟨rfl, rfl, rfl⟩ := hres
 refine Lg rfl rfl rfl (by simp) (q_gtr rfl rfl) (Lq (q_pickF rfl (by simp) rfl) (WL_nil (thenN (WC_false rfl (by simp) (WC_skip (thenN (WC_seq (WC_region (WL_main rfl (OW_alloc (cs := [_, _]) ti138 rfl (by decide) fun b8 => WL_nil (thenN (WC_seq ?_))))))))))))
 rw [h0]
 refine WC_region (Lq (q_move rfl) (Lq (q_move rfl) (Lq (q_move rfl) (Lq (q_func (.cons rfl (.nil))) (WL_main rfl (OW_call0 (between_0 b b8) (.cons rfl (.cons rfl (.cons rfl (.cons rfl (.nil))))) (by decide) mem0 fun u4_4 Lo fs hres => ?_))))))
 obtain ⟨rfl, rfl, rfl⟩ := hres
 refine WL_nil (thenN (WC_seq (WC_region (WL_main rfl (OW_call1 (bstr_0 b8 none) (.cons rfl (.nil)) (by decide) (.z) mem0 fun u5_0 Lo fs hres => ?_)))))
 obtain ⟨rfl, rfl, rfl⟩ := hres
 refine Lq (q_assign rfl) (Lq (q_assign rfl) (WL_nil (thenN (WC_ret ?_))))
 refine ⟨_, [_], [], fun Z w hs => .tmp rfl (.tmp rfl (.nil)), ?_, fun Z w hs => hs.out (Sd (Sk (Sr))) (fun _ h => h)⟩
 have e : textF t.row = .empty := by
  have hz : visF t.row = [] := List.length_eq_zero_iff.1 (by rw [visF_length]; exact h0)
  unfold textF vbs; rw [hz]; rfl
 rw [e]; exact ⟨rfl, rfl, rfl⟩


set_option maxRecDepth 10000 in
theorem slice_1 (b : Nat) (A : Option Addr) (t : Tr) (wt : Wf t) (hb : t.row.length ≤ 1048576) (h0 : 0 < visN t.row) : Sp Tryz.prog 38 [.pointer (some ⟨b, 0, none⟩), .int .i64 0, .int .i64 (visN t.row : Nat)] [rpP b A] [TrF A t] (fun u Lo fs => u = .tuple #[.string (textF t.row), .int .i64 0] ∧ Lo = [rpP b A] ∧ fs = []) := by
 refine Sp.of (n := 28) ⟨_, Tryz.func38, rfl, rfl, rfl, rfl⟩ (Nat.le_of_ble_eq_true rfl) fun Ps As => WC_seq (WC_region (Lq (q_assign rfl) (Lq (q_assign rfl) (WL_nil (thenN (WC_seq (WC_seq (WC_region (Lq (q_move rfl) (Lq (q_lss rfl rfl) (Lq (q_move rfl) (Lg rfl rfl rfl rfl (q_move rfl) (Lg rfl rfl rfl rfl (q_move rfl) ?_)))))))))))))
 refine Lg rfl rfl rfl rfl (q_gtr rfl rfl) (Lq (q_pickF rfl rfl rfl) (Lq (q_move rfl) (Lg rfl rfl rfl (by simp) (q_move rfl) (Lg rfl rfl rfl (by simp) (q_move rfl) (WL_gmain rfl rfl rfl (by simp) (OW_call1 (rshown_s b A t wt) (.cons rfl (.nil)) (by decide) (.z) (memc M0 mem0) fun u1_10 Lo fs hres => ?_))))))
 obtain ⟨rfl, rfl, rfl⟩ := hres
 refine Lg rfl rfl rfl (by simp) (q_gtr rfl rfl) (Lq (q_pickF rfl (by simp) rfl) (WL_nil (thenN (WC_false rfl (by simp) (WC_skip (thenN (WC_seq (WC_region (WL_main rfl (OW_alloc (cs := [_, _]) ti138 rfl (by decide) fun b8 => WL_nil (thenN (WC_seq (WC_nilPart (WC_pick (.z) (WC_pick (.s (.z)) ?_)))))))))))))))
 refine WC_pick (.s (.s (.z))) (WC_region (Lq (q_move rfl) (Lq (q_move rfl) (Lq (q_move rfl) (Lq (q_func (.cons rfl (.nil))) (WL_main rfl (OW_callP (between_1 b A t wt hb h0 b8) (.cons rfl (.cons rfl (.cons rfl (.cons rfl (.nil))))) (by decide) (List.Perm.refl _) (memc M0 mem0) fun u4_4 Lo fs hres => ?_)))))))
 obtain ⟨rfl, rfl, q1, bF, bL, bS, F, left, ad, v, p, hs, hq1, rfl⟩ := hres
 refine WL_nil (thenN (WC_seq (WC_pick (.s (.z)) ?_)))
 subst hq1
 refine WC_unflat (Qs := txtL bF bL bS b8 F left ad v p) (WC_region (WL_main rfl (OW_call2 (bstr_s b8 ad v (vbs t.row) p hs.row (by have := vbs_len t.row; omega) (vbs_by _) (vbs_ne h0)) (.cons rfl (.nil)) (by decide) (.s (.s (.s (.z)))) (.s (.s (.s (.z)))) mem0 fun u5_0 Lo fs hres => ?_)))
 obtain ⟨rfl, rfl, rfl⟩ := hres
 refine Lq (q_assign rfl) (Lq (q_assign rfl) (WL_nil (thenN (WC_ret ?_))))
 refine ⟨_, [_], [], fun Z w hs => .tmp rfl (.tmp rfl (.nil)), ?_, fun Z w hs => hs.out (Sd (Sd (Sd (Sd (Sk (Sr)))))) (fun _ h => h)⟩
 exact ⟨rfl, rfl, rfl⟩

theorem slice_s (b : Nat) (A : Option Addr) (t : Tr) (wt : Wf t) (hb : t.row.length ≤ 1048576) : Sp Tryz.prog 38 [.pointer (some ⟨b, 0, none⟩), .int .i64 0, .int .i64 (visN t.row : Nat)] [rpP b A] [TrF A t] (fun u Lo fs => u = .tuple #[.string (textF t.row), .int .i64 0] ∧ Lo = [rpP b A] ∧ fs = []) := by
 rcases Nat.eq_zero_or_pos (visN t.row) with h | h
 ·exact slice_0 b A t wt hb h
 ·exact slice_1 b A t wt hb h

set_option maxRecDepth 10000 in
theorem text_s (b : Nat) (A : Option Addr) (t : Tr) (wt : Wf t) (hb : t.row.length ≤ 1048576) : Sp Tryz.prog 16 [.pointer (some ⟨b, 0, none⟩)] [rpP b A] [TrF A t] (fun u Lo fs => u = .string (textF t.row) ∧ Lo = [rpP b A] ∧ fs = []) := by
 refine Sp.of (n := 13) ⟨_, Tryz.func16, rfl, rfl, rfl, rfl⟩ (Nat.le_of_ble_eq_true rfl) fun Ps As => WC_seq (WC_region (Lq (q_assign rfl) (WL_nil (thenN (WC_seq (WC_region (Lq (q_move rfl) (Lq (q_move rfl) (WL_main rfl (OW_call1 (rshown_s b A t wt) (.cons rfl (.nil)) (by decide) (.z) (memc M0 mem0) fun u1_2 Lo fs hres => ?_))))))))))
 obtain ⟨rfl, rfl, rfl⟩ := hres
 refine WL_main rfl (OW_call1 (slice_s b A t wt hb) (.cons rfl (.cons rfl (.cons rfl (.nil)))) (by decide) (.z) (memc M0 mem0) fun u1_3 Lo fs hres => ?_)
 obtain ⟨rfl, rfl, rfl⟩ := hres
 refine Lq (q_move rfl) (Lq (q_extract (vs := [_, _]) rfl rfl) (Lq (q_extract (vs := [_, _]) rfl rfl) (Lq (q_assign rfl) (Lq (q_assign rfl) (WL_nil (thenN (WC_seq (WC_region (Lq (q_move rfl) (Lq (q_assign rfl) (WL_nil (thenN (WC_ret ?_)))))))))))))
 refine ⟨_, [_], [], fun Z w hs => .tmp rfl (.nil), ?_, fun Z w hs => hs.out (Sk (Sr)) (fun _ h => h)⟩
 exact ⟨rfl, rfl, rfl⟩

end Go.Proofs.YtcjbjkbghgjmdaaGreatDoor
/- Walks: HistoryErases. -/
namespace Go.Proofs.YtcjbjkbghgjmdaaGreatDoor
open Go Go.GW
theorem WC_meet3 {α : Type} {P : Program} {n : Nat} {R : Post} {l : Fr} {Ps : List Part} {As : List Fact} (fr : α → Fr) (ps : α → List Part) (qs : α → List Fact) (p : α → Prop) {x y y2 z : Code} (h1 : WC P n x (thenR (WC P n y (thenR (WC P n y2 (thenR (fun l Ps As => ∃ x, p x ∧ Sub (fr x) l ∧ (ps x).Sublist Ps ∧ ∀ A ∈ qs x, A ∈ As) R)) R)) R) l Ps As) (h2 : ∀ x, p x → WC P n z R (fr x) (ps x) (qs x)) : WC P n (.seq x (.seq y (.seq y2 z))) R l Ps As :=
 WC_seq (h1.mono fun e l Ps As he => by
  cases e with
  | normal => exact WC_meet2 fr ps qs p he h2
  | _ => exact he)
theorem effect_t (h m cap : Nat) (A : Option Addr) (H : Hist) (L : List MR) (hr : HR H L) (i0 i1 : Int) (k : Nat) (hw : whereId H.ents i0 i1 = some k) (hk : k < H.ents.length) (hk4 : H.ents[k].op.kind ≠ 4) (on : Bool) (ho : H.ents[k].off = on) : Sp Tryz.prog 10 [.pointer (some ⟨h, 0, none⟩), .agg #[.int .i64 i0, .int .i64 i1], .bool on] [hdP h A H.ops.length cap m H.total, mpP m L, mkP L] [RdF opD A cap H.ops, AllF L nowF] (fun u Lo fs => ∃ Ae ce, u = .tuple #[opV (turnF H.ents[k] H.ents[k].off) Ae ce, .int .i64 0] ∧ Lo = [hdP h A H.ops.length cap m H.total, mpP m L, mkP L] ∧ fs = [RdF rgD Ae ce (turnF H.ents[k] H.ents[k].off).rs]) := by
 subst ho
 refine (effect_s h m cap A H L hr i0 i1 k hw (fun e he => by rw [List.getElem?_eq_getElem hk] at he; rw [← Option.some.inj he]; exact hk4) _).mono ?_
 rintro u Lo fs ⟨_, Ae, ce, rfl, ⟨_, rfl, rfl⟩ | ⟨h1, _⟩⟩
 ·exact ⟨Ae, ce, rfl, rfl, rfl⟩
 ·exact absurd rfl h1
theorem effect_f (h m cap : Nat) (A : Option Addr) (H : Hist) (L : List MR) (hr : HR H L) (i0 i1 : Int) (k : Nat) (hw : whereId H.ents i0 i1 = some k) (hk : k < H.ents.length) (hk4 : H.ents[k].op.kind ≠ 4) (on : Bool) (ho : H.ents[k].off ≠ on) : Sp Tryz.prog 10 [.pointer (some ⟨h, 0, none⟩), .agg #[.int .i64 i0, .int .i64 i1], .bool on] [hdP h A H.ops.length cap m H.total, mpP m L, mkP L] [RdF opD A cap H.ops, AllF L nowF] (fun u Lo fs => u = .tuple #[opV zeroOp none 0, .int .i64 62] ∧ Lo = [hdP h A H.ops.length cap m H.total, mpP m L, mkP L] ∧ fs = []) := by
 refine (effect_s h m cap A H L hr i0 i1 k hw (fun e he => by rw [List.getElem?_eq_getElem hk] at he; rw [← Option.some.inj he]; exact hk4) on).mono ?_
 rintro u Lo fs ⟨_, Ae, ce, rfl, ⟨h1, _⟩ | ⟨_, rfl, rfl⟩⟩
 ·exact absurd h1 ho
 ·exact ⟨rfl, rfl, rfl⟩
theorem cnt_next {H : Hist} {d : GOp} {k c : Nat} {w : Int} (hk : k < H.ents.length) (hR : Right w H.ents[k].op) (hd : 1 ≤ d.c) (hc : c = 1 + stN d (H.ops.take k)) (b : Bool) (hb : ((entE H.ents[k]).tc == d.c && (entE H.ents[k]).tn == d.n) = b) : (if b = true then c + 1 else c) = 1 + stN d (H.ops.take (k + 1)) := by
 have hol := ops_len H
 rw [List.take_succ_eq_append_getElem (by omega), stN_append, ops_at hk, stN_cons, ← hb, ent_st hR hd]
 simp only [decide_eq_true_eq]
 have h0 : stN d [] = 0 := rfl
 split <;> omega

set_option maxRecDepth 10000 in
theorem erases_s (Am : Option Addr) (cm : Nat) (ms : List Mv) (pick : Int) : Sp Tryz.prog 3 [.slice Am ms.length cm, .int .i64 pick] [] [barF, RdF mvD Am cm ms] (Is (.bool true)) := by
 refine Sp.of (n := 227) ⟨_, Tryz.func3, rfl, rfl, rfl, rfl⟩ (Nat.le_of_ble_eq_true rfl) fun Ps As => WC_seq (WC_region (Lq (q_assign rfl) (WL_nil (thenN (WC_seq (WC_region (Lq (q_move rfl) (WL_main rfl (OW_call0 (fed_s Am cm ms) (.cons rfl (.nil)) (by decide) (memc M0 (memc M1 mem0)) fun u1_1 Lo fs hres => ?_)))))))))
 obtain ⟨v, h, m, b, n, H, X, nx, rfl, ⟨L, A, cap, B, t, A1, c1, A2, c2, A3, c3, rfl, rfl, hr, wt, hX⟩, hV, hn20⟩ := hres
 have hnl := hV.len
 have hol : H.ops.length = H.ents.length := by simp [Hist.ops]
 have htt := hV.total
 have hrl := hV.rule.len
 have htl : t.row.length ≤ 1048576 := by rw [hX]; omega
 have hil : (idsOf H.ents).length = H.ents.length := by simp [idsOf]
 have hkl : (kindsOf H.ents).length = H.ents.length := by simp [kindsOf]
 refine Lq (q_move rfl) (Lq (q_extract (vs := [_, _]) rfl rfl) (Lq (q_extract (vs := [_, _]) rfl rfl) (Lq (q_assign rfl) (Lq (q_assign rfl) (WL_nil (thenN (WC_seq (WC_seq (WC_region (Lq (q_move rfl) (Lq (q_not rfl) (WL_nil (thenN (WC_false rfl rfl (WC_skip (thenN (WC_seq (WC_region (Lq (q_move rfl) ?_)))))))))))))))))))
 refine Lq (q_move rfl) (Lq (q_nil rfl) (Lq (q_field (o' := 2) Un34 rfl ti26 rfl rfl) (Lq (q_load1 Un26 rfl rfl own0 rfl) (Lq (q_len Un26 rfl) (WL_main rfl (OW_call1 (vedits_s v h b H.ents.length A1 c1 A2 c2 A3 c3 nx (idsOf H.ents) (kindsOf H.ents) H.ents.length (by omega) (by omega) (by omega) (by omega)) (.cons rfl (.cons rfl (.nil))) (by decide) (.z) (memc M3 (memc M4 mem0)) fun u4_6 Lo fs hres => ?_))))))
 obtain ⟨A8, c8, rfl, rfl, rfl⟩ := hres
 have hel := editsL_len ((idsOf H.ents).take H.ents.length) ((kindsOf H.ents).take H.ents.length)
 rw [List.length_take] at hel
 obtain ⟨es, hes⟩ : ∃ z, z = editsL ((idsOf H.ents).take H.ents.length) ((kindsOf H.ents).take H.ents.length) := ⟨_, rfl⟩
 rw [← hes] at hel ⊢
 refine Lq (q_assign rfl) (WL_nil (thenN (WC_seq (WC_seq (WC_region (Lq (q_move rfl) (Lq (q_len Un26 rfl) (Lq (q_eql rfl rfl) (WL_nil (thenN (WC_cond rfl (fun h35 => ?_) (fun h35 => ?_))))))))))))
 ·obtain ⟨hn0, hl0, hX0⟩ := no_edits hV (by rw [← hes]; exact List.length_eq_zero_iff.1 (by simpa using h35))
  refine WC_seq (WC_region (Lq (q_move rfl) (Lq (q_nil rfl) (Lq (q_field (o' := 0) Un34 rfl ti28 rfl rfl) (Lq (q_load1 Un28 rfl rfl own0 rfl) (WL_main rfl (OW_call1 (hlen_s h m H.ops.length cap A H.total) (.cons rfl (.nil)) (by decide) (.s (.z)) mem0 fun u6_4 Lo fs hres => ?_)))))))
  obtain ⟨rfl, rfl, rfl⟩ := hres
  refine Lq (q_eql rfl rfl) (Lq (q_move rfl) (Lg rfl rfl rfl (by simp only [beq_iff_eq]; omega) (q_move rfl) (Lg rfl rfl rfl (by simp only [beq_iff_eq]; omega) (q_nil rfl) (Lg rfl rfl rfl (by simp only [beq_iff_eq]; omega) (q_field (o' := 1) Un34 rfl ti29 rfl rfl) (Lg rfl rfl rfl (by simp only [beq_iff_eq]; omega) (q_load1 Un29 rfl rfl (ownS (own0)) rfl) (WL_gmain rfl rfl rfl (by simp only [beq_iff_eq]; omega) (OW_call1 (rtotal_s b B t wt) (.cons rfl (.nil)) (by decide) (.s (.s (.s (.s (.z))))) (memc M3 mem0) fun u6_11 Lo fs hres => ?_)))))))
  obtain ⟨rfl, rfl, rfl⟩ := hres
  refine Lg rfl rfl rfl (by simp only [beq_iff_eq]; omega) (q_eql rfl rfl) (Lq (q_pickT rfl (by simp only [beq_iff_eq]; omega) rfl) (Lq (q_assign rfl) (WL_nil (thenN (WC_ret (thenRet ?_))))))
  refine ⟨_, [], [], fun Z w hs => .tmp rfl (.nil), ?_, fun Z w hs => hs.out (Sd (Sd (Sd (Sd (Sd (Sr)))))) T7⟩
  refine ⟨congrArg Value.bool ?_, rfl, rfl⟩
  first | (rw [hX]; done) | (rw [hX]; simp only [beq_iff_eq]; omega)
 ·have hE0 : 0 < es.length := by
   have : es.length ≠ 0 := by simpa using h35
   omega
  refine WC_skip (thenN (WC_seq (WC_region (Lq (q_move rfl) (Lq (q_move rfl) (Lq (q_move rfl) (Lq (q_len Un26 rfl) (WL_main rfl (OW_call0 (rest_r pick es.length (by omega)) (.cons rfl (.cons rfl (.nil))) (by decide) mem0 fun u7_4 Lo fs hres => ?_)))))))))
  obtain ⟨r54, hr54, hm54, rfl, rfl, rfl⟩ := hres
  have hmem : ∀ y ∈ es, y ∈ editsL ((idsOf H.ents).take H.ents.length) ((kindsOf H.ents).take H.ents.length) := fun y hy => by rw [← hes]; exact hy
  obtain ⟨j, hj, hji, hjc, hjn, hjk⟩ := edits_target (hmem _ (List.getElem_mem hm54))
  have hEj : es[r54]? = some (H.ents[j].op.c, H.ents[j].op.n) := by rw [List.getElem?_eq_getElem hm54, hjc, hjn]
  have hw := whereId_of hV.hv.ids hj
  have hknj : (kindsOf H.ents)[j]? = some (kindN H.ents[j].op) := by unfold kindsOf; rw [List.getElem?_map, List.getElem?_eq_getElem hj]; rfl
  have hN : (n : Int) ≤ 1000 := by omega
  have hO := hV.made.ord (by omega)
  obtain ⟨A0, hA0⟩ : ∃ z, z = H.ops.take j := ⟨_, rfl⟩
  obtain ⟨Bs, hBs⟩ : ∃ z, z = H.ops.drop (j + 1) := ⟨_, rfl⟩
  have hAB : H.ops = A0 ++ (H.ents[j].op :: Bs) := by rw [hA0, hBs, ← ops_at hj, ← List.drop_eq_getElem_cons (by omega), List.take_append_drop]
  have hA0l : A0.length = j := by rw [hA0, List.length_take]; omega
  have hO1 : OrdOk (A0 ++ (H.ents[j].op :: Bs)) := hAB ▸ hO
  have hBl : H.ents.length = A0.length + (1 + Bs.length) := by rw [← hol, hAB, List.length_append, List.length_cons]; omega
  have hdc := right_bd (hO1.idr _ (List.mem_append_right _ List.mem_cons_self))
  refine WL_elem (k := r54) M0 hEj (id_open _) fun bE qE yE eE => ?_
  cases eE
  refine Lq (q_idxRd Un26 ti37 rfl rfl (by first | omega | simp) (by first | omega | simp)) (Lq (q_loadFN (k := 0) (vs := [_, _]) Un37 rfl ti37 rfl M0 rfl rfl rfl) (WL_main rfl (OW_alloc (cs := [_, _]) ti37 rfl (by decide) fun b8 => WL_main rfl (OW_storeN (cs' := [_, _]) (vs := [_, _]) ti37 rfl rfl rfl rfl rfl (Nat.le_of_ble_eq_true rfl) (.z) (WL_nil (thenN (WC_seq (WC_draw _ _ [] (.c 0 0 (.c 1 0 (.c 2 0 (.c 3 0 (.c 4 0 (.c 5 2 (.c 6 0 (.c 7 0 (.c 8 0 (.c 9 0 (.c 10 0 .nil))))))))))) mixed (fun _ _ _ _ h => h) (Sk (Sk (Sd (Sd (Sd (Sk (Sr))))))) (fun _ h => h) (by kernel_rfl) (by decide) fun ws Z0 => Qe rfl (q_move rfl) (Qe rfl (q_nil rfl) (Qe rfl (q_field (o' := 0) Un34 rfl ti28 rfl rfl) ?_))))))))))
  refine Qe rfl (q_load1 Un28 rfl rfl (ownS (own0)) rfl) (Qe rfl (q_loadN (vs := [_, _]) Un37 rfl ti37 rfl own0 rfl rfl) (WE_main rfl rfl (OW_call3 (find_s h m cap A H L hr H.ents[j].op.c H.ents[j].op.n j hw) (.cons rfl (.cons rfl (.nil))) (by decide) (.s (.s (.z))) (.s (.s (.z))) (.s (.s (.z))) mem0 fun u8_5 Lo fs hres => ?_)))
  obtain ⟨rfl, rfl, rfl⟩ := hres
  refine ⟨⟨(Sd (Sd (Sd (Sk (Sk (Sk (Sr))))))), M0⟩, ?_⟩
  refine Qe rfl (q_move rfl) (Qe rfl (q_extract (vs := [_, _]) rfl rfl) (Qe rfl (q_extract (vs := [_, _]) rfl rfl) (Qe rfl (q_assign rfl) (Qe rfl (q_assign rfl) (WE_end (WF_nil (thenN (WC_seq (WC_seq (WC_region (Lq (q_move rfl) (Lq (q_neq rfl rfl) (Lq (q_move rfl) ?_)))))))))))))
  refine Lg rfl rfl rfl rfl (q_move rfl) (Lg rfl rfl rfl rfl (q_lss rfl rfl) (Lq (q_pickF rfl rfl rfl) (Lq (q_move rfl) (Lg rfl rfl rfl (decide_eq_false (by omega)) (q_move rfl) (Lg rfl rfl rfl (decide_eq_false (by omega)) (q_move rfl) (Lg rfl rfl rfl (decide_eq_false (by omega)) (q_nil rfl) (Lg rfl rfl rfl (decide_eq_false (by omega)) (q_field (o' := 2) Un34 rfl ti26 rfl rfl) (Lg rfl rfl rfl (decide_eq_false (by omega)) (q_load1 Un26 rfl rfl (ownS (ownS (ownS (ownS (own0))))) rfl) (Lg rfl rfl rfl (decide_eq_false (by omega)) (q_len Un26 rfl) ?_)))))))))
  refine Lg rfl rfl rfl (decide_eq_false (by omega)) (q_geq rfl rfl) (Lq (q_pickF rfl (decide_eq_false (by omega)) rfl) (WL_nil (thenN (WC_false rfl (decide_eq_false (by omega)) (WC_skip (thenN ?_))))))
  refine WC_meet3 (α := Option Addr × Tr)
   (fun (B2, t2) => [(5, .pointer (some ⟨v, 0, none⟩)), (8, .pointer (some ⟨b8, 0, none⟩)), (9, .int .i64 j)])
   (fun (B2, t2) => ([(b8, cellsO (idC (H.ents[j].op.c, H.ents[j].op.n)) 37)] :: vwP v h b A1 H.ents.length c1 A2 c2 A3 c3 nx :: hdP h A H.ops.length cap m H.total :: mpP m L :: mkP L :: rpP b B2 :: Ps))
   (fun (B2, t2) => (RdF opD A cap H.ops :: AllF L nowF :: TrF B2 t2 :: RdF idD A1 c1 (idsOf H.ents) :: RdF (De.int .i64) A2 c2 (kindsOf H.ents) :: RdF De.str A3 c3 (textsOf H.ents) :: barF :: RdF mvD Am cm ms :: As))
   (fun (B2, t2) => Wf t2 ∧ t2.row = if H.ents[j].off = true then X else applyRow (turnF H.ents[j] false) X) ?_ ?_
  ·cases hf : H.ents[j].off with
   | false =>
    obtain ⟨ho1, ho2, ho3, ho4⟩ := off_app hV hN hj hjk hf
    obtain ⟨xo, hxo⟩ : ∃ z, z = turnF H.ents[j] H.ents[j].off := ⟨_, rfl⟩
    rw [← hxo] at ho1 ho2 ho3 ho4
    refine WC_draw _ _ [10] (.c 0 0 (.c 1 0 (.c 2 0 (.c 3 0 (.c 4 0 (.b (.c 5 2 (.c 6 0 (.c 7 0 (.c 8 1 (.c 9 2 (.c 10 3 (.c 11 1 .nil))))))) (.c 9 2 (.c 5 2 (.c 6 0 (.c 7 0 (.c 8 1 (.c 10 3 (.c 11 1 .nil))))))))))))) mixed (fun _ _ _ _ h => h) (Sd (Sd (Sd (Sk (Sk (Sk (Sr))))))) (fun _ h => h) (by kernel_rfl) (by decide) fun ws Z0 => Qe rfl (q_move rfl) (Qe rfl (q_nil rfl) (Qe rfl (q_field (o' := 0) Un34 rfl ti28 rfl rfl) (Qe rfl (q_load1 Un28 rfl rfl (ownS (own0)) rfl) (Qe rfl (q_loadN (vs := [_, _]) Un37 rfl ti37 rfl own0 rfl rfl) (WE_both ?_ ?_)))))
    ·refine WE_main rfl rfl (OW_call3 (effect_t h m cap A H L hr H.ents[j].op.c H.ents[j].op.n j hw hj hjk false hf) (.cons rfl (.cons rfl (.cons rfl (.nil)))) (by decide) (.z) (.z) (.z) (memc M4 (memc M5 mem0)) fun u11_5 Lo fs hres => ?_)
     obtain ⟨Ae, ce, rfl, rfl, rfl⟩ := hres
     rw [← hxo]
     refine ⟨⟨(Sd (Sd (Sd (Sk (Sk (Sk (Sr))))))), M1⟩, ?_⟩
     refine Qe rfl (q_move rfl) (Qe rfl (q_extract (vs := [_, _]) rfl rfl) (WE_p rfl (q_extract (vs := [_, _]) rfl rfl) (by decide) (WE_main rfl rfl (OW_alloc (cs := [_, _, _, _, _, _, _, _, _]) ti47 rfl (by decide) fun b11 => ?_))))
     refine ⟨⟨(Sd (Sd (Sd (Sd (Sk (Sk (Sk (Sr)))))))), M1⟩, ?_⟩
     refine WE_end (WF_last rfl rfl (OW_storeN (cs' := [_, _, _, _, _, _, _, _, _]) (vs := [_, _, _, _, _, _, _, _, _]) ti47 rfl rfl rfl rfl rfl (Nat.le_of_ble_eq_true rfl) (.z) (WF_p rfl (q_assign rfl) (by decide) (WF_nil (thenN (WC_fr [(10, _), (11, _), (9, _), (8, _), (5, _), (4, _)] (.cons rfl (.cons rfl (.cons rfl (.cons rfl (.cons rfl (.cons rfl (.nil _))))))) (WC_seq (WC_draw _ _ [] (.c 0 0 (.c 1 0 (.c 2 0 (.c 3 0 (.c 4 0 (.c 5 0 (.c 6 0 (.c 7 0 (.c 8 2 (.c 9 0 (.c 10 0 .nil))))))))))) mixed (fun _ _ _ _ h => h) (Sk (Sk (Sk (Sk (Sk (Sk (Sd (Sr)))))))) (fun _ h => h) (by kernel_rfl) (by decide) fun ws Z0 => Qe rfl (q_move rfl) (Qe rfl (q_eql rfl rfl) (Qe rfl (q_move rfl) ?_))))))))))
     refine WE_gq rfl rfl rfl rfl rfl (q_move rfl) (by decide) (WE_gq rfl rfl rfl rfl rfl (q_nil rfl) (by decide) (WE_gq rfl rfl rfl rfl rfl (q_field (o' := 1) Un34 rfl ti29 rfl rfl) (by decide) (WE_gq rfl rfl rfl rfl rfl (q_load1 Un29 rfl rfl (ownS (ownS (ownS (ownS (ownS (own0)))))) rfl) (by decide) (WE_gq rfl rfl rfl rfl rfl (q_loadN (vs := [_, _, _, _, _, _, _, _, _]) Un47 rfl ti47 rfl own0 rfl rfl) (by decide) ?_))))
     refine WE_gmain rfl rfl rfl rfl rfl rfl (OW_call1 (apply_s b B Ae ce t xo wt (by rw [hX]; omega) (by rw [hX]; exact ho1) (by omega) (by omega)) (.cons rfl (.cons rfl (.nil))) (by decide) (.s (.s (.s (.s (.s (.s (.z))))))) (memc M12 (memc M8 (memc M1 mem0))) fun u12_8 Lo fs hres => ?_)
     obtain ⟨Bn, tn, rfl, rfl, rfl, wtn, rtn⟩ := hres
     refine ⟨⟨(Sd (Sk (Sk (Sk (Sk (Sk (Sk (Sr)))))))), M1⟩, ?_⟩
     refine WE_gq rfl rfl rfl rfl rfl (q_neq rfl rfl) (by decide) (Qe rfl (q_pickT rfl rfl rfl) (WE_end (WF_nil (thenN (WC_false rfl rfl (WC_skip (thenN (WC_seq (WC_pick (.z) (WC_pick (.s (.s (.s (.s (.z))))) (WC_pick (.s (.s (.s (.s (.z))))) (WC_pick (.s (.s (.s (.s (.z))))) (WC_pick (.s (.s (.s (.s (.s (.s (.z))))))) (WC_pick (.s (.s (.s (.s (.s (.s (.z))))))) ?_))))))))))))))
     refine WC_region (Lq (q_move rfl) (Lq (q_neq rfl rfl) (Lq (q_move rfl) (Ln rfl rfl rfl rfl (Ln rfl rfl rfl rfl (Lq (q_pickF rfl rfl rfl) (WL_nil (thenN (WC_false rfl rfl (WC_skip (thenK ?_)))))))))))
     refine ⟨(Bn, tn), ?_, (.cons rfl (.cons rfl (.cons rfl (.nil _)))), (Sk (Sk (Sk (Sk (Sk (Sk (Sd (Sr)))))))), (memc M7 (memc M8 (memc M0 T10)))⟩
     exact ⟨wtn, by rw [rtn, hX, hxo]; simp [hf]⟩
    ·refine WE_main rfl rfl (OW_alloc (cs := [_, _, _, _, _, _, _, _, _]) ti47 rfl (by decide) fun b11 => ?_)
     refine ⟨⟨(Sd (Sd (Sd (Sd (Sk (Sk (Sk (Sr)))))))), M0⟩, ?_⟩
     refine WE_main rfl rfl (OW_call3 (effect_t h m cap A H L hr H.ents[j].op.c H.ents[j].op.n j hw hj hjk false hf) (.cons rfl (.cons rfl (.cons rfl (.nil)))) (by decide) (.s (.z)) (.s (.z)) (.s (.z)) (memc M4 (memc M5 mem0)) fun u11_5 Lo fs hres => ?_)
     obtain ⟨Ae, ce, rfl, rfl, rfl⟩ := hres
     rw [← hxo]
     refine ⟨⟨(Sd (Sd (Sd (Sd (Sk (Sk (Sk (Sr)))))))), M1⟩, ?_⟩
     refine Qe rfl (q_move rfl) (Qe rfl (q_extract (vs := [_, _]) rfl rfl) (WE_p rfl (q_extract (vs := [_, _]) rfl rfl) (by decide) (WE_end (WF_last rfl rfl (OW_storeN (cs' := [_, _, _, _, _, _, _, _, _]) (vs := [_, _, _, _, _, _, _, _, _]) ti47 rfl rfl rfl rfl rfl (Nat.le_of_ble_eq_true rfl) (.s (.s (.s (.z)))) (WF_p rfl (q_assign rfl) (by decide) (WF_nil (thenN (WC_fr [(10, _), (11, _), (9, _), (8, _), (5, _), (4, _)] (.cons rfl (.cons rfl (.cons rfl (.cons rfl (.cons rfl (.cons rfl (.nil _))))))) (WC_seq ?_))))))))))
     refine WC_draw _ _ [] (.c 0 0 (.c 1 0 (.c 2 0 (.c 3 0 (.c 4 0 (.c 5 0 (.c 6 0 (.c 7 0 (.c 8 2 (.c 9 0 (.c 10 0 .nil))))))))))) mixed (fun _ _ _ _ h => h) (Sk (Sk (Sk (Sk (Sk (Sk (Sd (Sr)))))))) (fun _ h => h) (by kernel_rfl) (by decide) fun ws Z0 => Qe rfl (q_move rfl) (Qe rfl (q_eql rfl rfl) (Qe rfl (q_move rfl) (WE_gq rfl rfl rfl rfl rfl (q_move rfl) (by decide) (WE_gq rfl rfl rfl rfl rfl (q_nil rfl) (by decide) (WE_gq rfl rfl rfl rfl rfl (q_field (o' := 1) Un34 rfl ti29 rfl rfl) (by decide) (WE_gq rfl rfl rfl rfl rfl (q_load1 Un29 rfl rfl (ownS (ownS (ownS (ownS (ownS (own0)))))) rfl) (by decide) ?_))))))
     refine WE_gq rfl rfl rfl rfl rfl (q_loadN (vs := [_, _, _, _, _, _, _, _, _]) Un47 rfl ti47 rfl (ownS (ownS (ownS (own0)))) rfl rfl) (by decide) (WE_gmain rfl rfl rfl rfl rfl rfl (OW_call1 (apply_s b B Ae ce t xo wt (by rw [hX]; omega) (by rw [hX]; exact ho1) (by omega) (by omega)) (.cons rfl (.cons rfl (.nil))) (by decide) (.s (.s (.s (.s (.s (.s (.z))))))) (memc M12 (memc M8 (memc M1 mem0))) fun u12_8 Lo fs hres => ?_))
     obtain ⟨Bn, tn, rfl, rfl, rfl, wtn, rtn⟩ := hres
     refine ⟨⟨(Sd (Sk (Sk (Sk (Sk (Sk (Sk (Sr)))))))), M1⟩, ?_⟩
     refine WE_gq rfl rfl rfl rfl rfl (q_neq rfl rfl) (by decide) (Qe rfl (q_pickT rfl rfl rfl) (WE_end (WF_nil (thenN (WC_false rfl rfl (WC_skip (thenN (WC_seq (WC_pick (.z) (WC_pick (.s (.s (.s (.z)))) (WC_pick (.s (.s (.s (.z)))) (WC_pick (.s (.s (.s (.z)))) (WC_pick (.s (.s (.s (.s (.s (.s (.z))))))) (WC_pick (.s (.s (.s (.s (.s (.s (.z))))))) ?_))))))))))))))
     refine WC_region (Lq (q_move rfl) (Lq (q_neq rfl rfl) (Lq (q_move rfl) (Ln rfl rfl rfl rfl (Ln rfl rfl rfl rfl (Lq (q_pickF rfl rfl rfl) (WL_nil (thenN (WC_false rfl rfl (WC_skip (thenK ?_)))))))))))
     refine ⟨(Bn, tn), ?_, (.cons rfl (.cons rfl (.cons rfl (.nil _)))), (Sk (Sk (Sk (Sk (Sk (Sk (Sd (Sr)))))))), (memc M7 (memc M8 (memc M0 T10)))⟩
     exact ⟨wtn, by rw [rtn, hX, hxo]; simp [hf]⟩
   | true =>
    refine WC_draw _ _ [10] (.c 0 0 (.c 1 0 (.c 2 0 (.c 3 0 (.c 4 0 (.b (.c 5 2 (.c 6 0 (.c 7 0 (.c 8 1 (.c 9 2 (.c 10 3 (.c 11 1 .nil))))))) (.c 9 2 (.c 5 2 (.c 6 0 (.c 7 0 (.c 8 1 (.c 10 3 (.c 11 1 .nil))))))))))))) mixed (fun _ _ _ _ h => h) (Sd (Sd (Sd (Sk (Sk (Sk (Sr))))))) (fun _ h => h) (by kernel_rfl) (by decide) fun ws Z0 => Qe rfl (q_move rfl) (Qe rfl (q_nil rfl) (Qe rfl (q_field (o' := 0) Un34 rfl ti28 rfl rfl) (Qe rfl (q_load1 Un28 rfl rfl (ownS (own0)) rfl) (Qe rfl (q_loadN (vs := [_, _]) Un37 rfl ti37 rfl own0 rfl rfl) (WE_both ?_ ?_)))))
    ·refine WE_main rfl rfl (OW_call3 (effect_f h m cap A H L hr H.ents[j].op.c H.ents[j].op.n j hw hj hjk false (by rw [hf]; decide)) (.cons rfl (.cons rfl (.cons rfl (.nil)))) (by decide) (.z) (.z) (.z) (memc M4 (memc M5 mem0)) fun u11_5 Lo fs hres => ?_)
     obtain ⟨rfl, rfl, rfl⟩ := hres
     refine ⟨⟨(Sd (Sd (Sd (Sk (Sk (Sk (Sr))))))), M0⟩, ?_⟩
     refine Qe rfl (q_move rfl) (Qe rfl (q_extract (vs := [_, _]) rfl rfl) (WE_p rfl (q_extract (vs := [_, _]) rfl rfl) (by decide) (WE_main rfl rfl (OW_alloc (cs := [_, _, _, _, _, _, _, _, _]) ti47 rfl (by decide) fun b11 => ?_))))
     refine ⟨⟨(Sd (Sd (Sd (Sd (Sk (Sk (Sk (Sr)))))))), M0⟩, ?_⟩
     refine WE_end (WF_last rfl rfl (OW_storeN (cs' := [_, _, _, _, _, _, _, _, _]) (vs := [_, _, _, _, _, _, _, _, _]) ti47 rfl rfl rfl rfl rfl (Nat.le_of_ble_eq_true rfl) (.z) (WF_p rfl (q_assign rfl) (by decide) (WF_nil (thenN (WC_fr [(10, _), (11, _), (9, _), (8, _), (5, _), (4, _)] (.cons rfl (.cons rfl (.cons rfl (.cons rfl (.cons rfl (.cons rfl (.nil _))))))) (WC_seq (WC_draw _ _ [] (.c 0 0 (.c 1 0 (.c 2 0 (.c 3 0 (.c 4 0 (.c 5 0 (.c 6 0 (.c 7 0 (.c 8 2 (.c 9 0 (.c 10 0 .nil))))))))))) mixed (fun _ _ _ _ h => h) (Sk (Sk (Sk (Sk (Sk (Sk (Sd (Sr)))))))) (fun _ h => h) (by kernel_rfl) (by decide) fun ws Z0 => Qe rfl (q_move rfl) (Qe rfl (q_eql rfl rfl) (Qe rfl (q_move rfl) ?_))))))))))
     refine WE_gno rfl rfl rfl rfl rfl (by decide) (WE_gno rfl rfl rfl rfl rfl (by decide) (WE_gno rfl rfl rfl rfl rfl (by decide) (WE_gno rfl rfl rfl rfl rfl (by decide) (WE_gno rfl rfl rfl rfl rfl (by decide) (WE_gnom rfl rfl rfl rfl rfl (by decide) (WE_gno rfl rfl rfl rfl rfl (by decide) (Qe rfl (q_pickF rfl rfl rfl) (WE_end (WF_nil (thenN (WC_false rfl rfl (WC_skip (thenN (WC_seq ?_))))))))))))))
     refine WC_pick (.s (.s (.s (.s (.s (.s (.z))))))) (WC_pick (.s (.s (.s (.s (.z))))) (WC_pick (.s (.s (.s (.s (.z))))) (WC_pick (.s (.s (.s (.s (.z))))) (WC_pick (.s (.s (.s (.s (.s (.s (.z))))))) (WC_pick (.s (.s (.s (.s (.s (.s (.z))))))) (WC_region (Lq (q_move rfl) (Lq (q_neq rfl rfl) (Lq (q_move rfl) ?_)))))))))
     refine Lg rfl rfl rfl rfl (q_move rfl) (Lg rfl rfl rfl rfl (q_neq rfl rfl) (Lq (q_pickT rfl rfl rfl) (WL_nil (thenN (WC_false rfl rfl (WC_skip (thenK ?_)))))))
     refine ⟨(B, t), ?_, (.cons rfl (.cons rfl (.cons rfl (.nil _)))), (Sk (Sk (Sk (Sk (Sk (Sk (Sd (Sr)))))))), T5⟩
     exact ⟨wt, by simp [hX]⟩
    ·refine WE_main rfl rfl (OW_alloc (cs := [_, _, _, _, _, _, _, _, _]) ti47 rfl (by decide) fun b11 => ?_)
     refine ⟨⟨(Sd (Sd (Sd (Sd (Sk (Sk (Sk (Sr)))))))), M0⟩, ?_⟩
     refine WE_main rfl rfl (OW_call3 (effect_f h m cap A H L hr H.ents[j].op.c H.ents[j].op.n j hw hj hjk false (by rw [hf]; decide)) (.cons rfl (.cons rfl (.cons rfl (.nil)))) (by decide) (.s (.z)) (.s (.z)) (.s (.z)) (memc M4 (memc M5 mem0)) fun u11_5 Lo fs hres => ?_)
     obtain ⟨rfl, rfl, rfl⟩ := hres
     refine ⟨⟨(Sd (Sd (Sd (Sd (Sk (Sk (Sk (Sr)))))))), M0⟩, ?_⟩
     refine Qe rfl (q_move rfl) (Qe rfl (q_extract (vs := [_, _]) rfl rfl) (WE_p rfl (q_extract (vs := [_, _]) rfl rfl) (by decide) (WE_end (WF_last rfl rfl (OW_storeN (cs' := [_, _, _, _, _, _, _, _, _]) (vs := [_, _, _, _, _, _, _, _, _]) ti47 rfl rfl rfl rfl rfl (Nat.le_of_ble_eq_true rfl) (.s (.s (.s (.z)))) (WF_p rfl (q_assign rfl) (by decide) (WF_nil (thenN (WC_fr [(10, _), (11, _), (9, _), (8, _), (5, _), (4, _)] (.cons rfl (.cons rfl (.cons rfl (.cons rfl (.cons rfl (.cons rfl (.nil _))))))) (WC_seq ?_))))))))))
     refine WC_draw _ _ [] (.c 0 0 (.c 1 0 (.c 2 0 (.c 3 0 (.c 4 0 (.c 5 0 (.c 6 0 (.c 7 0 (.c 8 2 (.c 9 0 (.c 10 0 .nil))))))))))) mixed (fun _ _ _ _ h => h) (Sk (Sk (Sk (Sk (Sk (Sk (Sd (Sr)))))))) (fun _ h => h) (by kernel_rfl) (by decide) fun ws Z0 => Qe rfl (q_move rfl) (Qe rfl (q_eql rfl rfl) (Qe rfl (q_move rfl) (WE_gno rfl rfl rfl rfl rfl (by decide) (WE_gno rfl rfl rfl rfl rfl (by decide) (WE_gno rfl rfl rfl rfl rfl (by decide) (WE_gno rfl rfl rfl rfl rfl (by decide) (WE_gno rfl rfl rfl rfl rfl (by decide) (WE_gnom rfl rfl rfl rfl rfl (by decide) ?_))))))))
     refine WE_gno rfl rfl rfl rfl rfl (by decide) (Qe rfl (q_pickF rfl rfl rfl) (WE_end (WF_nil (thenN (WC_false rfl rfl (WC_skip (thenN (WC_seq (WC_pick (.s (.s (.s (.s (.s (.s (.z))))))) (WC_pick (.s (.s (.s (.z)))) (WC_pick (.s (.s (.s (.z)))) (WC_pick (.s (.s (.s (.z)))) (WC_pick (.s (.s (.s (.s (.s (.s (.z))))))) (WC_pick (.s (.s (.s (.s (.s (.s (.z))))))) ?_))))))))))))))
     refine WC_region (Lq (q_move rfl) (Lq (q_neq rfl rfl) (Lq (q_move rfl) (Lg rfl rfl rfl rfl (q_move rfl) (Lg rfl rfl rfl rfl (q_neq rfl rfl) (Lq (q_pickT rfl rfl rfl) (WL_nil (thenN (WC_false rfl rfl (WC_skip (thenK ?_)))))))))))
     refine ⟨(B, t), ?_, (.cons rfl (.cons rfl (.cons rfl (.nil _)))), (Sk (Sk (Sk (Sk (Sk (Sk (Sd (Sr)))))))), T5⟩
     exact ⟨wt, by simp [hX]⟩
  ·rintro ⟨B2, t2⟩ ⟨wt2, hX2⟩
   have hb2 : t2.row.length ≤ 60000 := by
    rw [hX2]
    split
    ·omega
    ·rename_i hf
     have hff : H.ents[j].off = false := by simpa using hf
     have := (off_app hV hN hj hjk hff).2.2.2
     rw [hff] at this; exact this
   refine WC_seq (WC_draw _ _ [] (.c 0 0 (.c 1 0 (.c 2 0 (.c 3 0 (.c 4 0 (.c 5 2 (.c 6 0 (.c 7 0 (.c 8 0 (.c 9 0 (.c 10 0 .nil))))))))))) mixed (fun _ _ _ _ h => h) (Sk (Sk (Sd (Sd (Sd (Sk (Sr))))))) (fun _ h => h) (by kernel_rfl) (by decide) fun ws Z0 => Qe rfl (q_move rfl) (Qe rfl (q_nil rfl) (Qe rfl (q_field (o' := 0) Un34 rfl ti28 rfl rfl) (Qe rfl (q_load1 Un28 rfl rfl (ownS (own0)) rfl) (Qe rfl (q_loadN (vs := [_, _]) Un37 rfl ti37 rfl own0 rfl rfl) ?_)))))
   refine WE_main rfl rfl (OW_call3 (erase_p h m cap A H L hr H.ents[j].op.c H.ents[j].op.n j hw (fun e he => by rw [List.getElem?_eq_getElem hj] at he; rw [← Option.some.inj he]; exact hjk) hO A0 Bs H.ents[j].op hAB hA0l (by omega)) (.cons rfl (.cons rfl (.nil))) (by decide) (.s (.s (.z))) (.s (.s (.z))) (.s (.s (.z))) (memc M7 (memc M1 mem0)) fun u16_5 Lo fs hres => ?_)
   obtain ⟨rfl, ⟨rfl, hd1, hBne, rfl⟩ | ⟨Mm, A7, c7, rfl, hEr, rfl⟩⟩ := hres
   ·refine ⟨⟨(Sd (Sd (Sd (Sk (Sk (Sk (Sr))))))), M0⟩, ?_⟩
    refine Qe rfl (q_move rfl) (Qe rfl (q_extract (vs := [_, _]) rfl rfl) (Qe rfl (q_extract (vs := [_, _]) rfl rfl) (Qe rfl (q_assign rfl) (Qe rfl (q_assign rfl) (WE_end (WF_nil (thenN (WC_seq (WC_seq (WC_region (Lq (q_move rfl) (Lq (q_neq rfl rfl) (WL_nil (thenN (WC_true rfl rfl (WC_seq ?_))))))))))))))))
    have hk0 : kindN H.ents[j].op = 0 := by unfold kindN; rw [if_neg hjk, if_neg (by omega)]
    have hBp := List.length_pos_iff.2 hBne
    refine WC_elem (k := j) M5 hknj (i64_open _) fun bk qk yk ek => ?_
    cases ek
    refine WC_region (Lq (q_move rfl) (Lq (q_eql rfl rfl) (Lq (q_move rfl) (Lg rfl rfl rfl rfl (q_move rfl) (Lg rfl rfl rfl rfl (q_nil rfl) (Lg rfl rfl rfl rfl (q_field (o' := 3) Un34 rfl ti30 rfl rfl) (Lg rfl rfl rfl rfl (q_load1 Un30 rfl rfl (ownS (ownS (ownS (ownS (own0))))) rfl) (Lg rfl rfl rfl rfl (q_move rfl) (Lg rfl rfl rfl rfl (q_idxRd Un30 ti3 rfl rfl (by first | omega | simp) (by first | omega | simp)) ?_)))))))))
    refine Lg rfl rfl rfl rfl (q_loadF1 (j := 0) Un3 rfl rfl M0 rfl rfl) (Lg rfl rfl rfl rfl (q_eql rfl rfl) (Lq (q_pickT rfl rfl rfl) (Lq (q_move rfl) (Lg rfl rfl rfl (by rw [hk0]; rfl) (q_move rfl) (Lg rfl rfl rfl (by rw [hk0]; rfl) (q_add rfl rfl (wr64 (by omega)) (c := ((j + 1 : Nat) : Int))) (Lg rfl rfl rfl (by rw [hk0]; rfl) (q_move rfl) (Lg rfl rfl rfl (by rw [hk0]; rfl) (q_nil rfl) (Lg rfl rfl rfl (by rw [hk0]; rfl) (q_field (o' := 2) Un34 rfl ti26 rfl rfl) (Lg rfl rfl rfl (by rw [hk0]; rfl) (q_load1 Un26 rfl rfl (ownS (ownS (ownS (ownS (own0))))) rfl) ?_)))))))))
    refine Lg rfl rfl rfl (by rw [hk0]; rfl) (q_len Un26 rfl) (Lg rfl rfl rfl (by rw [hk0]; rfl) (q_lss rfl rfl) (Lq (q_pickT rfl (by rw [hk0]; rfl) rfl) (Lq (q_assign rfl) (WL_nil (thenN (WC_ret (thenRet ?_)))))))
    refine ⟨_, [], [], fun Z w hs => .tmp rfl (.nil), ?_, fun Z w hs => hs.out (Sd (Sd (Sd (Sd (Sd (Sd (Sr))))))) T8⟩
    exact ⟨congrArg Value.bool (by first | exact decide_eq_true (by omega) | (simp; omega)), rfl, rfl⟩
   ·refine ⟨⟨(Sd (Sd (Sd (Sk (Sk (Sk (Sr))))))), M1⟩, ?_⟩
    refine Qe rfl (q_move rfl) (Qe rfl (q_extract (vs := [_, _]) rfl rfl) (Qe rfl (q_extract (vs := [_, _]) rfl rfl) (Qe rfl (q_assign rfl) (Qe rfl (q_assign rfl) (WE_end (WF_nil (thenN (WC_seq (WC_seq (WC_region (Lq (q_move rfl) (Lq (q_neq rfl rfl) (WL_nil (thenN (WC_false rfl rfl (WC_skip (thenN (WC_seq ?_))))))))))))))))))
    obtain ⟨ML, hML⟩ : ∃ z, z = A0 ++ Mm := ⟨_, rfl⟩
    rw [← hML]
    have hMl : ML.length = A0.length + Mm.length := by rw [hML, List.length_append]
    have hst := hEr.stN
    have hO2 : OrdOk ML := hML ▸ hEr.ord hO1 hjk
    have hids := erase_ids hO1 hjk hEr (fun o ho => by obtain ⟨w, _, hw⟩ := hO2.right (hML ▸ ho); exact ⟨w, hw⟩)
    refine WC_region (WL_main rfl (OW_call0 (newView_s) (.nil) (by decide) mem0 fun u19_0 Lo fs hres => ?_))
    obtain ⟨vu, hu, mu, bu, rfl, L0, A0u, cap0, B0, t0, A10, c10, A20, c20, A30, c30, rfl, rfl, hr0, wt0, hX0⟩ := hres
    refine Lq (q_move rfl) (Lq (q_extract (vs := [_, _]) rfl rfl) (Lq (q_extract (vs := [_, _]) rfl rfl) (Lq (q_assign rfl) (Lq (q_assign rfl) (WL_nil (thenN (WC_seq (WC_seq (WC_region (Lq (q_move rfl) (Lq (q_not rfl) (WL_nil (thenN (WC_false rfl rfl (WC_skip (thenN (WC_seq (WC_seq (WC_region (Lq (q_assign rfl) ?_))))))))))))))))))))
    refine WL_nil (thenN (WC_block (WC_pick (.s (.s (.s (.s (.s (.s (.s (.s (.s (.s (.z))))))))))) (WC_pick (.s (.s (.s (.s (.s (.s (.s (.s (.z))))))))) (WC_pick (.s (.s (.s (.s (.s (.s (.s (.s (.z))))))))) (WC_pick (.s (.s (.s (.s (.s (.s (.s (.s (.z))))))))) (WC_pick (.s (.s (.s (.s (.s (.s (.s (.s (.s (.s (.z))))))))))) (WC_pick (.s (.s (.s (.s (.s (.s (.s (.s (.s (.s (.z))))))))))) (WC_pick (.s (.s (.s (.s (.s (.s (.s (.s (.s (.s (.z))))))))))) (WC_pick (.s (.s (.s (.s (.s (.s (.s (.s (.s (.s (.z))))))))))) (WC_pick (.s (.s (.s (.s (.s (.s (.s (.s (.s (.s (.z))))))))))) ?_)))))))))))
    refine WC_pick (.s (.s (.s (.s (.s (.s (.s (.s (.s (.s (.z))))))))))) (WC_pick (.s (.s (.s (.s (.s (.s (.s (.s (.s (.s (.z))))))))))) ?_)
    refine WC_loopE (α := Nat × Hist × List Ce × List Int × List MR × Option Addr × Nat × Option Addr × Tr × Option Addr × Nat × Option Addr × Nat × Option Addr × Nat) (fun (q, H1, X1, nx1, L1, C, cap1, B4, t1, C1, d1, C2, d2, C3, d3) => ML.length - q)
     (fun (q, H1, X1, nx1, L1, C, cap1, B4, t1, C1, d1, C2, d2, C3, d3) => [(5, .pointer (some ⟨v, 0, none⟩)), (8, .pointer (some ⟨b8, 0, none⟩)), (12, .slice A7 ML.length c7), (13, .pointer (some ⟨vu, 0, none⟩)), (14, .int .i64 q)])
     (fun (q, H1, X1, nx1, L1, C, cap1, B4, t1, C1, d1, C2, d2, C3, d3) => (vwP vu hu bu C1 H1.ents.length d1 C2 d2 C3 d3 nx1 :: hdP hu C H1.ops.length cap1 mu H1.total :: mpP mu L1 :: mkP L1 :: rpP bu B4 :: [(b8, cellsO (idC (H.ents[j].op.c, H.ents[j].op.n)) 37)] :: vwP v h b A1 H.ents.length c1 A2 c2 A3 c3 nx :: hdP h A H.ops.length cap m H.total :: mpP m L :: mkP L :: rpP b B2 :: Ps))
     (fun (q, H1, X1, nx1, L1, C, cap1, B4, t1, C1, d1, C2, d2, C3, d3) => (RdF opD C cap1 H1.ops :: AllF L1 nowF :: TrF B4 t1 :: RdF idD C1 d1 (idsOf H1.ents) :: RdF (De.int .i64) C2 d2 (kindsOf H1.ents) :: RdF De.str C3 d3 (textsOf H1.ents) :: RdF opD A7 c7 ML :: RdF opD A cap H.ops :: AllF L nowF :: TrF B2 t2 :: RdF idD A1 c1 (idsOf H.ents) :: RdF (De.int .i64) A2 c2 (kindsOf H.ents) :: RdF De.str A3 c3 (textsOf H.ents) :: barF :: RdF mvD Am cm ms :: As))
     (fun (q, H1, X1, nx1, L1, C, cap1, B4, t1, C1, d1, C2, d2, C3, d3) => EuI ML q H1 X1 nx1 L1 t1)
     (0, ⟨[], 0⟩, [], List.replicate 9 0, L0, A0u, cap0, B0, t0, A10, c10, A20, c20, A30, c30) ?_ (.cons rfl (.cons rfl (.cons rfl (.cons rfl (.cons rfl (.nil _)))))) (Sk (Sk (Sk (Sk (Sk (Sk (Sk (Sk (Sk (Sk (Sk (Sr)))))))))))) (memc M0 (memc M1 (memc M2 (memc M3 (memc M4 (memc M5 (memc M6 T8))))))) ?_
    ·exact ⟨Nat.zero_le _, VI.zero.weak (by omega), rfl, hr0, wt0, hX0⟩
    ·rintro ⟨q, H1, X1, nx1, L1, C, cap1, B4, t1, C1, d1, C2, d2, C3, d3⟩ hI
     have hle := hI.le
     refine WC_seq (WC_seq (WC_region (Lq (q_move rfl) (Lq (q_move rfl) (Lq (q_len Un51 rfl) (Lq (q_lss rfl rfl) (WL_nil (thenN (WC_cond rfl (fun h149 => ?_) (fun h149 => ?_))))))))))
     ·refine WC_skip (thenN (WC_seq (WC_block (WC_seq (WC_seq ?_)))))
      have hq : q < ML.length := by simpa using h149
      obtain ⟨o, ho⟩ : ∃ o, ML[q]? = some o := ⟨_, List.getElem?_eq_getElem hq⟩
      obtain ⟨q1, q2⟩ := hids o (hML ▸ List.mem_of_getElem? ho)
      obtain ⟨hg, hte, hV2, hop2⟩ := hO2.step hI.vi (by omega) hI.ops ho
      refine WC_elem (k := q) M6 ho (op_open _) fun bo qo yo eo => ?_
      cases eo
      refine WC_draw _ _ [] (.c 0 0 (.c 1 0 (.c 2 0 (.c 3 0 (.c 4 0 (.c 5 0 (.c 6 0 (.c 7 0 (.c 8 0 (.c 9 0 (.c 10 0 (.c 11 0 (.c 12 0 (.c 13 0 (.c 14 0 (.c 15 0 (.c 16 0 .nil))))))))))))))))) mixed (fun _ _ _ _ h => h) (Sk (Sk (Sk (Sk (Sk (Sk (Sk (Sk (Sk (Sk (Sk (Sr)))))))))))) (fun _ h => h) (by kernel_rfl) (by decide) fun ws Z0 => Qe rfl (q_move rfl) (Qe rfl (q_move rfl) (Qe rfl (q_idxRd Un51 ti47 rfl rfl (by first | omega | simp) (by first | omega | simp)) (Qe rfl (q_field (o' := _ + 0) Un47 rfl ti44 rfl rfl) (Qe rfl (q_field (o' := _ + 0) Un44 rfl ti37 rfl rfl) ?_))))
      refine Qe rfl (q_loadFN (k := 0) (vs := [_, _]) Un37 rfl ti37 rfl M0 rfl rfl rfl) (Qe rfl (q_loadN (vs := [_, _]) Un37 rfl ti37 rfl (ownS (ownS (ownS (ownS (ownS (own0)))))) rfl rfl) (Qe rfl (q_aggeql rfl rfl (eq37 _ _ _ _)) (Qe rfl (q_move rfl) (WE_gq rfl rfl rfl rfl q1 (q_move rfl) (by decide) (WE_gq rfl rfl rfl rfl q1 (q_move rfl) (by decide) (WE_gq rfl rfl rfl rfl q1 (q_idxRd Un51 ti47 rfl rfl (by first | omega | simp) (by first | omega | simp)) (by decide) (WE_gq rfl rfl rfl rfl q1 (q_field (o' := _ + 6) Un47 rfl ti37 rfl rfl) (by decide) (WE_gq rfl rfl rfl rfl q1 (q_loadFN (k := 6) (vs := [_, _]) Un37 rfl ti37 rfl M0 rfl rfl rfl) (by decide) (WE_gq rfl rfl rfl rfl q1 (q_loadN (vs := [_, _]) Un37 rfl ti37 rfl (ownS (ownS (ownS (ownS (ownS (own0)))))) rfl rfl) (by decide) ?_)))))))))
      refine WE_gq rfl rfl rfl rfl q1 (q_aggeql rfl rfl (eq37 _ _ _ _)) (by decide) (Qe rfl (q_pickF rfl q1 rfl) (WE_end (WF_nil (thenN (WC_false rfl q2 (WC_skip (thenN (WC_seq (WC_pick (.s (.s (.s (.s (.z))))) (WC_pick (.s (.s (.s (.s (.z))))) (WC_pick (.s (.s (.s (.s (.z))))) (WC_pick (.s (.s (.s (.s (.z))))) ?_))))))))))))
      refine WC_pick (.s (.s (.s (.s (.z))))) (WC_region (Lq (q_move rfl) (Lq (q_move rfl) (Lq (q_move rfl) (Lq (q_move rfl) (Lq (q_idxRd Un51 ti47 rfl rfl (by first | omega | simp) (by first | omega | simp)) (Lq (q_loadFN (k := 0) (vs := [_, _, _, _, _, _, _, _, _]) Un47 rfl ti47 rfl M1 rfl rfl rfl) ?_)))))))
      refine WL_main rfl (OW_callP (takes_1 1024 q X1 vu hu mu bu H1 L1 C cap1 B4 t1 C1 d1 C2 d2 C3 d3 nx1 q o yo.1 yo.2 hI.vi hI.hr hI.wt hI.hX hg (by omega)) (.cons rfl (.cons rfl (.cons rfl (.nil)))) (by decide) (List.Perm.refl _) (memc M16 (memc M3 (memc M4 (memc M5 (memc M6 (memc M7 (memc M8 (memc M2 mem0)))))))) fun u27_6 Lo fs hres => ?_)
      obtain ⟨rfl, L9, A9, cap9, B9, t9, A19, c19, A29, c29, A39, c39, rfl, rfl, hr9, wt9, hX9⟩ := hres
      obtain ⟨H9, hH9⟩ : ∃ z, z = (putF H1 q o).1 := ⟨_, rfl⟩
      obtain ⟨X9, hX99⟩ : ∃ z, z = applyRow (putF H1 q o).2.1 X1 := ⟨_, rfl⟩
      obtain ⟨nx9, hn9⟩ : ∃ z, z = nxF nx1 o.c o.n := ⟨_, rfl⟩
      rw [← hH9] at hr9 hV2 hop2 ⊢
      rw [← hX99] at hX9 hV2
      rw [← hn9] at hV2 ⊢
      refine Lq (q_assign rfl) (WL_nil (thenN (WC_seq (WC_region (Lq (q_move rfl) (Lq (q_not rfl) (WL_nil (thenN (WC_false rfl rfl (WC_skip (blockN (thenN (WC_region (Lq (q_move rfl) (Lq (q_add rfl rfl (wr64 (by omega)) (c := ((q + 1 : Nat) : Int))) (Lq (q_assign rfl) (WL_nil (thenK ?_))))))))))))))))))
      refine ⟨(q + 1, H9, X9, nx9, L9, A9, cap9, B9, t9, A19, c19, A29, c29, A39, c39), ?_, (.cons rfl (.cons rfl (.cons rfl (.cons rfl (.cons rfl (.nil _)))))), (Sk (Sk (Sk (Sk (Sk (Sk (Sk (Sk (Sk (Sk (Sk (Sr)))))))))))), (memc M0 (memc M1 (memc M2 (memc M3 (memc M4 (memc M5 T15))))))⟩
      exact ⟨by show ML.length - (q + 1) < ML.length - q; omega, by omega, hV2, hop2, hr9, wt9, hX9⟩
     ·refine WC_exit (thenExit (thenExit (blockHit (thenN (WC_seq ?_)))))
      try simp only [Bp, Bq] at *
      obtain rfl : q = ML.length := by omega
      have hvis := erase_vis hV hN hj rfl hjk hAB hEr hI.vi (by rw [hI.ops, List.take_length, hML])
      rw [← hX2] at hvis
      have htx : textF t1.row = textF t2.row := by unfold textF vbs; rw [hI.hX, hvis]
      have hul := hI.vi.rule.len
      have hut := hI.vi.total
      have hurl : t1.row.length ≤ 60000 := by rw [hI.hX]; omega
      refine WC_region (Lq (q_assign rfl) (WL_nil (thenN (WC_seq (WC_seq (WC_region (Lq (q_assign rfl) (WL_nil (thenN (WC_block (WC_pick (.s (.s (.s (.s (.s (.s (.s (.s (.s (.s (.z))))))))))) (WC_pick (.s (.s (.s (.s (.s (.s (.s (.s (.s (.s (.z))))))))))) (WC_pick (.s (.s (.s (.s (.s (.s (.s (.s (.s (.s (.z))))))))))) (WC_pick (.s (.s (.s (.s (.s (.s (.s (.s (.s (.s (.z))))))))))) (WC_pick (.s (.s (.s (.s (.s (.s (.s (.s (.s (.s (.z))))))))))) ?_)))))))))))))))
      refine WC_pick (.s (.s (.s (.s (.s (.s (.s (.s (.s (.s (.z))))))))))) (WC_pick (.s (.s (.s (.s (.s (.s (.s (.s (.s (.s (.z))))))))))) (WC_pick (.s (.s (.s (.s (.s (.s (.s (.s (.s (.s (.z))))))))))) (WC_pick (.s (.s (.s (.s (.s (.s (.s (.s (.s (.s (.z))))))))))) (WC_pick (.s (.s (.s (.s (.s (.s (.s (.s (.s (.s (.z))))))))))) (WC_pick (.s (.s (.s (.s (.s (.s (.s (.s (.s (.s (.z))))))))))) ?_)))))
      refine WC_loopE (α := Nat × Nat) (fun (k, c) => H.ents.length - k)
       (fun (k, c) => [(5, .pointer (some ⟨v, 0, none⟩)), (8, .pointer (some ⟨b8, 0, none⟩)), (12, .slice A7 ML.length c7), (13, .pointer (some ⟨vu, 0, none⟩)), (15, .int .i64 c), (16, .int .i64 k)])
       (fun (k, c) => (vwP vu hu bu C1 H1.ents.length d1 C2 d2 C3 d3 nx1 :: hdP hu C H1.ops.length cap1 mu H1.total :: mpP mu L1 :: mkP L1 :: rpP bu B4 :: [(b8, cellsO (idC (H.ents[j].op.c, H.ents[j].op.n)) 37)] :: vwP v h b A1 H.ents.length c1 A2 c2 A3 c3 nx :: hdP h A H.ops.length cap m H.total :: mpP m L :: mkP L :: rpP b B2 :: Ps))
       (fun (k, c) => (RdF opD C cap1 H1.ops :: AllF L1 nowF :: TrF B4 t1 :: RdF idD C1 d1 (idsOf H1.ents) :: RdF (De.int .i64) C2 d2 (kindsOf H1.ents) :: RdF De.str C3 d3 (textsOf H1.ents) :: RdF opD A cap H.ops :: AllF L nowF :: TrF B2 t2 :: RdF idD A1 c1 (idsOf H.ents) :: RdF (De.int .i64) A2 c2 (kindsOf H.ents) :: RdF De.str A3 c3 (textsOf H.ents) :: barF :: RdF mvD Am cm ms :: As))
       (fun (k, c) => k ≤ H.ents.length ∧ c = 1 + stN H.ents[j].op (H.ops.take k))
       (0, 1) ?_ (.cons rfl (.cons rfl (.cons rfl (.cons rfl (.cons rfl (.cons rfl (.nil _))))))) (Sk (Sk (Sk (Sk (Sk (Sk (Sk (Sk (Sk (Sk (Sk (Sr)))))))))))) (memc M0 (memc M1 (memc M2 (memc M3 (memc M4 (memc M5 T7)))))) ?_
      ·exact ⟨Nat.zero_le _, rfl⟩
      ·rintro ⟨k, c⟩ hI2
       have hle2 := hI2.1
       refine WC_seq (WC_seq (WC_region (Lq (q_move rfl) (Lq (q_move rfl) (Lq (q_nil rfl) (Lq (q_field (o' := 2) Un34 rfl ti26 rfl rfl) (Lq (q_load1 Un26 rfl rfl (ownS (ownS (ownS (ownS (ownS (ownS (own0))))))) rfl) (Lq (q_len Un26 rfl) (Lq (q_lss rfl rfl) (WL_nil (thenN (WC_cond rfl (fun h184 => ?_) (fun h184 => ?_)))))))))))))
       ·refine WC_skip (thenN (WC_seq (WC_block (WC_seq ?_))))
        try simp only [Bp, Bq] at *
        have hk : k < H.ents.length := by omega
        obtain ⟨wk, _, hRk⟩ := hO.right (List.mem_map.2 ⟨_, List.getElem_mem hk, rfl⟩)
        have hcn := cnt_next hk hRk hdc.1 hI2.2
        have hcl : stN H.ents[j].op (H.ops.take k) ≤ k := by unfold stN; exact Nat.le_trans List.countP_le_length (by rw [List.length_take]; omega)
        refine WC_region (Lq (q_move rfl) (Lq (q_nil rfl) (Lq (q_field (o' := 0) Un34 rfl ti28 rfl rfl) (Lq (q_load1 Un28 rfl rfl (ownS (ownS (ownS (ownS (ownS (ownS (own0))))))) rfl) (Lq (q_move rfl) (WL_main rfl (OW_call3 (entry_s h m cap A H L hr k) (.cons rfl (.cons rfl (.nil))) (by decide) (.s (.s (.s (.s (.s (.s (.s (.z)))))))) (.s (.s (.s (.s (.s (.s (.s (.z)))))))) (.s (.s (.s (.s (.s (.s (.s (.z)))))))) (memc M6 (memc M7 mem0)) fun u34_5 Lo fs hres => ?_)))))))
        obtain ⟨Af, cf, rfl, rfl, rfl⟩ := hres
        rw [entryF_at hk]
        dsimp only
        obtain ⟨en, hen⟩ : ∃ z, z = entE H.ents[k] := ⟨_, rfl⟩
        rw [← hen] at hcn ⊢
        refine Lq (q_move rfl) (Lq (q_extract (vs := [_, _]) rfl rfl) (Lq (q_extract (vs := [_, _]) rfl rfl) (WL_main rfl (OW_alloc (cs := [_, _, _, _, _, _, _]) ti57 rfl (by decide) fun b17 => WL_main rfl (OW_storeN (cs' := [_, _, _, _, _, _, _]) (vs := [_, _, _, _, _, _, _]) ti57 rfl rfl rfl rfl rfl (Nat.le_of_ble_eq_true rfl) (.z) (Lq (q_assign rfl) (WL_nil (thenN (WC_seq (WC_seq (WC_region (Lq (q_move rfl) (Lq (q_neq rfl rfl) (WL_nil (thenN (WC_false rfl rfl (WC_skip (thenN (WC_seq (WC_region ?_))))))))))))))))))))
        refine Lq (q_field (o' := 5) Un57 rfl ti37 rfl rfl) (Lq (q_loadN (vs := [_, _]) Un37 rfl ti37 rfl own0 rfl rfl) (Lq (q_loadN (vs := [_, _]) Un37 rfl ti37 rfl (ownS (ownS (ownS (ownS (ownS (ownS (ownS (ownS (ownS (own0)))))))))) rfl rfl) (Lq (q_aggeql rfl rfl (eq37 _ _ _ _)) (WL_nil (thenN (WC_cond rfl (fun h201 => ?_) (fun h201 => ?_)))))))
        ·refine WC_region (Lq (q_move rfl) (Lq (q_add rfl rfl (wr64 (by omega)) (c := ((c + 1 : Nat) : Int))) (Lq (q_assign rfl) (WL_nil (blockN (thenN (WC_pick (.s (.s (.s (.s (.s (.s (.s (.s (.s (.s (.s (.z)))))))))))) (WC_pick (.s (.s (.s (.s (.z))))) (WC_pick (.s (.s (.s (.s (.z))))) (WC_pick (.s (.s (.s (.s (.z))))) (WC_pick (.s (.s (.s (.s (.s (.s (.s (.s (.s (.s (.s (.z)))))))))))) ?_)))))))))))
         refine WC_pick (.s (.s (.s (.s (.s (.s (.s (.s (.s (.s (.s (.z)))))))))))) (WC_pick (.s (.s (.s (.s (.s (.s (.s (.s (.s (.s (.s (.z)))))))))))) (WC_pick (.s (.s (.s (.s (.s (.s (.s (.s (.s (.s (.s (.z)))))))))))) (WC_pick (.s (.s (.s (.s (.s (.s (.s (.s (.s (.s (.s (.z)))))))))))) (WC_pick (.s (.s (.s (.s (.s (.s (.s (.s (.s (.s (.s (.z)))))))))))) (WC_pick (.s (.s (.s (.s (.s (.s (.s (.s (.s (.s (.s (.z)))))))))))) (WC_region (Lq (q_move rfl) (Lq (q_add rfl rfl (wr64 (by omega)) (c := ((k + 1 : Nat) : Int))) (Lq (q_assign rfl) ?_)))))))))
         refine WL_nil (thenK ?_)
         refine ⟨(k + 1, c + 1), ?_, (.cons rfl (.cons rfl (.cons rfl (.cons rfl (.cons rfl (.cons rfl (.nil _))))))), (Sk (Sk (Sk (Sk (Sk (Sk (Sk (Sk (Sk (Sk (Sk (Sd (Sr))))))))))))), T1⟩
         exact ⟨by show H.ents.length - (k + 1) < H.ents.length - k; omega, by omega, by have := hcn true (by simpa using h201); simpa using this⟩
        ·refine WC_skip (blockN (thenN (WC_pick (.s (.s (.s (.s (.s (.s (.s (.s (.s (.s (.s (.z)))))))))))) (WC_pick (.s (.s (.s (.s (.z))))) (WC_pick (.s (.s (.s (.s (.z))))) (WC_pick (.s (.s (.s (.s (.z))))) (WC_pick (.s (.s (.s (.s (.s (.s (.s (.s (.s (.s (.s (.z)))))))))))) (WC_pick (.s (.s (.s (.s (.s (.s (.s (.s (.s (.s (.s (.z)))))))))))) (WC_pick (.s (.s (.s (.s (.s (.s (.s (.s (.s (.s (.s (.z)))))))))))) (WC_pick (.s (.s (.s (.s (.s (.s (.s (.s (.s (.s (.s (.z)))))))))))) (WC_pick (.s (.s (.s (.s (.s (.s (.s (.s (.s (.s (.s (.z)))))))))))) ?_)))))))))))
         refine WC_pick (.s (.s (.s (.s (.s (.s (.s (.s (.s (.s (.s (.z)))))))))))) (WC_pick (.s (.s (.s (.s (.s (.s (.s (.s (.s (.s (.s (.z)))))))))))) (WC_region (Lq (q_move rfl) (Lq (q_add rfl rfl (wr64 (by omega)) (c := ((k + 1 : Nat) : Int))) (Lq (q_assign rfl) (WL_nil (thenK ?_)))))))
         refine ⟨(k + 1, c), ?_, (.cons rfl (.cons rfl (.cons rfl (.cons rfl (.cons rfl (.cons rfl (.nil _))))))), (Sk (Sk (Sk (Sk (Sk (Sk (Sk (Sk (Sk (Sk (Sk (Sd (Sr))))))))))))), T1⟩
         exact ⟨by show H.ents.length - (k + 1) < H.ents.length - k; omega, by omega, by have := hcn false (by simpa using h201); simpa using this⟩
       ·refine WC_exit (thenExit (thenExit (blockHit (thenN (WC_seq ?_)))))
        try simp only [Bp, Bq] at *
        obtain rfl : k = H.ents.length := by have := hI2.1; omega
        have hc2 := hI2.2
        rw [← hol, List.take_length, hAB, stN_append, stN_zero (st_ahead hO1), stN_cons, if_neg (fun hs => hjk hs.1)] at hc2
        have hcount : (ML.length : Int) = (H.ents.length : Int) - c := by omega
        refine WC_draw _ _ [] (.c 0 0 (.c 1 0 (.c 2 0 (.c 3 0 (.c 4 0 (.c 5 0 (.c 6 0 (.c 7 0 (.c 8 0 (.c 9 0 (.c 10 0 (.c 11 0 (.c 12 0 (.c 13 0 (.c 14 0 (.c 16 0 (.c 17 0 (.c 18 0 (.c 19 0 (.c 15 2 (.c 20 2 (.c 21 0 (.c 22 0 (.c 23 0 .nil)))))))))))))))))))))))) mixed (fun _ _ _ _ h => h) (Sk (Sk (Sk (Sk (Sd (Sk (Sk (Sk (Sk (Sk (Sd (Sr)))))))))))) (fun _ h => h) (by kernel_rfl) (by decide) fun ws Z0 => Qe rfl (q_move rfl) (Qe rfl (q_len Un51 rfl) (Qe rfl (q_move rfl) (Qe rfl (q_nil rfl) (Qe rfl (q_field (o' := 2) Un34 rfl ti26 rfl rfl) ?_))))
        refine Qe rfl (q_load1 Un26 rfl rfl (ownS (ownS (ownS (ownS (ownS (own0)))))) rfl) (Qe rfl (q_len Un26 rfl) (Qe rfl (q_move rfl) (Qe rfl (q_sub rfl rfl (wr64 (by omega)) (c := (H.ents.length : Int) - c)) (Qe rfl (q_eql rfl rfl) (Qe rfl (q_move rfl) (WE_gq rfl rfl rfl rfl (by rw [hcount]; simp) (q_move rfl) (by decide) (WE_gq rfl rfl rfl rfl (by rw [hcount]; simp) (q_nil rfl) (by decide) (WE_gq rfl rfl rfl rfl (by rw [hcount]; simp) (q_field (o' := 1) Un34 rfl ti29 rfl rfl) (by decide) (WE_gq rfl rfl rfl rfl (by rw [hcount]; simp) (q_load1 Un29 rfl rfl own0 rfl) (by decide) ?_)))))))))
        refine WE_gq rfl rfl rfl rfl (by rw [hcount]; simp) (q_move rfl) (by decide) (WE_gq rfl rfl rfl rfl (by rw [hcount]; simp) (q_nil rfl) (by decide) (WE_gq rfl rfl rfl rfl (by rw [hcount]; simp) (q_field (o' := 1) Un34 rfl ti29 rfl rfl) (by decide) (WE_gq rfl rfl rfl rfl (by rw [hcount]; simp) (q_load1 Un29 rfl rfl (ownS (ownS (ownS (ownS (ownS (own0)))))) rfl) (by decide) (WE_gmain rfl rfl rfl rfl rfl (by rw [hcount]; simp) (OW_call1 (text_s bu B4 t1 hI.wt (by omega)) (.cons rfl (.nil)) (by decide) (.s (.s (.s (.s (.z))))) (memc M3 mem0) fun u39_15 Lo fs hres => ?_)))))
        obtain ⟨rfl, rfl, rfl⟩ := hres
        refine ⟨⟨(Sd (Sk (Sk (Sk (Sk (Sk (Sk (Sk (Sk (Sk (Sd (Sr)))))))))))), M0⟩, ?_⟩
        refine WE_gmain rfl rfl rfl rfl rfl (by rw [hcount]; simp) (OW_call1 (text_s b B2 t2 wt2 (by omega)) (.cons rfl (.nil)) (by decide) (.s (.s (.s (.s (.s (.s (.s (.s (.s (.s (.z))))))))))) (memc M9 mem0) fun u39_20 Lo fs hres => ?_)
        obtain ⟨rfl, rfl, rfl⟩ := hres
        refine ⟨⟨(Sd (Sd (Sk (Sk (Sk (Sk (Sk (Sk (Sk (Sk (Sk (Sr)))))))))))), M0⟩, ?_⟩
        refine WE_gq rfl rfl rfl rfl (by rw [hcount]; simp) (q_seql rfl rfl) (by decide) (Qe rfl (q_pickT rfl (by rw [hcount]; simp) rfl) (Qe rfl (q_assign rfl) (WE_end (WF_nil (thenN (WC_ret ?_))))))
        refine ⟨_, [], [], fun Z w hs => .tmp rfl (.nil), ?_, fun Z w hs => hs.out (Sd (Sd (Sd (Sd (Sd (Sd (Sd (Sd (Sd (Sd (Sd (Sr)))))))))))) T13⟩
        exact ⟨congrArg Value.bool (by rw [htx]; simp [beq_bytes_self]), rfl, rfl⟩

end Go.Proofs.YtcjbjkbghgjmdaaGreatDoor
set_option maxRecDepth 100000
namespace Go.Proofs.YtcjbjkbghgjmdaaGreatDoor.historyErases
open Go Go.GW Go.ChangeShapes Go.WideShapes Go.ChangeAt Go.RowKit
theorem own : ownKnob Tryz.prog.godebug = none := by kernel_rfl
/-- The walk, in the row's words. -/
theorem contract (H : Type) (enc : TypeId × Value → H) (W : World) (base : Nat) (args : Array Value) (ds gs : List (DataW H)) (before : List MemPlace)
  (hval : ∀ (j : Nat) t v, Tryz.f3.params[j]? = some t → args[j]? = some v → Value.okWide Tryz.prog W .any base t v)
  (hW : DataW.Whole enc Tryz.prog Tryz.f3.params.toList Rows.historyErasesSpec.vars false W args.toList ds gs before) (hL : laidMetH Tryz.prog Rows.historyErasesRow.laid W) :
  Calls Tryz.prog 3 args W fun e W' => ∃ v, e = .returned v ∧ Rows.historyErasesSpec.post enc Tryz.prog Tryz.f3 false true false false W args v W' := by
 have hW' := hW
 have hlt := hW.lt
 obtain ⟨p, q, hA0, hV, rfl, hfz, hnd⟩ := hW
 have hA : DataW.TrodAll enc Tryz.prog W 0 (fun _ => true) true Tryz.f3.params.toList args.toList ds p := hA0
 rw [Tryz.params3] at hA hval
 obtain ⟨v0, v1, d0, d1, p0, p1, rfl, rfl, rfl, t0, t1⟩ := trodAll_two hA
 obtain ⟨rfl, rfl⟩ := trodVars_none hV
 clear hA0
 obtain ⟨A0, ms0, c0, rfl, hR0⟩ := mvs_arg (hval 0 22 v0 rfl rfl) t0
 obtain ⟨z1, rfl, -, -, wz1⟩ := open_int Un3 (hval 1 3 v1 rfl rfl) t1
 have hb := bars_of hL
 have hs := st_of (W := W) (As := [barF, RdF mvD A0 c0 ms0]) (fun A hA => by
  simp only [List.mem_cons, List.not_mem_nil, or_false] at hA
  rcases hA with rfl | rfl
  ·exact ⟨hb.2, hb.1⟩
  ·exact hR0)
 refine ((erases_s A0 c0 ms0 z1).calls _ W [] [NearF W (fun b => b < W.heap.size)] hs).mono ?_
 rintro e W' ⟨v, rfl, Z', Lo, fs, ⟨rfl, rfl, rfl⟩, h2⟩
 have hk := h2.facts (NearF W (fun b => b < W.heap.size)) (by simp)
 have hsame : ∀ x ∈ p0 ++ p1 ++ [], W.sameAt W' x := fun x hx => same_of hk (hlt x hx)
 exact ⟨_, rfl, post_plain (pa := p0 ++ p1) (pv := []) hW' (fun _ _ _ => trodAll_cons_mk (shut_bool Un4 _) trodAll_mk0) (fun sp hsp => trodAll_mk2 (WideElems.Trod_stays laidOk (by kernel_rfl) (of_decide_eq_true (by kernel_rfl)) t0 (fun x hx => hsame x (List.mem_append_left _ (List.mem_append_left _ hx))) (fun x hx => hsp x (List.mem_append_left _ (List.mem_append_left _ hx)))) (WideElems.Trod_stays laidOk (by kernel_rfl) (of_decide_eq_true (by kernel_rfl)) t1 (fun x hx => hsame x (List.mem_append_left _ (List.mem_append_right _ hx))) (fun x hx => hsp x (List.mem_append_left _ (List.mem_append_right _ hx))))) (fun _ _ => rfl) rfl (kept_of hk _)⟩
/-- A world for the witness. -/
noncomputable def laidWorld (os : Os) : World :=
 { World.holding Tryz.prog os ⟨#[], #[.slice none 0 0, .int .i64 0], []⟩ with heap := (World.holding Tryz.prog os ⟨#[], #[.slice none 0 0, .int .i64 0], []⟩).heap.modify 0 fun
   | .cells _ t frozen => .cells barC.toArray t frozen
   | o => o }
theorem laid_met (os : Os) : laidMet Tryz.prog Rows.historyErasesRow.laid ((laidWorld os).forCall (fun _ _ => 0) ⟨#[], #[.slice none 0 0, .int .i64 0], []⟩).memory :=
 laidMet_of_run' 8 (by kernel_rfl) (by kernel_rfl)
theorem reads (os : Os) {H : Type} (enc : TypeId × Value → H) : ∃ places, DataW.whole enc Tryz.prog ((laidWorld os).forCall (fun _ _ => 0) ⟨#[], #[.slice none 0 0, .int .i64 0], []⟩).memory Tryz.f3.params.toList Rows.historyErasesSpec.vars false (#[.slice none 0 0, .int .i64 0] : Array Value).toList 8 = some ([.nil, .lit (.int .i64 0)], [], places) :=
 ⟨[], by kernel_rfl⟩
theorem lifted (os : Os) (started : os.Started) (H : Type) (enc : TypeId × Value → H) (F : Stop.Interp) :
  ReturnsInHanded {} Tryz.checked os 3 .any ((OpenSpec.ofChange Rows.historyErasesSpec).preRow enc Tryz.prog Tryz.f3 Rows.historyErasesRow.domain false Rows.historyErasesRow.laid) (((OpenSpec.ofChange Rows.historyErasesSpec).at F).post enc Tryz.prog Tryz.f3 false true false false) := by
 obtain ⟨places, hx⟩ := reads os enc
 refine returnsInHanded_of_row (C := Tryz.checked) (s := OpenSpec.ofChange Rows.historyErasesSpec) own started (by kernel_rfl) Tryz.func3
  (witness_row_at (enc := enc) (C := Tryz.checked) false (laidWorld os) #[.slice none 0 0, .int .i64 0] rfl (by kernel_rfl) (by kernel_rfl) (by kernel_rfl)
   (OpenSpec.preRow_of_cond 8 hx (by kernel_rfl) (fun k hk => by cases hk) (by kernel_rfl) (laid_met os))) ?_
 intro W base args ds gs before hval hW _ _ _ hL _ _
 exact contract H enc W base args ds gs before hval hW hL
theorem said : Rows.HistoryErasesSaid :=
 OpenClaim.holds_of_cond 3 Tryz.f3 rfl rfl rfl rfl rfl rfl rfl ⟨rfl, rfl, rfl, rfl, rfl⟩ rfl rfl rfl rfl rfl (by kernel_rfl) Tryz.func3 (by kernel_rfl)
  (of_decide_eq_true (by kernel_rfl)) (by unfold Func.isWrapper; first | (rw [if_pos (by decide +kernel)]; kernel_rfl) | (rw [if_neg (by decide +kernel)]; exact ⟨rfl, rfl⟩))
  (fun os started H enc _ F => by rw [OpenClaim.pre_eq_preRow]; exact lifted os started H enc F)
theorem plain (f : FuncId) (fn : Func) (hf : Tryz.pinned.checked.prog.funcNamed "redraft/redraftlaw06.HistoryErases" = some f) (hfn : Tryz.pinned.checked.prog.funcs[f]? = some fn) :
  false = Tryz.pinned.checked.prog.looks [] ∧ ∀ (j : Nat) t, fn.params[j]? = some t → Tryz.pinned.checked.prog.wantsStandIn t = false := by
 obtain rfl : f = 3 := Option.some.inj ((show Tryz.prog.funcNamed "redraft/redraftlaw06.HistoryErases" = some 3 by kernel_rfl).symm.trans hf) |>.symm
 obtain rfl : fn = Tryz.f3 := (Option.some.inj (Tryz.func3.symm.trans hfn)).symm
 refine ⟨by kernel_rfl, fun j t ht => ?_⟩
 rw [Tryz.params3] at ht
 rcases j with _ | _ | j
 ·simp at ht; subst ht; kernel_rfl
 ·simp at ht; subst ht; kernel_rfl
 ·simp at ht
theorem card : Rows.HistoryErasesCardSaid :=
 Claim7.holds_tied_plain_at .later [] _ _ _ _ said (fun _ h => by cases h) (by kernel_rfl) (fun _ h => by cases h) historyErases_row_tie rfl ⟨rfl, rfl⟩ (by kernel_rfl) rfl plain (by kernel_rfl)
#print axioms card
end Go.Proofs.YtcjbjkbghgjmdaaGreatDoor.historyErases
