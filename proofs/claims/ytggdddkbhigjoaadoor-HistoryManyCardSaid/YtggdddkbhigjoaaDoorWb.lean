/- Walks: Clone. -/
import Derived.Test.YtggdddkbhigjoaaDoorWa
set_option linter.unusedVariables false
set_option linter.unusedSimpArgs false
namespace Go.Proofs.YtggdddkbhigjoaaDoor
open Go Go.GW

set_option maxRecDepth 10000 in
theorem clone_s (o : GOp) (A : Option Addr) (c : Nat) (hl : o.rs.length ≤ 4398046511104) : Sp Tryd.prog 40 [opV o A c] [] [RdF rgD A c o.rs] (fun v Lo fs => ∃ A' c', v = opV o A' c' ∧ Lo = [] ∧ fs = [RdF rgD A' c' o.rs]) := by
  refine Sp.of (n := 8) ⟨_, Tryd.func40, rfl, rfl, rfl, rfl⟩ (Nat.le_of_ble_eq_true rfl) fun Ps As => ?_
  refine WC_seq ?_
  refine WC_region ?_
  refine WL_main rfl (OW_box (cs := [_, _, _, _, _, _, _, _, _]) rfl rfl (by decide) fun b1 => ?_)
  refine WL_main rfl (OW_alloc (cs := [_, _, _, _, _, _, _, _, _]) ti31 rfl (by decide) fun b2 => ?_)
  refine WL_nil ?_
  refine thenN ?_
  refine WC_seq ?_
  refine WC_region ?_
  refine WL_q (q_field (o' := 5) Tryd.underlying31 rfl ti29 rfl rfl) (by decide) ?_
  refine WL_q (q_load1 Tryd.underlying29 rfl rfl (ownS (own0)) rfl) (by decide) ?_
  refine WL_nilPart ?_
  refine WL_main rfl (OW_appendS (e := rgD) (ys := o.rs) Tryd.underlying29 ti37 rfl (by decide) rfl rfl (Row.nil _ _) (.head _) (by simp only [Nat.zero_add]; omega) (by unfold maxLen; omega) (by decide) (List.Perm.refl _) fun v5 p5 cs5 hr5 => ?_)
  refine WL_freeze (e := rgD) (css := cs5) hr5 (.z) (by simp) (.head _) fun A5 c5 e5 => ?_
  subst e5
  refine WL_q (q_field (o' := 5) Tryd.underlying31 rfl ti29 rfl rfl) (by decide) ?_
  refine WL_main rfl (OW_store1 ti29 rfl rfl rfl (.s (.s (.s (.s (.s (.z)))))) (.s (.z)) ?_)
  refine WL_nil ?_
  refine thenN ?_
  refine WC_seq ?_
  refine WC_region ?_
  refine WL_q (q_loadN (vs := [_, _, _, _, _, _, _, _, _]) Tryd.underlying31 rfl ti31 rfl (ownS (own0)) rfl rfl) (by decide) ?_
  refine WL_main rfl (OW_storeN (cs' := [_, _, _, _, _, _, _, _, _]) (vs := [_, _, _, _, _, _, _, _, _]) ti31 rfl rfl rfl rfl rfl (Nat.le_of_ble_eq_true rfl) (.z) ?_)
  refine WL_nil ?_
  refine thenN ?_
  refine WC_ret ?_
  refine ⟨_, [], [RdF rgD A5 c5 o.rs], fun Z w hs => RV_ownN hs Tryd.underlying31 rfl ti31 rfl own0 rfl (.nil), ?_, fun Z w hs => hs.out (List.Sublist.cons _ (List.Sublist.cons _ (List.Sublist.refl _))) (memc (.head _) (fun _ h => .tail _ (.tail _ h)))⟩
  exact ⟨A5, c5, rfl, rfl, rfl⟩

end Go.Proofs.YtggdddkbhigjoaaDoor
