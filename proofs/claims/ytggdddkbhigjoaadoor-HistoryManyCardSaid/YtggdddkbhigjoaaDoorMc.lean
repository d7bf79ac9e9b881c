/- Words for the walk of HistoryMany. -/
import Derived.Test.YtggdddkbhigjoaaDoorMb
import Derived.Test.YtggdddkbhigjoaaDoorEq
set_option linter.unusedVariables false
namespace Go.Proofs.YtggdddkbhigjoaaDoor
open Go Go.GW
variable {T : List Rg}
theorem hr0 : HR (Hk 0) [] where
  perm := List.Perm.nil
  ids := List.nodup_nil
  fit := fun e h => nomatch h
  wid := fun e h => nomatch h
  now := fun e h => nomatch h
  len := Nat.zero_le _
  tot := by decide
theorem fit_ins (k : Nat) (h : k < 256) : Fit (insOp k) := ⟨by show (textB k 256).size ≤ _; unfold textB; rw [mkB_size]; have := textL_len 256 k; omega, by show (0 : Nat) ≤ _; omega, by show _ ≤ 256 * (k : Int); omega, by show 256 * (k : Int) ≤ _; omega⟩
theorem fit_d (h : TOk T) : Fit (dOp T) := ⟨by show (0 : Nat) ≤ _; omega, by show T.length + 1 ≤ _; have := h.len; omega, by show _ ≤ (0 : Int); omega, by show (0 : Int) ≤ _; omega⟩
theorem fit_x {a : Int} (h : 0 ≤ a ∧ a ≤ 100) : Fit (xOp a) := ⟨by show (mkB [120]).size ≤ _; rw [mkB_size]; decide, by show (0 : Nat) ≤ _; omega, by show _ ≤ a; omega, by show a ≤ _; omega⟩
theorem hk_ops (k : Nat) : (Hk k).ents.length = k := insL_len k
/-- What is known of the history behind the delete. -/
structure Dk (T : List Rg) (H2 H3 : Hist) : Prop where
  len : H2.ops.length = 257
  elen : H2.ents.length = 257
  tot : H2.total = 65536
  x1 : putF H2 256 (xOp 1) = (H2, zeroOp, 21)
  x2 : putF H2 257 (xOp 1) = (H2, zeroOp, 21)
  x3 : putF H2 256 (xOp 2) = (H3, effX, 0)
  last : ∀ e ∈ H2.ents, e.op.c ≠ 3
  len3 : H3.ents.length = 258
  tot3 : H3.total = 65537
  ent3 : H3.ents[257]? = some ⟨dOp2 T, dRs2 T, false⟩
  ops3 : (H3.ops.take 258).drop 257 = [dOp2 T]
theorem Dk.mk' (h : TOk T) : Dk T (Hd T) (Hx T) := by
  have hlen : (Hd T).ents.length = 257 := by show (insL 256 ++ [_]).length = 257; rw [List.length_append, insL_len]; rfl
  have hl2 : insL2.length = 256 := by unfold insL2; rw [List.length_map, insL_len]
  have hx : (Hx T).ents = insL2 ++ [⟨xOp 2, [⟨2, 3⟩], false⟩, ⟨dOp2 T, dRs2 T, false⟩] := rfl
  refine ⟨by unfold Hist.ops; rw [List.length_map, hlen], hlen, rfl, put_x1 h, put_x2 h, put_x3 h, fun e he hc => ?_, by rw [hx, List.length_append, hl2]; rfl, rfl, ?_, ?_⟩
  · rcases List.mem_append.1 he with he | he
    · obtain ⟨j, hj, rfl⟩ := insL_mem he
      have : (1 : Int) = 3 := hc
      omega
    · rw [List.mem_singleton.1 he] at hc
      have : (2 : Int) = 3 := hc
      omega
  · rw [hx, List.getElem?_append_right (by rw [hl2]; omega), hl2]; rfl
  · unfold Hist.ops
    rw [hx, List.map_append]
    have e1 : (insL2.map (·.op)).length = 256 := by rw [List.length_map, hl2]
    rw [List.take_append, e1, List.take_of_length_le (by rw [e1]; omega), List.drop_append, e1, List.drop_eq_nil_of_le (by rw [e1]; omega)]
    rfl
end Go.Proofs.YtggdddkbhigjoaaDoor
