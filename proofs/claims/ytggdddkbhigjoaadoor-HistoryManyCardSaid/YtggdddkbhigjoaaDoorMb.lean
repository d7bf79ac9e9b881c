/- The plain law of HistoryMany, call by call. -/
import Derived.Test.YtggdddkbhigjoaaDoorMa
set_option linter.unusedVariables false
namespace Go.Proofs.YtggdddkbhigjoaaDoor
open Go Go.GW
variable {T : List Rg}
theorem own_ins (j : Nat) (h : j < 256) : ownF (insOp j) = 0 := by
  unfold ownF
  rw [if_pos ⟨rfl, by show (0 : Int) ≤ 256 * j; omega, by show 256 * (j : Int) ≤ _; omega⟩]
  exact check_ins (utF_text j 256) (by omega) (by decide) (by show 0 ≤ 256 * (j : Int) ∧ 256 * (j : Int) ≤ 256 * j; omega) (by show 256 * (j : Int) + _ ≤ _; omega)
theorem own_x (a : Int) (h : 0 ≤ a ∧ a ≤ 100) : ownF (xOp a) = 0 := by
  unfold ownF
  rw [if_pos ⟨rfl, by show (0 : Int) ≤ a; omega, by show a ≤ _; omega⟩]
  exact check_ins x_text (by decide) (by decide) (by show 0 ≤ a ∧ a ≤ a; omega) (by show a + 1 ≤ _; omega)
theorem check_d (h : TOk T) {t : Int} (ht : 65536 ≤ t ∧ t ≤ 1048576) : checkF (dOp T) t = 0 := by
  unfold checkF
  rw [if_neg (by omega), if_neg (by show ¬ ((2 : Int) < 1 ∨ (2 : Int) > 4); omega), if_neg (by unfold rightF dOp; simp), if_neg (by unfold extraF dOp; simp; decide), if_neg (by show ¬ (2 : Int) = 1; decide), if_neg (by show ¬ (2 : Int) = 4; decide)]
  unfold rangesF
  show (match (dRs T).getLast? with | none => (43 : Int) | some r => if (ckF (dRs T)).2 ≠ 0 then (ckF (dRs T)).2 else if r.hi > t then 12 else 0) = 0
  cases hq : (dRs T).getLast? with
  | none => simp at hq
  | some r =>
    have := h.hi2 r (List.mem_of_getLast? hq)
    simp only [h.ck]
    rw [if_neg (by simp), if_neg (by omega)]
theorem own_d (h : TOk T) : ownF (dOp T) = 0 := by
  unfold ownF
  rw [if_neg (by unfold dOp; simp)]
  exact check_d h (by decide)
theorem width_d : widthF (dOp T) = 0 := by unfold widthF dOp; rw [if_neg (by show ¬ (2 : Int) = 1; decide)]
/-- An insert is taken at the end. -/
theorem put_ins (k : Nat) (hk : k < 256) : ∃ eff, putF (Hk k) k (insOp k) = (Hk (k + 1), eff, 0) := by
  have hb : beforeF (Hk k) k = 256 * k := by
    unfold beforeF Hk
    rw [List.take_of_length_le (by rw [insL_len]; exact Nat.le_refl _), sum_ins]
  have hw : whereId (insL k) 1 ((k : Int) + 1) = none := by
    have := where_ins (k := k) (c := 1) (n := (k : Int) + 1) (r := []) (fun j hj hh => by omega) (fun e he => by cases he)
    simpa using this
  have hf : fitsF (Hk k) k (insOp k) = 0 := by
    unfold fitsF
    rw [if_neg (by show ¬ ((k : Int) < 0 ∨ (k : Int) > ((insL k).length : Nat)); rw [insL_len]; omega), Int.toNat_natCast, hb]
    have hc := check_ins (c := 1) (n := (k : Int) + 1) (at_ := 256 * k) (t := 256 * k) (utF_text k 256) (by omega) (by decide) (by omega) (by show 256 * (k : Int) + _ ≤ _; omega)
    have hc' : checkF (insOp k) (256 * (k : Int)) = 0 := hc
    rw [if_neg (by simpa using hc'), if_neg (by show ¬ (1 : Int) = 3; decide), if_neg (by show ¬ ((1 : Int) = 0 ∧ _); simp)]
    show (if (whereId (insL k) 1 ((k : Int) + 1)).isSome = true then (61 : Int) else _) = 0
    rw [hw]
    simp only [Option.isSome_none, Bool.false_eq_true, if_false]
    rw [if_neg (by show ¬ (1 : Int) = 4; decide)]
    unfold fitsRest
    rw [ins_width, if_neg (by show ¬ 256 * (k : Int) + 256 > _; omega)]
  have hx : crossF [insOp k] ((Hk k).ops.drop k) = ([insOp k], [], 0) := by
    have : (Hk k).ops.drop k = [] := List.drop_eq_nil_of_le (by unfold Hk Hist.ops; rw [List.length_map, insL_len]; exact Nat.le_refl _)
    rw [this]; exact crossF_end (own_ins k hk)
  have hm : midF (Hk k) k (insOp k) (insOp k) = .ok ⟨insL k, [⟨256 * k, 256 * k + 256⟩], { effF (insOp k) with at_ := (insOp k).at_, text := (insOp k).text }⟩ := by
    unfold midF
    rw [if_pos (show (insOp k).kind = 1 from rfl), ins_width]
    have hmv : movedAll (Hk k).ents (insOp k).at_ 256 = .ok ((insL k).map fun e => (thrF e.now (256 * k) 256).1) := movedAll_ok fun e he => by
      obtain ⟨j, hj, rfl⟩ := insL_mem he
      show (thrF [⟨256 * j, 256 * j + 256⟩] (256 * k) 256).2 = 0
      rw [thrF_same (by simp only; omega) (by omega) (by decide)]
    rw [hmv]
    simp only
    have hs : setNow (Hk k).ents ((insL k).map fun e => (thrF e.now (256 * k) 256).1) (Hk k).ents.length = insL k := by
      show setNow (insL k) ((insL k).map fun e => (thrF e.now (256 * k) 256).1) (insL k).length = insL k
      rw [setNow_map]
      conv => rhs; rw [← List.map_id (insL k)]
      apply List.map_congr_left
      intro e he
      obtain ⟨j, hj, rfl⟩ := insL_mem he
      show (⟨insOp j, (thrF [⟨256 * j, 256 * j + 256⟩] (256 * k) 256).1, false⟩ : Ent) = insE j
      rw [thrF_same (by simp only; omega) (by omega) (by decide)]; rfl
    rw [hs]; rfl
  refine ⟨{ effF (insOp k) with at_ := (insOp k).at_, text := (insOp k).text }, ?_⟩
  have h4 := put_4 (H := Hk k) (i := (k : Int)) (o := insOp k) (t := insOp k) hf (by rw [Int.toNat_natCast, hx]) (by rw [Int.toNat_natCast, hx]) (by rw [Int.toNat_natCast]; exact hm)
  rw [h4, Int.toNat_natCast, hx, ins_width]
  congr 1
  unfold Hk
  simp only [Hist.mk.injEq]
  exact ⟨newEnts_end (insL_len k), by omega⟩
/-- The great delete is taken behind them. -/
theorem put_d (h : TOk T) : ∃ eff, putF (Hk 256) 256 (dOp T) = (Hd T, eff, 0) := by
  have hb : beforeF (Hk 256) 256 = 65536 := by
    unfold beforeF Hk
    rw [List.take_of_length_le (by rw [insL_len]; exact Nat.le_refl _), sum_ins]; rfl
  have hw : whereId (insL 256) 2 1 = none := by
    have := where_ins (k := 256) (c := 2) (n := 1) (r := []) (fun j hj hh => by omega) (fun e he => by cases he)
    simpa using this
  have hf : fitsF (Hk 256) 256 (dOp T) = 0 := by
    unfold fitsF
    rw [if_neg (by show ¬ ((256 : Int) < 0 ∨ (256 : Int) > ((insL 256).length : Nat)); rw [insL_len]; omega)]
    show (if checkF (dOp T) (beforeF (Hk 256) 256) ≠ 0 then _ else _) = (0 : Int)
    rw [hb, if_neg (by simpa using check_d h (by decide)), if_neg (by show ¬ (2 : Int) = 3; decide), if_neg (by show ¬ ((2 : Int) = 0 ∧ _); simp)]
    show (if (whereId (insL 256) 2 1).isSome = true then (61 : Int) else _) = 0
    rw [hw]
    simp only [Option.isSome_none, Bool.false_eq_true, if_false]
    rw [if_neg (by show ¬ (2 : Int) = 4; decide)]
    unfold fitsRest
    rw [width_d, if_neg (by show ¬ (256 * ((256 : Nat) : Int)) + 0 > _; decide)]
  have hx : crossF [dOp T] ((Hk 256).ops.drop 256) = ([dOp T], [], 0) := by
    have : (Hk 256).ops.drop 256 = [] := List.drop_eq_nil_of_le (by unfold Hk Hist.ops; rw [List.length_map, insL_len]; exact Nat.le_refl _)
    rw [this]; exact crossF_end (own_d h)
  have hm : midF (Hk 256) 256 (dOp T) (dOp T) = .ok ⟨insL 256, dRs T, { effF (dOp T) with rs := dRs T }⟩ := by
    unfold midF
    rw [if_neg (show ¬ (dOp T).kind = 1 by show ¬ (2 : Int) = 1; decide), if_pos (show (dOp T).kind = 2 from rfl)]; rfl
  refine ⟨{ effF (dOp T) with rs := dRs T }, ?_⟩
  have h4 := put_4 (H := Hk 256) (i := ((256 : Nat) : Int)) (o := dOp T) (t := dOp T) hf (by rw [Int.toNat_natCast, hx]) (by rw [Int.toNat_natCast, hx]) (by rw [Int.toNat_natCast]; exact hm)
  rw [Int.toNat_natCast, hx, width_d] at h4
  refine Eq.trans (show putF (Hk 256) 256 (dOp T) = putF (Hk 256) ((256 : Nat) : Int) (dOp T) from rfl) (h4.trans ?_)
  have e : (⟨newEnts 256 (dOp T) (dRs T) (insL 256) [], (Hk 256).total + 0⟩ : Hist) = Hd T := by
    rw [newEnts_end (insL_len 256)]; rfl
  exact congrArg (fun x => (x, { effF (dOp T) with rs := dRs T }, (0 : Int))) e
theorem where_x {n : Int} : whereId (Hd T).ents 3 n = none := by
  refine where_ins (fun j hj hh => by omega) (fun e he hh => ?_)
  rw [List.mem_singleton.1 he] at hh
  have : (3 : Int) = 2 := hh.1
  omega
theorem before_d (i : Nat) (hi : 256 ≤ i) : beforeF (Hd T) i = 65536 := by
  unfold beforeF Hd
  simp only
  rw [List.take_append, insL_len, List.take_of_length_le (by rw [insL_len]; exact hi), sumW_append, sum_ins]
  have : sumW (List.take (i - 256) [(⟨dOp T, dRs T, false⟩ : Ent)]) = 0 := by
    rcases Nat.eq_zero_or_pos (i - 256) with h0 | h0
    · rw [h0]; rfl
    · rw [List.take_of_length_le (by simp; omega)]
      show widthF (dOp T) + 0 = 0
      rw [width_d]; rfl
  rw [this]; rfl
theorem fits_x (i : Nat) (hi : 256 ≤ i ∧ i ≤ 257) {a : Int} (ha : 0 ≤ a ∧ a ≤ 100) : fitsF (Hd T) i (xOp a) = 0 := by
  unfold fitsF
  have hlen : (Hd T).ents.length = 257 := by show (insL 256 ++ [_]).length = 257; rw [List.length_append, insL_len]; rfl
  rw [if_neg (by rw [hlen]; omega), Int.toNat_natCast, before_d i hi.1]
  have hc : checkF (xOp a) 65536 = 0 := check_ins x_text (by decide) (by decide) (by omega) (by omega)
  rw [if_neg (by simpa using hc), if_neg (by show ¬ (1 : Int) = 3; decide), if_neg (by show ¬ ((3 : Int) = 0 ∧ _); simp)]
  show (if (whereId (Hd T).ents 3 1).isSome = true then (61 : Int) else _) = 0
  rw [where_x]
  simp only [Option.isSome_none, Bool.false_eq_true, if_false]
  rw [if_neg (by show ¬ (1 : Int) = 4; decide)]
  unfold fitsRest
  rw [x_width, if_neg (by show ¬ (65536 : Int) + 1 > _; decide)]
theorem ops_d : (Hd T).ops.drop 256 = [dOp T] := by
  unfold Hd Hist.ops
  simp only [List.map_append]
  rw [List.drop_append_of_le_length (by rw [List.length_map, insL_len]; exact Nat.le_refl _), List.drop_eq_nil_of_le (by rw [List.length_map, insL_len]; exact Nat.le_refl _)]; rfl
theorem owns_x {a : Int} (ha : 0 ≤ a ∧ a ≤ 100) : ownsF [xOp a] = 0 := by
  unfold ownsF ownsF
  rw [if_neg (by simpa using own_x a ha)]
theorem owns_d (h : TOk T) : ownsF [dOp T] = 0 := by
  unfold ownsF ownsF
  rw [if_neg (by simpa using own_d h)]
theorem inc_d {a : Int} : includeF (dOp T) (xOp a) true = rangedF (dOp T) (thrF (dRs T) a 1).1 (thrF (dRs T) a 1).2 := by
  unfold includeF
  rw [if_neg (by unfold clashF dOp xOp; simp), if_neg (by unfold xOp; simp), if_neg (by unfold dOp; simp), if_pos (by left; rfl), x_width]; rfl
theorem inc_x {a : Int} : includeF (xOp a) (dOp T) false = (xOp a, 0) := by
  unfold includeF
  rw [if_neg (by unfold clashF dOp xOp; simp), if_pos (by unfold dOp; simp)]
/-- An insert that would split one of the ranges is refused, ahead of the delete .. -/
theorem put_x1 (h : TOk T) : putF (Hd T) 256 (xOp 1) = (Hd T, zeroOp, 21) := by
  have hx : crossF [xOp 1] ((Hd T).ops.drop 256) = ([], [], 21) := by
    rw [ops_d]
    refine crossF_3 (owns_x (by decide)) (owns_d h) ?_
    have h1 : (includeF (dOp T) (xOp 1) true).2 = 21 := by
      rw [inc_d, h.thr1]; unfold rangedF; rw [if_pos (by decide)]
    rw [crossOut_cons, crossIn_err1 (by rw [h1]; decide), h1]; rfl
  have h2 := put_2 (H := Hd T) (i := ((256 : Nat) : Int)) (o := xOp 1) (fits_x 256 (by decide) (by decide)) (by rw [Int.toNat_natCast, hx]; decide)
  refine Eq.trans h2 ?_
  rw [Int.toNat_natCast, hx]
theorem fine_ins {a : Int} (ha : 0 ≤ a ∧ a ≤ 100) : ∀ e ∈ insL 256, (thrF e.now a 1).2 = 0 := fun e he => by
  obtain ⟨j, hj, rfl⟩ := insL_mem he
  exact thrF_fine (by simp only; omega) (by omega) (by decide)
/-- .. and behind it. -/
theorem put_x2 (h : TOk T) : putF (Hd T) 257 (xOp 1) = (Hd T, zeroOp, 21) := by
  have hlen : (Hd T).ents.length = 257 := by show (insL 256 ++ [_]).length = 257; rw [List.length_append, insL_len]; rfl
  have hx : crossF [xOp 1] ((Hd T).ops.drop 257) = ([xOp 1], [], 0) := by
    have : (Hd T).ops.drop 257 = [] := List.drop_eq_nil_of_le (by unfold Hist.ops; rw [List.length_map, hlen]; exact Nat.le_refl _)
    rw [this]; exact crossF_end (own_x 1 (by decide))
  have hm : midF (Hd T) 257 (xOp 1) (xOp 1) = .error 21 := by
    unfold midF
    rw [if_pos (show (xOp 1).kind = 1 from rfl), x_width]
    have hmv : movedAll (Hd T).ents (xOp 1).at_ 1 = .error 21 := by
      have h1 := movedAll_bad (es := insL 256) (d := ⟨dOp T, dRs T, false⟩) (at_ := 1) (n := 1) (fine_ins (by decide)) (by rw [h.thr1]; decide)
      rw [h.thr1] at h1
      exact h1
    rw [hmv]
  have h3 := put_3 (H := Hd T) (i := ((257 : Nat) : Int)) (o := xOp 1) (t := xOp 1) (fits_x 257 (by decide) (by decide)) (by rw [Int.toNat_natCast, hx]) (by rw [Int.toNat_natCast, hx]) (by rw [Int.toNat_natCast]; exact hm)
  exact h3
def dOp2 (T : List Rg) : GOp := ⟨2, 1, 2, 0, ⟨#[]⟩, dRs2 T, 0, 0, false⟩
def effX : GOp := { effF (xOp 2) with at_ := 2, text := mkB [120] }
def insL2 : List Ent := (insL 256).map fun e => ⟨e.op, (thrF e.now 2 1).1, e.off⟩
def Hx (T : List Rg) : Hist := ⟨insL2 ++ [⟨xOp 2, [⟨2, 3⟩], false⟩, ⟨dOp2 T, dRs2 T, false⟩], 65537⟩
/-- One between two of them is taken. -/
theorem put_x3 (h : TOk T) : putF (Hd T) 256 (xOp 2) = (Hx T, effX, 0) := by
  have hx : crossF [xOp 2] ((Hd T).ops.drop 256) = ([xOp 2], [dOp2 T], 0) := by
    rw [ops_d]
    refine crossF_4 (owns_x (by decide)) (owns_d h) ?_
    have h1 : includeF (dOp T) (xOp 2) true = (dOp2 T, 0) := by
      rw [inc_d, h.thr2]; unfold rangedF; rw [if_neg (by simp)]; rfl
    rw [crossOut_cons, crossIn_ok (by rw [h1]; simp) (by rw [inc_x]; simp), h1, inc_x]; rfl
  have hm : midF (Hd T) 256 (xOp 2) (xOp 2) = .ok ⟨insL2 ++ [⟨dOp T, dRs2 T, false⟩], [⟨2, 3⟩], effX⟩ := by
    unfold midF
    rw [if_pos (show (xOp 2).kind = 1 from rfl), x_width]
    have hmv : movedAll (Hd T).ents (xOp 2).at_ 1 = .ok ((Hd T).ents.map fun e => (thrF e.now 2 1).1) := movedAll_ok fun e he => by
      rcases List.mem_append.1 he with he | he
      · exact fine_ins (by decide) e he
      · rw [List.mem_singleton.1 he]; show (thrF (dRs T) 2 1).2 = 0; rw [h.thr2]
    rw [hmv]
    simp only
    rw [setNow_map]
    have e1 : ((Hd T).ents.map fun e => (⟨e.op, (thrF e.now 2 1).1, e.off⟩ : Ent)) = insL2 ++ [⟨dOp T, dRs2 T, false⟩] := by
      show (insL 256 ++ [_]).map _ = _
      rw [List.map_append]
      show insL2 ++ [(⟨dOp T, (thrF (dRs T) 2 1).1, false⟩ : Ent)] = _
      rw [h.thr2]
    rw [e1]; rfl
  have h4 := put_4 (H := Hd T) (i := ((256 : Nat) : Int)) (o := xOp 2) (t := xOp 2) (fits_x 256 (by decide) (by decide)) (by rw [Int.toNat_natCast, hx]) (by rw [Int.toNat_natCast, hx]) (by rw [Int.toNat_natCast]; exact hm)
  rw [Int.toNat_natCast, hx, x_width] at h4
  refine Eq.trans (show putF (Hd T) 256 (xOp 2) = putF (Hd T) ((256 : Nat) : Int) (xOp 2) from rfl) (h4.trans ?_)
  have hl2 : insL2.length = 256 := by unfold insL2; rw [List.length_map, insL_len]
  have e : (⟨newEnts 256 (xOp 2) [⟨2, 3⟩] (insL2 ++ [⟨dOp T, dRs2 T, false⟩]) [dOp2 T], (Hd T).total + 1⟩ : Hist) = Hx T := by
    unfold newEnts
    rw [List.take_append_of_le_length (by omega), List.take_of_length_le (by omega), List.drop_append_of_le_length (by omega), List.drop_eq_nil_of_le (by omega)]
    rfl
  exact congrArg (fun x => (x, effX, (0 : Int))) e
end Go.Proofs.YtggdddkbhigjoaaDoor
