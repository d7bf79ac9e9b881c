/- From the laid table to the walks' fact; from a contract of mine to the row's condition. -/
import Derived.Test.YtggdddkbhigjoaaDoorCards
import Derived.Test.YtggdddkbhigjoaaDoorUt
import Derived.WalkKit
import Derived.ProofKit
import Derived.OpenShut
import Derived.Deep.DeepHandedRow
import Derived.Lib.LaidTab
set_option linter.unusedVariables false
namespace Go.Proofs.YtggdddkbhigjoaaDoor
open Go Go.GW Go.ChangeShapes Go.WideShapes Go.ChangeAt Go.RowKit
theorem gBars : Tryd.prog.globalNamed "redraft/utext.bars" = some 0 := by kernel_rfl
theorem gBarsT : (Tryd.prog.globals[0]?).map (·.type) = some 187 := by kernel_rfl
theorem cells187 : Tryd.prog.cellsOf 187 = 10 := by kernel_rfl
theorem cells186 : Tryd.prog.cellsOf 186 = 2 := by kernel_rfl
theorem cells21 : Tryd.prog.cellsOf 21 = 1 := by kernel_rfl
section
variable {H : Type} {enc : TypeId × Value → H} {w : World} {base : Nat} {sp : Nat → Bool} {held : Bool} {fuel : Nat}
theorem bar_one {cs : List Value} {x : DataW H × List MemPlace} {lo hi : Int} (h : DataW.trod enc Tryd.prog w base sp held fuel 186 cs = some x) (hx : x.1 = .agg [.lit (.int .i32 lo), .lit (.int .i32 hi)]) : cs = [.int .i32 lo, .int .i32 hi] := by
  obtain ⟨y0, y1, n, rfl, hl, h0, h1⟩ := trod_struct2 Tryd.underlying186 h
  rw [cells186] at hl
  obtain ⟨n0, e0, rfl, _⟩ := DataW.trod_int Tryd.underlying21 h0
  obtain ⟨n1, e1, rfl, _⟩ := DataW.trod_int Tryd.underlying21 h1
  simp only [DataW.agg.injEq, List.cons.injEq, DataW.lit.injEq, Lit.int.injEq, true_and, and_true] at hx
  obtain ⟨rfl, rfl⟩ := hx
  rw [cells21] at e0 e1
  clear h h0 h1
  rcases cs with _ | ⟨a, _ | ⟨b, _ | ⟨c, cs⟩⟩⟩
  · cases hl
  · cases hl
  · have a0 : [a] = [Value.int .i32 n0] := e0
    have a1 : [b] = [Value.int .i32 n1] := e1
    rw [List.singleton_inj.1 a0, List.singleton_inj.1 a1]
  · simp at hl
theorem bars_cells {cs : List Value} {p : List MemPlace} (h : DataW.trod enc Tryd.prog w base sp held fuel 187 cs = some (Rows.laid_redraft_utext_bars, p)) : cs = barC := by
  cases fuel with
  | zero => simp [DataW.trod] at h
  | succ fuel =>
    simp only [DataW.trod, Tryd.underlying187, cells187, cells186] at h
    split at h
    · rename_i hl
      obtain ⟨xs, hm, hx⟩ := Option.map_eq_some_iff.1 h
      have hxs : xs.map (·.1) = [.agg [.lit (.int .i32 0), .lit (.int .i32 8)], .agg [.lit (.int .i32 11), .lit (.int .i32 31)], .agg [.lit (.int .i32 127), .lit (.int .i32 159)], .agg [.lit (.int .i32 64976), .lit (.int .i32 65007)], .agg [.lit (.int .i32 65279), .lit (.int .i32 65279)]] := by
        have := congrArg Prod.fst hx
        simpa [Rows.laid_redraft_utext_bars] using this
      have key : ∀ (i : Nat) (hi : i < 5) (lo hi' : Int), (xs.map (·.1))[i]? = some (.agg [.lit (.int .i32 lo), .lit (.int .i32 hi')]) → (cs.drop (i * 2)).take 2 = [.int .i32 lo, .int .i32 hi'] := by
        intro i hi lo hi' he
        obtain ⟨b, hb, hf⟩ := Lib.mapM_at hm i i (by simp [hi])
        rw [List.getElem?_map, hb] at he
        exact bar_one hf (Option.some.inj he)
      have k0 := key 0 (by decide) 0 8 (by rw [hxs]; rfl)
      have k1 := key 1 (by decide) 11 31 (by rw [hxs]; rfl)
      have k2 := key 2 (by decide) 127 159 (by rw [hxs]; rfl)
      have k3 := key 3 (by decide) 64976 65007 (by rw [hxs]; rfl)
      have k4 := key 4 (by decide) 65279 65279 (by rw [hxs]; rfl)
      clear h hm hx hxs key
      revert k0 k1 k2 k3 k4
      match cs, hl with
      | [c0, c1, c2, c3, c4, c5, c6, c7, c8, c9], _ =>
        intro k0 k1 k2 k3 k4
        simp at k0 k1 k2 k3 k4
        obtain ⟨rfl, rfl⟩ := k0
        obtain ⟨rfl, rfl⟩ := k1
        obtain ⟨rfl, rfl⟩ := k2
        obtain ⟨rfl, rfl⟩ := k3
        obtain ⟨rfl, rfl⟩ := k4
        rfl
    · cases h
end
/-- The worlds in which the table is laid. -/
theorem bars_of {W : World} (h : laidMetH Tryd.prog [("redraft/utext.bars", Rows.laid_redraft_utext_bars)] W) : CellsAt W 0 0 barC ∧ 0 < W.heap.size := by
  have h' : laidMet Tryd.prog [("redraft/utext.bars", Rows.laid_redraft_utext_bars)] W := h
  obtain ⟨ps, ⟨g', t', cs, fuel, p, q, hg', ht', hvar, hd, _, _⟩, _⟩ := h'
  obtain rfl := Option.some.inj (gBars.symm.trans hg')
  obtain rfl := Option.some.inj (gBarsT.symm.trans ht')
  have hc := bars_cells hd
  have hcell : ∀ j v, barC[j]? = some v → W.cell? ⟨0, j, none⟩ = some v := fun j v hj => by
    have h1 := World.var?_cell gBars hvar j
    rw [h1]
    first | (rw [← hc] at hj; simpa using hj) | (subst hc; simpa using hj)
  have h0 := hcell 0 _ rfl
  unfold World.cell? at h0
  cases hb : W.heap[0]? with
  | none => rw [hb] at h0; cases h0
  | some o =>
    refine ⟨?_, (Array.getElem?_eq_some_iff.1 hb).1⟩
    cases o with
    | cells c T fr =>
      refine ⟨c, T, fr, hb, fun j v hj => ?_⟩
      have := hcell j v hj
      unfold World.cell? at this
      rw [hb] at this
      simpa using this
    | _ => rw [hb] at h0; cases h0
/-- What was there stays as it was. -/
theorem kept_of {W W' : World} {Z' : Nat → Prop} (h : (NearF W (fun b => b < W.heap.size)).holds Z' W') (may : MemPlace → Prop) : W.keptBut W' may := by
  refine ⟨h.2.1, h.2.2.2, fun i hi => ?_⟩
  rw [(h.1 i hi).2]
  cases W.heap[i]? with
  | none => rfl
  | some o => cases o <;> first | rfl | exact ⟨rfl, rfl, rfl, fun _ _ => rfl⟩ | exact .inr ⟨rfl, rfl⟩
/-- A world in which all that is there is never written any more. -/
theorem st_of {W : World} {As : List Fact} (h : ∀ A ∈ As, A.holds (fun b => b < W.heap.size) W) : St (fun b => b < W.heap.size) W [] (As ++ [NearF W (fun b => b < W.heap.size)]) :=
  ⟨fun _ h => h, by simp, by simp, fun A hA => by
    rcases List.mem_append.1 hA with hA | hA
    · exact h A hA
    · rw [List.mem_singleton.1 hA]; exact ⟨fun b hb => ⟨hb, rfl⟩, rfl, rfl, rfl⟩⟩
/-- The last step where nothing that is read is changed. -/
theorem post_plain {H : Type} {enc : TypeId × Value → H} {P : Program} {f : Func} {s : ChangeSpec} {apart fresh handsOn : Bool} {W W' : World} {args : Array Value} {v : Value} {ds gs : List (DataW H)} {before pa pv : List MemPlace}
    (hW : DataW.Whole enc P f.params.toList s.vars apart W args.toList ds gs before)
    (hres : ∀ (b : Nat) (sp : Nat → Bool) (hd : Bool), DataW.TrodAll enc P W' b sp hd f.resultTypes.toList (v.resultList f.resultTypes.size) (s.fn H (ds ++ gs)).results [])
    (hargs : ∀ sp : Nat → Bool, (∀ p ∈ before, sp p.block = true) → DataW.TrodAll enc P W' 0 sp true f.params.toList args.toList (s.fn H (ds ++ gs)).args pa)
    (hvars : ∀ sp : Nat → Bool, (∀ p ∈ before, sp p.block = true) → DataW.TrodVars enc P W' sp s.vars (s.fn H (ds ++ gs)).vars pv)
    (hps : before = pa ++ pv) (hk : W.keptBut W' (· ∈ before)) : s.post enc P f apart fresh handsOn false W args v W' := by
  have hold : ∀ p ∈ before, (fun b => decide (b < W.heap.size)) p.block = true := fun p hp => by simpa using hW.lt p hp
  refine ⟨ds, gs, before, [], pa, pv, hW, hres _ _ _, hargs _ hold, hvars _ hold, World.keptBut_mono (fun p hp => ⟨hp, ?_⟩) hk, fun h => by cases h⟩
  rw [hps, List.mem_append] at hp
  exact Or.inr hp
end Go.Proofs.YtggdddkbhigjoaaDoor
