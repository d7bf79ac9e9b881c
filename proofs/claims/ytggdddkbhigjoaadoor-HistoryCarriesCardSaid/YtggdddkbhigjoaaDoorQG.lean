/- 'redraft/redraftlaw06.HistoryCarries' answers true, whatever its arguments and the world in which it is called: on every schedule and every choice; what is handed in reads as_ it did. Its condition: the table of package utext holds what its initialiser lays (the card ties that to the program's text). -/
import Derived.Test.YtggdddkbhigjoaaDoorTie
import Derived.Test.YtggdddkbhigjoaaDoorQF
set_option linter.unusedVariables false
set_option linter.unusedSimpArgs false
/- Walks: fed. -/
namespace Go.Proofs.YtggdddkbhigjoaaDoor
open Go Go.GW
def mvD : De Mv where
  sz := 6
  rep _ _ x cs := cs = mvC x
  len h := by subst h; rfl
  one h := by subst h; rfl
  stable _ _ _ _ _ h := h
theorem mv_open (u : Mv) : ∀ Z w cs, mvD.rep Z w u cs → ∃ y : Unit, cs = mvC u ∧ ∀ B ∈ ([] : List Fact), B.holds Z w := fun _ _ _ h => ⟨(), h, fun _ h => by cases h⟩
def FedP : Value → List Part → List Fact → Prop := fun u Lo fs => ∃ (v h m b n : Nat) (H : Hist) (X : List Ce) (nx : List Int), u = .tuple #[.pointer (some ⟨v, 0, none⟩), .bool true] ∧ ViewAt v h m b H X nx Lo fs ∧ VI n n H X nx ∧ n ≤ 20
structure FeI (k : Nat) (H : Hist) (X : List Ce) (nx : List Int) (L : List MR) (t : Tr) : Prop where
  le : k ≤ 20
  vi : VI k k H X nx
  hr : HR H L
  wt : Wf t
  hX : t.row = X

set_option maxRecDepth 10000 in
theorem fed_s (Am : Option Addr) (cm : Nat) (ms : List Mv) : Sp Tryd.prog 18 [.slice Am ms.length cm] [] [barF, RdF mvD Am cm ms] FedP := by
  refine Sp.of (n := 51) ⟨_, Tryd.func18, rfl, rfl, rfl, rfl⟩ (Nat.le_of_ble_eq_true rfl) fun Ps As => ?_
  refine WC_seq (WC_region ?_)
  refine Lq (q_assign rfl) ?_
  refine Lq (q_assign rfl) ?_
  refine WL_nil (thenN (WC_seq (WC_region ?_)))
  refine WL_main rfl (OW_call0 (newView_s) (.nil) (by decide) mem0 fun u1_0 Lo fs hres => ?_)
  obtain ⟨v, h, m, b, rfl, L0, A0, cap0, B0, t0, A10, c10, A20, c20, A30, c30, rfl, rfl, hr0, wt0, hX0⟩ := hres
  refine Lq (q_move rfl) ?_
  refine Lq (q_extract (vs := [_, _]) rfl rfl) ?_
  refine Lq (q_extract (vs := [_, _]) rfl rfl) ?_
  refine Lq (q_assign rfl) ?_
  refine Lq (q_assign rfl) ?_
  refine WL_nil (thenN (WC_seq (WC_seq (WC_region ?_))))
  refine Lq (q_move rfl) ?_
  refine Lq (q_not rfl) ?_
  refine WL_nil (thenN (WC_false rfl rfl (WC_skip (thenN (WC_seq (WC_seq (WC_region ?_)))))))
  refine Lq (q_assign rfl) ?_
  refine WL_nil (thenN (WC_block ?_))
  refine WC_loopE (α := Nat × Hist × List Ce × List Int × List MR × Option Addr × Nat × Option Addr × Tr × Option Addr × Nat × Option Addr × Nat × Option Addr × Nat) (fun (k, H, X, nx, L, A, cap, B, t, A1, c1, A2, c2, A3, c3) => 20 - k)
    (fun (k, H, X, nx, L, A, cap, B, t, A1, c1, A2, c2, A3, c3) => [(0, .slice Am ms.length cm), (4, .pointer (some ⟨v, 0, none⟩)), (6, .int .i64 k)])
    (fun (k, H, X, nx, L, A, cap, B, t, A1, c1, A2, c2, A3, c3) => (vwP v h b A1 H.ents.length c1 A2 c2 A3 c3 nx :: hdP h A H.ops.length cap m H.total :: mpP m L :: mkP L :: rpP b B :: Ps))
    (fun (k, H, X, nx, L, A, cap, B, t, A1, c1, A2, c2, A3, c3) => (RdF opD A cap H.ops :: AllF L nowF :: TrF B t :: RdF idD A1 c1 (idsOf H.ents) :: RdF (De.int .i64) A2 c2 (kindsOf H.ents) :: RdF De.str A3 c3 (textsOf H.ents) :: barF :: RdF mvD Am cm ms :: As))
    (fun (k, H, X, nx, L, A, cap, B, t, A1, c1, A2, c2, A3, c3) => FeI k H X nx L t)
    (0, ⟨[], 0⟩, [], List.replicate 9 0, L0, A0, cap0, B0, t0, A10, c10, A20, c20, A30, c30) ?_ (.cons rfl (.cons rfl (.cons rfl (.nil _)))) (List.Sublist.cons_cons _ (List.Sublist.cons_cons _ (List.Sublist.cons_cons _ (List.Sublist.cons_cons _ (List.Sublist.cons_cons _ (List.Sublist.refl _)))))) (fun _ h => h) ?_
  · exact ⟨Nat.zero_le _, VI.zero, hr0, wt0, hX0⟩
  · rintro ⟨k, H, X, nx, L, A, cap, B, t, A1, c1, A2, c2, A3, c3⟩ hI
    refine WC_seq (WC_seq (WC_region ?_))
    refine Lq (q_move rfl) ?_
    refine Lq (q_move rfl) ?_
    refine Lq (q_len Tryd.underlying49 rfl) ?_
    refine Lq (q_lss rfl rfl) ?_
    refine Lq (q_move rfl) ?_
    refine WL_guard (t := 19) rfl (fun g19 => ?_) (fun g19 => ?_)
    · refine Lg rfl rfl rfl g19 (q_move rfl) ?_
      refine Lg rfl rfl rfl g19 (q_lss rfl rfl) ?_
      refine Lq (q_pickT rfl g19 rfl) ?_
      refine WL_nil (thenN ?_)
      refine WC_cond rfl (fun h22 => ?_) (fun h22 => ?_)
      · refine WC_skip (thenN (WC_seq (WC_block (WC_seq ?_))))
        have hkm : k < ms.length := by simp only [decide_eq_true_eq] at g19; omega
        have hk20 : k < 20 := by simp only [decide_eq_true_eq] at h22; omega
        have hV := hI.vi
        have hnl := hV.len
        refine WC_elem (k := k) (.tail _ (.tail _ (.tail _ (.tail _ (.tail _ (.tail _ (.tail _ (.head _)))))))) (List.getElem?_eq_getElem hkm) (mv_open _) fun b7 q7 y7 e7 => ?_
        cases e7
        refine WC_pick (.s (.s (.s (.s (.z))))) ?_
        refine WC_pick (.s (.s (.s (.s (.z))))) ?_
        refine WC_pick (.s (.s (.s (.s (.z))))) ?_
        refine WC_pick (.s (.s (.s (.s (.z))))) ?_
        refine WC_pick (.s (.s (.s (.s (.z))))) ?_
        refine WC_draw _ _ [] (.c 0 0 (.c 1 0 (.c 2 0 (.c 3 0 (.c 4 0 (.c 5 0 (.c 6 0 (.c 7 0 (.c 8 0 (.c 9 0 (.c 10 0 (.c 11 2 (.c 12 0 .nil))))))))))))) mixed (fun _ _ _ _ h => h) (List.Sublist.cons_cons _ (List.Sublist.cons_cons _ (List.Sublist.cons_cons _ (List.Sublist.cons_cons _ (List.Sublist.cons_cons _ (List.Sublist.refl _)))))) (fun _ h => h) (by kernel_rfl) (by decide) fun ws Z0 => ?_
        refine Qe rfl (q_move rfl) ?_
        refine Qe rfl (q_move rfl) ?_
        refine Qe rfl (q_idxRd Tryd.underlying49 ti51 rfl rfl (by omega) (by omega)) ?_
        refine Qe rfl (q_field (o' := _ + 1) Tryd.underlying51 rfl ti3 rfl rfl) ?_
        refine Qe rfl (q_loadF1 (j := 1) Tryd.underlying3 rfl rfl (.head _) rfl rfl) ?_
        refine Qe rfl (q_move rfl) ?_
        refine Qe rfl (q_nil rfl) ?_
        refine Qe rfl (q_field (o' := 2) Tryd.underlying61 rfl ti56 rfl rfl) ?_
        refine Qe rfl (q_load1 Tryd.underlying56 rfl rfl own0 rfl) ?_
        refine Qe rfl (q_len Tryd.underlying56 rfl) ?_
        refine Qe rfl (q_add rfl rfl (by rw [hnl]; exact wr64 (by omega)) (c := ((k + 1 : Nat) : Int))) ?_
        refine WE_main rfl rfl (OW_call0 (rest_r ms[k].i (k + 1) (by omega)) (.cons rfl (.cons rfl (.nil))) (by decide) mem0 fun u7_11 Lo fs hres => ?_)
        obtain ⟨r36, hr36, hm36, rfl, rfl, rfl⟩ := hres
        refine ⟨⟨(List.Sublist.cons_cons _ (List.Sublist.cons_cons _ (List.Sublist.cons_cons _ (List.Sublist.cons_cons _ (List.Sublist.cons_cons _ (List.Sublist.refl _)))))), (.head _)⟩, ?_⟩
        refine Qe rfl (q_assign rfl) ?_
        refine WE_end (WF_nil ?_)
        refine thenN (WC_seq ?_)
        have hi : r36 ≤ k := by omega
        refine WC_region ?_
        refine Lq (q_move rfl) ?_
        refine Lq (q_move rfl) ?_
        refine Lq (q_move rfl) ?_
        refine Lq (q_move rfl) ?_
        refine Lq (q_move rfl) ?_
        refine Lq (q_idxRd Tryd.underlying49 ti51 rfl rfl (by omega) (by omega)) ?_
        refine Lq (q_loadFN (k := 0) (vs := [_, _, _, _, _, _]) Tryd.underlying51 rfl ti51 rfl (.tail _ (.head _)) rfl rfl rfl) ?_
        refine Lq (q_move rfl) ?_
        refine WL_main rfl (OW_call1 (makes_s k k X H v h b A1 c1 A2 c2 A3 c3 nx ms[k] r36 hV (by omega) hi) (.cons rfl (.cons rfl (.cons rfl (.nil)))) (by decide) (.z) (memc (.tail _ (.tail _ (.tail _ (.tail _ (.tail _ (.head _)))))) (memc (.tail _ (.tail _ (.tail _ (.tail _ (.tail _ (.tail _ (.head _))))))) (memc (.tail _ (.tail _ (.tail _ (.tail _ (.tail _ (.tail _ (.tail _ (.head _)))))))) mem0))) fun u8_8 Lo fs hres => ?_)
        obtain ⟨o, Ao, co, x, rfl, rfl, rfl, hoc, hox, hon, hbo⟩ := hres
        have hx0 := hV.nx0 x (List.mem_of_getElem? hox)
        have hocb : 1 ≤ o.c ∧ o.c ≤ 8 := by omega
        have hgood : Good H r36 o := hbo.good o.c o.n (by rw [hon]; exact hV.fresh hox hocb (by omega)) (by unfold rightF; simp; omega)
        have hV2 := hV.step hgood (by omega) (N' := ((k + 1 : Nat) : Int)) (by omega) (by omega)
        refine WL_main rfl (OW_callP (takes_1 k k X v h m b H L A cap B t A1 c1 A2 c2 A3 c3 nx r36 o Ao co hV hI.hr hI.wt hI.hX hgood (by have := hbo.text; omega)) (.cons rfl (.cons rfl (.cons rfl (.nil)))) (by decide) (List.Perm.refl _) (memc (.tail _ (.tail _ (.tail _ (.tail _ (.tail _ (.tail _ (.tail _ (.tail _ (.tail _ (.head _)))))))))) (memc (.tail _ (.tail _ (.tail _ (.head _)))) (memc (.tail _ (.tail _ (.tail _ (.tail _ (.head _))))) (memc (.tail _ (.tail _ (.tail _ (.tail _ (.tail _ (.head _)))))) (memc (.tail _ (.tail _ (.tail _ (.tail _ (.tail _ (.tail _ (.head _))))))) (memc (.tail _ (.tail _ (.tail _ (.tail _ (.tail _ (.tail _ (.tail _ (.head _)))))))) (memc (.tail _ (.tail _ (.tail _ (.tail _ (.tail _ (.tail _ (.tail _ (.tail _ (.head _))))))))) (memc (.head _) mem0)))))))) fun u8_9 Lo fs hres => ?_)
        obtain ⟨rfl, L9, A9, cap9, B9, t9, A19, c19, A29, c29, A39, c39, rfl, rfl, hr9, wt9, hX9⟩ := hres
        obtain ⟨H9, hH9⟩ : ∃ z, z = (putF H r36 o).1 := ⟨_, rfl⟩
        obtain ⟨X9, hX99⟩ : ∃ z, z = applyRow (putF H r36 o).2.1 X := ⟨_, rfl⟩
        obtain ⟨nx9, hn9⟩ : ∃ z, z = nxF nx o.c o.n := ⟨_, rfl⟩
        rw [← hH9] at hr9 hV2 ⊢
        rw [← hX99] at hX9 hV2
        rw [← hn9] at hV2 ⊢
        refine Lq (q_assign rfl) ?_
        refine WL_nil (thenN (WC_seq (WC_region ?_)))
        refine Lq (q_move rfl) ?_
        refine Lq (q_not rfl) ?_
        refine WL_nil (thenN (WC_false rfl rfl (WC_skip (blockN (thenN (WC_region ?_))))))
        refine Lq (q_move rfl) ?_
        refine Lq (q_add rfl rfl (wr64 (by omega)) (c := ((k + 1 : Nat) : Int))) ?_
        refine Lq (q_assign rfl) ?_
        refine WL_nil (thenK ?_)
        refine ⟨(k + 1, H9, X9, nx9, L9, A9, cap9, B9, t9, A19, c19, A29, c29, A39, c39), ?_, (.cons rfl (.cons rfl (.cons rfl (.nil _)))), (List.Sublist.cons_cons _ (List.Sublist.cons_cons _ (List.Sublist.cons_cons _ (List.Sublist.cons_cons _ (List.Sublist.cons_cons _ (List.Sublist.refl _)))))), (memc (.head _) (memc (.tail _ (.head _)) (memc (.tail _ (.tail _ (.head _))) (memc (.tail _ (.tail _ (.tail _ (.head _)))) (memc (.tail _ (.tail _ (.tail _ (.tail _ (.head _))))) (memc (.tail _ (.tail _ (.tail _ (.tail _ (.tail _ (.head _)))))) (fun _ h => .tail _ (.tail _ (.tail _ (.tail _ (.tail _ (.tail _ (.tail _ (.tail _ (.tail _ (.tail _ (.tail _ (.tail _ (.tail _ (.tail _ (.tail _ h)))))))))))))))))))))⟩
        exact ⟨by show 20 - (k + 1) < 20 - k; omega, by omega, hV2, hr9, wt9, hX9⟩
      · refine WC_exit (thenExit (thenExit (blockHit (thenN (WC_seq (WC_region ?_))))))
        refine Lq (q_move rfl) ?_
        refine Lq (q_assign rfl) ?_
        refine Lq (q_assign rfl) ?_
        refine WL_nil (thenN (WC_ret ?_))
        refine ⟨_, [_, _, _, _, _], [_, _, _, _, _, _], fun Z w hs => .tmp rfl (.tmp rfl (.nil)), ?_, fun Z w hs => hs.out (List.Sublist.cons_cons _ (List.Sublist.cons_cons _ (List.Sublist.cons_cons _ (List.Sublist.cons_cons _ (List.Sublist.cons_cons _ (List.Sublist.refl _)))))) (fun _ h => h)⟩
        exact ⟨v, h, m, b, k, H, X, nx, rfl, ⟨L, A, cap, B, t, A1, c1, A2, c2, A3, c3, rfl, rfl, hI.hr, hI.wt, hI.hX⟩, hI.vi, hI.le⟩
    · refine Ln rfl rfl rfl g19 ?_
      refine Ln rfl rfl rfl g19 ?_
      refine Lq (q_pickF rfl g19 rfl) ?_
      refine WL_nil (thenN (WC_false rfl rfl (WC_exit (thenExit (thenExit (blockHit (thenN ?_)))))))
      refine WC_seq (WC_region ?_)
      refine Lq (q_move rfl) ?_
      refine Lq (q_assign rfl) ?_
      refine Lq (q_assign rfl) ?_
      refine WL_nil (thenN (WC_ret ?_))
      refine ⟨_, [_, _, _, _, _], [_, _, _, _, _, _], fun Z w hs => .tmp rfl (.tmp rfl (.nil)), ?_, fun Z w hs => hs.out (List.Sublist.cons_cons _ (List.Sublist.cons_cons _ (List.Sublist.cons_cons _ (List.Sublist.cons_cons _ (List.Sublist.cons_cons _ (List.Sublist.refl _)))))) (fun _ h => h)⟩
      exact ⟨v, h, m, b, k, H, X, nx, rfl, ⟨L, A, cap, B, t, A1, c1, A2, c2, A3, c3, rfl, rfl, hI.hr, hI.wt, hI.hX⟩, hI.vi, hI.le⟩

end Go.Proofs.YtggdddkbhigjoaaDoor
/- Moves, as_ arguments. -/
namespace Go.Proofs.YtggdddkbhigjoaaDoor
open Go Go.GW
theorem cells51 : Tryd.prog.cellsOf 51 = 6 := by kernel_rfl
theorem cells3 : Tryd.prog.cellsOf 3 = 1 := by kernel_rfl
section
variable {H : Type} {enc : TypeId × Value → H} {w : World} {base : Nat} {sp : Nat → Bool} {held : Bool}
set_option maxRecDepth 100000 in
theorem mv_elem (m : Nat) (cs : List Value) (x : DataW H × List MemPlace) (h : DataW.trod enc Tryd.prog w base sp held m 51 cs = some x) : ∃ u : Mv, cs = mvC u := by
  obtain ⟨xs, k, rfl, rfl, hl, hlen, hf⟩ := DataW.trod_struct Tryd.underlying51 h
  rw [cells51] at hl
  have hxl : xs.length = 6 := hlen
  match cs, hl with
  | [a, b, c, d, e, f], _ =>
    have key : ∀ (i : Nat) (v : Value), i < 6 → [a, b, c, d, e, f][i]? = some v → ∃ n : Int, v = .int .i64 n := by
      intro i v hi hv
      match i, hi with
      | 0, _ => have h1 := hf 0 _ rfl; rw [List.getElem?_eq_getElem (show 0 < xs.length by omega)] at h1; simp [cells3] at h1; obtain ⟨n, h2, _⟩ := DataW.trod_int Tryd.underlying3 h1; exact ⟨n, by simp at hv h2; rw [← hv]; exact h2⟩
      | 1, _ => have h1 := hf 1 _ rfl; rw [List.getElem?_eq_getElem (show 1 < xs.length by omega)] at h1; simp [cells3] at h1; obtain ⟨n, h2, _⟩ := DataW.trod_int Tryd.underlying3 h1; exact ⟨n, by simp at hv h2; rw [← hv]; exact h2⟩
      | 2, _ => have h1 := hf 2 _ rfl; rw [List.getElem?_eq_getElem (show 2 < xs.length by omega)] at h1; simp [cells3] at h1; obtain ⟨n, h2, _⟩ := DataW.trod_int Tryd.underlying3 h1; exact ⟨n, by simp at hv h2; rw [← hv]; exact h2⟩
      | 3, _ => have h1 := hf 3 _ rfl; rw [List.getElem?_eq_getElem (show 3 < xs.length by omega)] at h1; simp [cells3] at h1; obtain ⟨n, h2, _⟩ := DataW.trod_int Tryd.underlying3 h1; exact ⟨n, by simp at hv h2; rw [← hv]; exact h2⟩
      | 4, _ => have h1 := hf 4 _ rfl; rw [List.getElem?_eq_getElem (show 4 < xs.length by omega)] at h1; simp [cells3] at h1; obtain ⟨n, h2, _⟩ := DataW.trod_int Tryd.underlying3 h1; exact ⟨n, by simp at hv h2; rw [← hv]; exact h2⟩
      | 5, _ => have h1 := hf 5 _ rfl; rw [List.getElem?_eq_getElem (show 5 < xs.length by omega)] at h1; simp [cells3] at h1; obtain ⟨n, h2, _⟩ := DataW.trod_int Tryd.underlying3 h1; exact ⟨n, by simp at hv h2; rw [← hv]; exact h2⟩
    obtain ⟨n0, rfl⟩ := key 0 a (by decide) rfl
    obtain ⟨n1, rfl⟩ := key 1 b (by decide) rfl
    obtain ⟨n2, rfl⟩ := key 2 c (by decide) rfl
    obtain ⟨n3, rfl⟩ := key 3 d (by decide) rfl
    obtain ⟨n4, rfl⟩ := key 4 e (by decide) rfl
    obtain ⟨n5, rfl⟩ := key 5 f (by decide) rfl
    exact ⟨⟨n0, n1, n2, n3, n4, n5⟩, rfl⟩
set_option maxRecDepth 100000 in
theorem mvs_arg {r : Reach} {b0 : Nat} {W0 : World} {v : Value} {d : DataW H} {p : List MemPlace} (hval : Value.okWide Tryd.prog W0 r b0 49 v) (h : DataW.Trod enc Tryd.prog w 0 sp held 49 v d p) :
    ∃ (A : Option Addr) (ms : List Mv) (c : Nat), v = .slice A ms.length c ∧ (RdF mvD A c ms).holds (fun b => b < w.heap.size) w :=
  rd_slice Tryd.underlying49 cells51 (by decide) (fun m cs x hx => by obtain ⟨u, rfl⟩ := mv_elem m cs x hx; exact ⟨u, fun _ _ => rfl⟩) hval h
set_option maxRecDepth 100000 in
theorem mv_arg {r : Reach} {b0 : Nat} {W0 : World} {v : Value} {d : DataW H} {p : List MemPlace} (hval : Value.okWide Tryd.prog W0 r b0 51 v) (h : DataW.Trod enc Tryd.prog w base sp held 51 v d p) : ∃ m : Mv, v = mvV m := by
  obtain ⟨n, hn⟩ := h
  have hv : ∃ cs, v = .agg cs := by
    unfold Value.okWide at hval
    rw [Tryd.underlying51] at hval
    obtain ⟨cs, rfl, _⟩ := hval
    exact ⟨cs, rfl⟩
  obtain ⟨cs, rfl⟩ := hv
  obtain ⟨u, hu⟩ := mv_elem _ _ _ hn
  refine ⟨u, ?_⟩
  have : cs = (mvC u).toArray := by
    apply Array.ext'
    simpa [Value.cells] using hu
  rw [this]; rfl
end
theorem same_of {W W' : World} {Z' : Nat → Prop} (h : (NearF W (fun b => b < W.heap.size)).holds Z' W') {x : MemPlace} (hx : x.block < W.heap.size) : W.sameAt W' x := by
  have hb := (h.1 x.block hx).2
  cases x with
  | cell b off =>
    have hb' : W'.heap[b]? = W.heap[b]? := hb
    show W'.cell? ⟨b, off, none⟩ = W.cell? ⟨b, off, none⟩
    unfold World.cell?
    simp only [hb']
  | map b => exact hb
theorem laidOk : laidOutB Tryd.prog = true := by kernel_rfl
end Go.Proofs.YtggdddkbhigjoaaDoor
/- HistoryCarries, plain: what a command that comes to a place does to the later ones. -/
namespace Go.Proofs.YtggdddkbhigjoaaDoor
open Go Go.GW
structure Car (H : Hist) (n i : Nat) (o : GOp) (H2 : Hist) (eff t : GOp) (later : List GOp) : Prop where
  cross : crossF [o] (H.ops.drop i) = ([t], later, 0)
  ahead : H2.ops.take i = H.ops.take i
  one : (H2.ops.take (i + 1)).drop i = [o]
  rest : (H2.ops.take (n + 1)).drop (i + 1) = later
  len : later.length = n - i
  kind : o.kind ≠ 4 → eff.kind = o.kind
  at_ : o.kind ≠ 4 → eff.at_ = t.at_
  text : o.kind ≠ 4 → eff.text = o.text
  rs : o.kind ≠ 4 → eff.rs = t.rs
theorem head_noText {o : GOp} (h : headF o) (hk : o.kind ≠ 1) : o.at_ = 0 ∧ o.text = ⟨#[]⟩ := by
  have hh := h.2.2
  unfold extraF at hh
  constructor
  · rcases Int.lt_trichotomy o.at_ 0 with h2 | h2 | h2
    · exfalso; apply hh; have : o.at_ ≠ 0 := by omega
      simp [hk, this]
    · exact h2
    · exfalso; apply hh; have : o.at_ ≠ 0 := by omega
      simp [hk, this]
  · apply emptyB_eq
    cases hq : (o.text == ⟨#[]⟩) with
    | true => rfl
    | false => exfalso; apply hh; simp [hk, hq]
theorem carry_facts {N : Int} {n : Nat} {H : Hist} {X : List Ce} {nx : List Int} (h : VI N n H X nx) {i : Nat} {o : GOp} (g : Good H i o) {H2 : Hist} {eff : GOp} (T : Tk H X n i o H2 eff) : ∃ t later, Car H n i o H2 eff t later := by
  obtain ⟨es, nw, eff', p⟩ := put_good h.hv g
  obtain ⟨c1, c2, c3, c4, c5⟩ := cross_good h.hv g
  have hp := p.put
  rw [T.put] at hp
  simp only [Prod.mk.injEq] at hp
  obtain ⟨e1, e2, _⟩ := hp
  subst e2
  have hs := p.sames h.hv g
  have hops : H2.ops = H.ops.take i ++ ([o] ++ (carryF o (H.ops.drop i)).2) := by
    rw [e1]
    show (newEnts i o nw es (carryF o (H.ops.drop i)).2).map (·.op) = _
    rw [newEnts_ops hs, p.es_ops g]
  have hol : H.ops.length = n := by unfold Hist.ops; rw [List.length_map, h.len]
  have hi : i ≤ n := by have := g.le; rw [h.len] at this; exact this
  have htl : (H.ops.take i).length = i := by rw [List.length_take]; omega
  have hll : (carryF o (H.ops.drop i)).2.length = n - i := by rw [c5.length, List.length_drop, hol]
  refine ⟨_, _, c1, ?_, ?_, ?_, hll, ?_, ?_, ?_, ?_⟩
  · rw [hops, List.take_left' htl]
  · rw [hops, List.take_append, htl, show i + 1 - i = 1 from by omega, List.take_of_length_le (by omega), List.drop_left' htl]
    simp
  · rw [List.take_of_length_le (by rw [hops]; simp only [List.length_append, htl, hll, List.length_cons, List.length_nil]; omega), hops, ← List.append_assoc]
    exact List.drop_left' (by rw [List.length_append, htl]; rfl)
  · intro hk
    rcases g.right.kind with hk1 | hk1 | hk1
    · rw [(p.ins hk1).2.2]; rfl
    · rw [(p.hide hk1).2.2]; rfl
    · exact absurd hk1 hk
  · intro hk
    rcases g.right.kind with hk1 | hk1 | hk1
    · rw [(p.ins hk1).2.2]
    · rw [(p.hide hk1).2.2]
      exact ((head_noText (c2.head c2.w0) (by rw [c4.kind]; omega)).1).symm
    · exact absurd hk1 hk
  · intro hk
    rcases g.right.kind with hk1 | hk1 | hk1
    · rw [(p.ins hk1).2.2]
    · rw [(p.hide hk1).2.2]
      exact ((head_noText (g.right.head g.right.w0) (by omega)).2).symm
    · exact absurd hk1 hk
  · intro hk
    rcases g.right.kind with hk1 | hk1 | hk1
    · rw [(p.ins hk1).2.2]
      exact (c2.noRs (by rw [c4.kind]; omega)).symm
    · rw [(p.hide hk1).2.2]
    · exact absurd hk1 hk
end Go.Proofs.YtggdddkbhigjoaaDoor
/- Walks: HistoryCarries. -/
namespace Go.Proofs.YtggdddkbhigjoaaDoor
open Go Go.GW
theorem hopsX_s (h m cap : Nat) (A : Option Addr) (H : Hist) (L : List MR) (hr : HR H L) (lo hi : Nat) (xs : List GOp) (hb : lo ≤ hi ∧ hi ≤ H.ents.length) (hx : (H.ops.take hi).drop lo = xs) : Sp Tryd.prog 17 [.pointer (some ⟨h, 0, none⟩), .int .i64 lo, .int .i64 hi] [hdP h A H.ops.length cap m H.total, mpP m L, mkP L] [RdF opD A cap H.ops] (fun v Lo fs => ∃ A' c', v = .tuple #[.slice A' xs.length c', .int .i64 0] ∧ Lo = [hdP h A H.ops.length cap m H.total, mpP m L, mkP L] ∧ fs = [RdF opD A' c' xs]) := by
  refine (hops_s h m cap A H L hr lo hi).mono ?_
  rintro v Lo fs ⟨A', c', h1, ⟨h2, _⟩ | ⟨_, h3, h4⟩⟩
  · omega
  · subst hx; exact ⟨A', c', h3, h1, h4⟩

set_option maxRecDepth 10000 in
theorem eqOps_t (A B : Option Addr) (c d : Nat) (xs : List GOp) (hl : xs.length ≤ 1000000000) (hf : ∀ o ∈ xs, Fit o) : Sp Tryd.prog 23 [.slice A xs.length c, .slice B xs.length d] [] [RdF opD A c xs, RdF opD B d xs] (Is (.bool true)) := by
  refine Sp.of (n := 27) ⟨_, Tryd.func23, rfl, rfl, rfl, rfl⟩ (Nat.le_of_ble_eq_true rfl) fun Ps As => ?_
  refine WC_seq (WC_region ?_)
  refine Lq (q_assign rfl) ?_
  refine WL_nil (thenN (WC_seq (WC_seq (WC_region ?_))))
  refine Lq (q_move rfl) ?_
  refine Lq (q_len Tryd.underlying45 rfl) ?_
  refine Lq (q_move rfl) ?_
  refine Lq (q_len Tryd.underlying45 rfl) ?_
  refine Lq (q_neq rfl rfl) ?_
  refine WL_nil (thenN ?_)
  refine WC_false rfl (by simp) ?_
  refine WC_skip (thenN (WC_seq (WC_seq (WC_region ?_))))
  refine Lq (q_assign rfl) ?_
  refine WL_nil (thenN (WC_block ?_))
  refine WC_loopE (α := Nat) (fun k => xs.length - k)
    (fun k => [(0, .slice A xs.length c), (1, .slice B xs.length d), (5, .int .i64 k)])
    (fun k => Ps)
    (fun k => (RdF opD A c xs :: RdF opD B d xs :: As))
    (fun k => k ≤ xs.length)
    0 ?_ (.cons rfl (.cons rfl (.cons rfl (.nil _)))) (List.Sublist.refl _) (fun _ h => h) ?_
  · exact Nat.zero_le _
  · rintro k hI
    refine WC_seq (WC_seq (WC_region ?_))
    refine Lq (q_move rfl) ?_
    refine Lq (q_move rfl) ?_
    refine Lq (q_len Tryd.underlying45 rfl) ?_
    refine Lq (q_lss rfl rfl) ?_
    refine WL_nil (thenN ?_)
    refine WC_cond rfl (fun h14 => ?_) (fun h14 => ?_)
    · refine WC_skip (thenN (WC_seq (WC_block (WC_seq ?_))))
      try simp only [Bq0, Bq1, Bq2, Bq3, Bq4, Bq5, Bq6, Bq7, Bq8, Bq9, Bq10, Bq11, Bq12] at *
      have hk1 : k < xs.length := by omega
      refine WC_elem (k := k) (.head _) (List.getElem?_eq_getElem hk1) (op_open _) fun b1 q1 y1 e1 => ?_
      cases e1
      refine WC_elem (k := k) (.tail _ (.tail _ (.tail _ (.head _)))) (List.getElem?_eq_getElem hk1) (op_open _) fun b2 q2 y2 e2 => ?_
      cases e2
      refine WC_draw _ _ [] (.c 0 0 (.c 1 0 (.c 2 0 (.c 3 0 (.c 4 0 (.c 5 0 (.c 6 0 (.c 7 0 (.c 8 2 (.c 9 0 .nil)))))))))) mixed (fun _ _ _ _ h => h) (List.Sublist.refl _) (fun _ h => h) (by kernel_rfl) (by decide) fun ws Z0 => ?_
      refine Qe rfl (q_move rfl) ?_
      refine Qe rfl (q_move rfl) ?_
      refine Qe rfl (q_idxRd Tryd.underlying45 ti31 rfl rfl (by first | omega | simp) (by first | omega | simp)) ?_
      refine Qe rfl (q_loadFN (k := 0) (vs := [_, _, _, _, _, _, _, _, _]) Tryd.underlying31 rfl ti31 rfl (.tail _ (.tail _ (.head _))) rfl rfl rfl) ?_
      refine Qe rfl (q_move rfl) ?_
      refine Qe rfl (q_move rfl) ?_
      refine Qe rfl (q_idxRd Tryd.underlying45 ti31 rfl rfl (by first | omega | simp) (by first | omega | simp)) ?_
      refine Qe rfl (q_loadFN (k := 0) (vs := [_, _, _, _, _, _, _, _, _]) Tryd.underlying31 rfl ti31 rfl (.head _) rfl rfl rfl) ?_
      refine WE_main rfl rfl (OW_call0 (eqOp_t xs[k] y1.1 y2.1 y1.2 y2.2 (hf _ (List.getElem_mem hk1)).rs) (.cons rfl (.cons rfl (.nil))) (by decide) (memc (.tail _ (.tail _ (.tail _ (.tail _ (.head _))))) (memc (.tail _ (.tail _ (.head _))) mem0)) fun u6_8 Lo fs hres => ?_)
      obtain ⟨rfl, rfl, rfl⟩ := hres
      refine ⟨⟨(List.Sublist.refl _), (.head _)⟩, ?_⟩
      refine Qe rfl (q_not rfl) ?_
      refine WE_end (WF_nil ?_)
      refine thenN (WC_false rfl rfl (WC_skip (blockN (thenN (WC_region ?_)))))
      refine Lq (q_move rfl) ?_
      refine Lq (q_add rfl rfl (wr64 (by omega)) (c := ((k + 1 : Nat) : Int))) ?_
      refine Lq (q_assign rfl) ?_
      refine WL_nil (thenK ?_)
      refine ⟨k + 1, ?_, (.cons rfl (.cons rfl (.cons rfl (.nil _)))), (List.Sublist.refl _), (fun _ h => .tail _ (.tail _ (.tail _ (.tail _ (.tail _ h)))))⟩
      exact ⟨by omega, by omega⟩
    · refine WC_exit (thenExit (thenExit (blockHit (thenN (WC_seq (WC_region ?_))))))
      refine Lq (q_assign rfl) ?_
      refine WL_nil (thenN (WC_ret ?_))
      refine ⟨_, [], [], fun Z w hs => .tmp rfl (.nil), ?_, fun Z w hs => hs.out (List.Sublist.refl _) (fun _ h => h)⟩
      exact ⟨rfl, rfl, rfl⟩


set_option maxRecDepth 10000 in
theorem carries_s (Am : Option Addr) (cm : Nat) (ms : List Mv) (mm : Mv) : Sp Tryd.prog 4 [.slice Am ms.length cm, mvV mm] [] [barF, RdF mvD Am cm ms] (Is (.bool true)) := by
  refine Sp.of (n := 207) ⟨_, Tryd.func4, rfl, rfl, rfl, rfl⟩ (Nat.le_of_ble_eq_true rfl) fun Ps As => ?_
  refine WC_seq (WC_region ?_)
  refine WL_main rfl (OW_box (cs := [_, _, _, _, _, _]) rfl rfl (by decide) fun b3 => ?_)
  refine Lq (q_assign rfl) ?_
  refine WL_nil (thenN (WC_seq (WC_region ?_)))
  refine Lq (q_move rfl) ?_
  refine WL_main rfl (OW_call0 (fed_s Am cm ms) (.cons rfl (.nil)) (by decide) (memc (.head _) (memc (.tail _ (.head _)) mem0)) fun u1_1 Lo fs hres => ?_)
  obtain ⟨v, h, m, b, n, H, X, nx, rfl, ⟨L, A, cap, B, t, A1, c1, A2, c2, A3, c3, rfl, rfl, hr, wt, hX⟩, hV, hn20⟩ := hres
  have hnl := hV.len
  have hol : H.ops.length = H.ents.length := by simp [Hist.ops]
  have hfo : ∀ y ∈ H.ops, Fit y := fun y hy => by obtain ⟨e, he, rfl⟩ := List.mem_map.1 hy; exact hr.fit e he
  refine Lq (q_move rfl) ?_
  refine Lq (q_extract (vs := [_, _]) rfl rfl) ?_
  refine Lq (q_extract (vs := [_, _]) rfl rfl) ?_
  refine Lq (q_assign rfl) ?_
  refine Lq (q_assign rfl) ?_
  refine WL_nil (thenN (WC_seq (WC_seq (WC_region ?_))))
  refine Lq (q_move rfl) ?_
  refine Lq (q_not rfl) ?_
  refine WL_nil (thenN (WC_false rfl rfl (WC_skip (thenN (WC_seq (WC_region ?_))))))
  refine Lq (q_move rfl) ?_
  refine Lq (q_nil rfl) ?_
  refine Lq (q_field (o' := 2) Tryd.underlying61 rfl ti56 rfl rfl) ?_
  refine Lq (q_load1 Tryd.underlying56 rfl rfl own0 rfl) ?_
  refine Lq (q_len Tryd.underlying56 rfl) ?_
  refine Lq (q_assign rfl) ?_
  refine WL_nil (thenN (WC_seq (WC_region ?_)))
  refine Lq (q_field (o' := 1) Tryd.underlying51 rfl ti3 rfl rfl) ?_
  refine Lq (q_load1 Tryd.underlying3 rfl rfl (ownS (ownS (ownS (ownS (ownS (own0)))))) rfl) ?_
  refine Lq (q_move rfl) ?_
  refine Lq (q_add rfl rfl (by rw [hnl]; exact wr64 (by omega)) (c := ((n + 1 : Nat) : Int))) ?_
  refine WL_main rfl (OW_call0 (rest_r mm.i (n + 1) (by omega)) (.cons rfl (.cons rfl (.nil))) (by decide) mem0 fun u5_4 Lo fs hres => ?_)
  obtain ⟨r37, hr37, hm37, rfl, rfl, rfl⟩ := hres
  refine Lq (q_assign rfl) ?_
  refine WL_nil (thenN (WC_seq (WC_region ?_)))
  refine Lq (q_move rfl) ?_
  refine Lq (q_loadN (vs := [_, _, _, _, _, _]) Tryd.underlying51 rfl ti51 rfl (ownS (ownS (ownS (ownS (ownS (own0)))))) rfl rfl) ?_
  refine Lq (q_move rfl) ?_
  have hi : r37 ≤ n := by omega
  refine WL_main rfl (OW_call1 (makes_s n n X H v h b A1 c1 A2 c2 A3 c3 nx mm r37 hV (by omega) hi) (.cons rfl (.cons rfl (.cons rfl (.nil)))) (by decide) (.z) (memc (.tail _ (.tail _ (.tail _ (.head _)))) (memc (.tail _ (.tail _ (.tail _ (.tail _ (.head _))))) (memc (.tail _ (.tail _ (.tail _ (.tail _ (.tail _ (.head _)))))) mem0))) fun u6_3 Lo fs hres => ?_)
  obtain ⟨o, Ao, co, x, rfl, rfl, rfl, hoc, hox, hon, hbo⟩ := hres
  have hx0 := hV.nx0 x (List.mem_of_getElem? hox)
  have hocb : 1 ≤ o.c ∧ o.c ≤ 8 := by omega
  have hg : Good H r37 o := hbo.good o.c o.n (by rw [hon]; exact hV.fresh hox hocb (by omega)) (by unfold rightF; simp; omega)
  obtain ⟨H2, eff, T⟩ := take_facts hV hg
  obtain ⟨t1, later, C⟩ := carry_facts hV hg T
  have hfit := good_fit hV hg (by have := hbo.text; omega)
  have h2l := T.len
  have h2o : H2.ops.length = H2.ents.length := by simp [Hist.ops]
  refine WL_main rfl (OW_alloc (cs := [_, _, _, _, _, _, _, _, _]) ti31 rfl (by decide) fun b9 => ?_)
  refine WL_main rfl (OW_storeN (cs' := [_, _, _, _, _, _, _, _, _]) (vs := [_, _, _, _, _, _, _, _, _]) ti31 rfl rfl rfl rfl rfl (Nat.le_of_ble_eq_true rfl) (.z) ?_)
  refine WL_nil (thenN (WC_seq (WC_region ?_)))
  refine Lq (q_move rfl) ?_
  refine Lq (q_nil rfl) ?_
  refine Lq (q_field (o' := 0) Tryd.underlying61 rfl ti22 rfl rfl) ?_
  refine Lq (q_load1 Tryd.underlying22 rfl rfl (ownS (own0)) rfl) ?_
  refine Lq (q_move rfl) ?_
  refine WL_main rfl (OW_call3 (hopsX_s h m cap A H L hr 0 r37 (H.ops.take r37) (by omega) rfl) (.cons rfl (.cons rfl (.cons rfl (.nil)))) (by decide) (.s (.s (.z))) (.s (.s (.z))) (.s (.s (.z))) (memc (.tail _ (.head _)) mem0) fun u7_5 Lo fs hres => ?_)
  obtain ⟨Ao1, co1, rfl, rfl, rfl⟩ := hres
  refine Lq (q_move rfl) ?_
  refine Lq (q_extract (vs := [_, _]) rfl rfl) ?_
  refine Lq (q_extract (vs := [_, _]) rfl rfl) ?_
  refine Lq (q_assign rfl) ?_
  refine Lq (q_assign rfl) ?_
  refine WL_nil (thenN (WC_seq (WC_region ?_)))
  refine Lq (q_move rfl) ?_
  refine Lq (q_nil rfl) ?_
  refine Lq (q_field (o' := 0) Tryd.underlying61 rfl ti22 rfl rfl) ?_
  refine Lq (q_load1 Tryd.underlying22 rfl rfl (ownS (ownS (ownS (ownS (own0))))) rfl) ?_
  refine Lq (q_move rfl) ?_
  refine Lq (q_move rfl) ?_
  refine WL_main rfl (OW_call3 (hopsX_s h m cap A H L hr r37 H.ents.length (H.ops.drop r37) (by omega) (by rw [List.take_of_length_le (by omega)])) (.cons rfl (.cons rfl (.cons rfl (.nil)))) (by decide) (.z) (.z) (.z) (memc (.tail _ (.tail _ (.head _))) mem0) fun u8_6 Lo fs hres => ?_)
  obtain ⟨Ao2, co2, rfl, rfl, rfl⟩ := hres
  refine Lq (q_move rfl) ?_
  refine Lq (q_extract (vs := [_, _]) rfl rfl) ?_
  refine Lq (q_extract (vs := [_, _]) rfl rfl) ?_
  refine Lq (q_assign rfl) ?_
  refine Lq (q_assign rfl) ?_
  refine WL_nil (thenN (WC_seq (WC_region ?_)))
  refine Lq (q_loadN (vs := [_, _, _, _, _, _, _, _, _]) Tryd.underlying31 rfl ti31 rfl (ownS (ownS (ownS (own0)))) rfl rfl) ?_
  refine WL_main rfl (OW_call0 (lown_s o Ao co hfit.rs) (.cons rfl (.nil)) (by decide) (memc (.tail _ (.tail _ (.head _))) mem0) fun u9_1 Lo fs hres => ?_)
  obtain ⟨A9, c9, rfl, rfl, rfl⟩ := hres
  refine WL_main rfl (OW_slice1 (cs := [_, _, _, _, _, _, _, _, _]) Tryd.underlying45 ti31 (by decide) (by decide) rfl rfl rfl rfl (by decide) fun b64 => ?_)
  refine WL_freeze1 (e := opD) (u := o) (cs := opC o A9 c9) (.z) (fun Z w hs => ⟨_, _, rfl, hs.facts _ (.head _)⟩) ?_
  refine Lq (q_move rfl) ?_
  refine WL_main rfl (OW_call0 (cross_s (some ⟨b64, 0, none⟩) Ao2 1 co2 [o] (H.ops.drop r37) (fun y hy => by rw [List.mem_singleton] at hy; subst hy; exact hfit) (fun y hy => hfo y (List.mem_of_mem_drop hy)) (by simp) (by rw [List.length_drop]; omega)) (.cons rfl (.cons rfl (.nil))) (by decide) (memc (.tail _ (.tail _ (.tail _ (.tail _ (.tail _ (.tail _ (.tail _ (.tail _ (.tail _ (.tail _ (.tail _ (.head _)))))))))))) (memc (.head _) (memc (.tail _ (.tail _ (.head _))) mem0))) fun u9_4 Lo fs hres => ?_)
  obtain ⟨Ax1, cx1, Ax2, cx2, rfl, rfl, rfl⟩ := hres
  rw [C.cross]
  dsimp only
  refine Lq (q_move rfl) ?_
  refine Lq (q_extract (vs := [_, _, _]) rfl rfl) ?_
  refine Lq (q_extract (vs := [_, _, _]) rfl rfl) ?_
  refine Lq (q_extract (vs := [_, _, _]) rfl rfl) ?_
  refine Lq (q_assign rfl) ?_
  refine Lq (q_assign rfl) ?_
  refine Lq (q_assign rfl) ?_
  refine WL_nil (thenN (WC_seq (WC_seq (WC_region ?_))))
  refine Lq (q_move rfl) ?_
  refine Lq (q_neq rfl rfl) ?_
  refine Lq (q_move rfl) ?_
  refine Lg rfl rfl rfl rfl (q_move rfl) ?_
  refine Lg rfl rfl rfl rfl (q_neq rfl rfl) ?_
  refine Lq (q_pickF rfl rfl rfl) ?_
  refine Lq (q_move rfl) ?_
  refine Lg rfl rfl rfl rfl (q_move rfl) ?_
  refine Lg rfl rfl rfl rfl (q_neq rfl rfl) ?_
  refine Lq (q_pickF rfl rfl rfl) ?_
  refine Lq (q_move rfl) ?_
  refine Lg rfl rfl rfl rfl (q_move rfl) ?_
  refine Lg rfl rfl rfl rfl (q_len Tryd.underlying45 rfl) ?_
  refine Lg rfl rfl rfl rfl (q_neq rfl rfl) ?_
  refine Lq (q_pickF rfl rfl rfl) ?_
  refine Lq (q_move rfl) ?_
  refine Lg rfl rfl rfl rfl (q_move rfl) ?_
  refine Lg rfl rfl rfl rfl (q_len Tryd.underlying45 rfl) ?_
  refine Lg rfl rfl rfl rfl (q_move rfl) ?_
  refine Lg rfl rfl rfl rfl (q_move rfl) ?_
  refine Lg rfl rfl rfl rfl (q_sub rfl rfl (wr64 (by omega))) ?_
  refine Lg rfl rfl rfl rfl (q_neq rfl rfl) ?_
  refine Lq (q_pickF rfl rfl rfl) ?_
  refine WL_nil (thenN ?_)
  refine WC_fr [(92, _), (16, _), (15, _), (14, _), (13, _), (11, _), (10, _), (9, _), (8, _), (7, _), (5, _), (4, _)] (.cons rfl (.cons rfl (.cons rfl (.cons rfl (.cons rfl (.cons rfl (.cons rfl (.cons rfl (.cons rfl (.cons rfl (.cons rfl (.cons rfl (.nil _))))))))))))) ?_
  refine WC_false rfl (by rw [C.len]; simp; omega) ?_
  refine WC_skip (thenN ?_)
  refine WC_meet (α := Nat × List MR × Option Addr × Nat × Option Addr × Nat)
    (fun (b17, L2, A7, cap2, Ae, ce) => [(5, .pointer (some ⟨v, 0, none⟩)), (7, .int .i64 H.ents.length), (8, .int .i64 r37), (9, .pointer (some ⟨b9, 0, none⟩)), (10, .slice Ao1 (H.ops.take r37).length co1), (15, .slice Ax2 later.length cx2), (11, .int .i64 0), (14, .slice Ax1 1 cx1), (17, .pointer (some ⟨b17, 0, none⟩))])
    (fun (b17, L2, A7, cap2, Ae, ce) => ([(b17, cellsO (opC eff Ae ce) 31)] :: hdP h A7 H2.ops.length cap2 m H2.total :: mpP m L2 :: mkP L2 :: [(b9, cellsO (opC o Ao co) 31)] :: vwP v h b A1 H.ents.length c1 A2 c2 A3 c3 nx :: Ps))
    (fun (b17, L2, A7, cap2, Ae, ce) => (RdF opD Ax1 cx1 [t1] :: RdF rgD Ae ce eff.rs :: RdF opD A7 cap2 H2.ops :: RdF opD Ax2 cx2 later :: RdF opD Ao1 co1 (H.ops.take r37) :: RdF rgD Ao co o.rs :: barF :: RdF mvD Am cm ms :: As))
    (fun (b17, L2, A7, cap2, Ae, ce) => HR H2 L2) ?_ ?_
  · refine WC_draw _ _ [12] (.c 0 0 (.c 1 0 (.c 2 0 (.c 3 0 (.c 4 0 (.c 5 0 (.b (.c 6 2 (.b (.c 7 2 (.c 8 0 (.c 9 0 (.c 10 1 (.c 11 2 (.c 12 3 (.c 13 1 .nil))))))) (.c 11 2 (.c 7 2 (.c 8 0 (.c 9 0 (.c 10 1 (.c 12 3 (.c 13 1 .nil))))))))) (.c 11 2 (.c 6 2 (.c 7 2 (.c 8 0 (.c 9 0 (.c 10 1 (.c 12 3 (.c 13 1 .nil))))))))))))))) mixed (fun _ _ _ _ h => h) (List.Sublist.cons _ (List.Sublist.cons _ (List.Sublist.cons _ (List.Sublist.cons_cons _ (List.Sublist.cons_cons _ (List.Sublist.cons_cons _ (List.Sublist.cons_cons _ (List.Sublist.refl _)))))))) (fun _ h => h) (by kernel_rfl) (by decide) fun ws Z0 => ?_
    refine Qe rfl (q_move rfl) ?_
    refine Qe rfl (q_nil rfl) ?_
    refine Qe rfl (q_field (o' := 0) Tryd.underlying61 rfl ti22 rfl rfl) ?_
    refine Qe rfl (q_load1 Tryd.underlying22 rfl rfl (ownS (own0)) rfl) ?_
    refine Qe rfl (q_move rfl) ?_
    refine Qe rfl (q_loadN (vs := [_, _, _, _, _, _, _, _, _]) Tryd.underlying31 rfl ti31 rfl own0 rfl rfl) ?_
    refine WE_both ?_ ?_
    · refine WE_main rfl rfl (OW_call0 (lown_s o Ao co hfit.rs) (.cons rfl (.nil)) (by decide) (memc (.tail _ (.tail _ (.tail _ (.tail _ (.tail _ (.tail _ (.tail _ (.head _)))))))) mem0) fun u12_6 Lo fs hres => ?_)
      obtain ⟨A8, c8, rfl, rfl, rfl⟩ := hres
      refine ⟨⟨(List.Sublist.cons _ (List.Sublist.cons _ (List.Sublist.cons _ (List.Sublist.cons_cons _ (List.Sublist.cons_cons _ (List.Sublist.cons_cons _ (List.Sublist.cons_cons _ (List.Sublist.refl _)))))))), (.tail _ (.head _))⟩, ?_⟩
      refine WE_both ?_ ?_
      · refine WE_main rfl rfl (OW_call3 (put_s h m cap A H L hr r37 o A8 c8 hfit (by omega)) (.cons rfl (.cons rfl (.cons rfl (.nil)))) (by decide) (.z) (.z) (.z) (memc (.tail _ (.tail _ (.tail _ (.tail _ (.tail _ (.tail _ (.tail _ (.tail _ (.tail _ (.tail _ (.tail _ (.tail _ (.tail _ (.tail _ (.tail _ (.head _)))))))))))))))) (memc (.tail _ (.tail _ (.tail _ (.tail _ (.tail _ (.tail _ (.tail _ (.tail _ (.tail _ (.head _)))))))))) (memc (.tail _ (.tail _ (.tail _ (.tail _ (.tail _ (.tail _ (.tail _ (.tail _ (.tail _ (.tail _ (.head _))))))))))) (memc (.head _) mem0)))) fun u12_7 Lo fs hres => ?_)
        obtain ⟨L2, A7, cap2, Ae, ce, hr2, rfl, rfl, rfl⟩ := hres
        rw [T.put] at hr2 ⊢
        dsimp only at hr2 ⊢
        have hf2 : ∀ y ∈ H2.ops, Fit y := fun y hy => by obtain ⟨e, he, rfl⟩ := List.mem_map.1 hy; exact hr2.fit e he
        refine ⟨⟨(List.Sublist.cons _ (List.Sublist.cons _ (List.Sublist.cons _ (List.Sublist.cons_cons _ (List.Sublist.cons_cons _ (List.Sublist.cons_cons _ (List.Sublist.cons_cons _ (List.Sublist.refl _)))))))), (.tail _ (.tail _ (.tail _ (.tail _ (.head _)))))⟩, ?_⟩
        refine Qe rfl (q_move rfl) ?_
        refine Qe rfl (q_extract (vs := [_, _]) rfl rfl) ?_
        refine WE_p rfl (q_extract (vs := [_, _]) rfl rfl) (by decide) ?_
        refine WE_main rfl rfl (OW_alloc (cs := [_, _, _, _, _, _, _, _, _]) ti31 rfl (by decide) fun b17 => ?_)
        refine ⟨⟨(List.Sublist.cons _ (List.Sublist.cons _ (List.Sublist.cons _ (List.Sublist.cons _ (List.Sublist.cons_cons _ (List.Sublist.cons_cons _ (List.Sublist.cons_cons _ (List.Sublist.cons_cons _ (List.Sublist.refl _))))))))), (.tail _ (.tail _ (.tail _ (.tail _ (.head _)))))⟩, ?_⟩
        refine WE_end (WF_last rfl rfl (OW_storeN (cs' := [_, _, _, _, _, _, _, _, _]) (vs := [_, _, _, _, _, _, _, _, _]) ti31 rfl rfl rfl rfl rfl (Nat.le_of_ble_eq_true rfl) (.z) ?_))
        refine WF_p rfl (q_assign rfl) (by decide) ?_
        refine WF_nil ?_
        refine thenK ?_
        refine ⟨(b17, L2, A7, cap2, Ae, ce), ?_, (.cons rfl (.cons rfl (.cons rfl (.cons rfl (.cons rfl (.cons rfl (.cons rfl (.cons rfl (.cons rfl (.nil _)))))))))), (List.Sublist.cons_cons _ (List.Sublist.cons_cons _ (List.Sublist.cons_cons _ (List.Sublist.cons_cons _ (List.Sublist.cons_cons _ (List.Sublist.cons_cons _ (List.Sublist.cons _ (List.Sublist.cons _ (List.Sublist.refl _))))))))), (memc (.tail _ (.tail _ (.tail _ (.tail _ (.tail _ (.head _)))))) (memc (.head _) (memc (.tail _ (.head _)) (memc (.tail _ (.tail _ (.tail _ (.tail _ (.tail _ (.tail _ (.head _))))))) (memc (.tail _ (.tail _ (.tail _ (.tail _ (.tail _ (.tail _ (.tail _ (.tail _ (.tail _ (.tail _ (.head _))))))))))) (memc (.tail _ (.tail _ (.tail _ (.tail _ (.tail _ (.tail _ (.tail _ (.tail _ (.tail _ (.tail _ (.tail _ (.head _)))))))))))) (fun _ h => .tail _ (.tail _ (.tail _ (.tail _ (.tail _ (.tail _ (.tail _ (.tail _ (.tail _ (.tail _ (.tail _ (.tail _ (.tail _ (.tail _ (.tail _ (.tail _ (.tail _ (.tail _ h))))))))))))))))))))))))⟩
        exact hr2
      · refine WE_main rfl rfl (OW_alloc (cs := [_, _, _, _, _, _, _, _, _]) ti31 rfl (by decide) fun b17 => ?_)
        refine ⟨⟨(List.Sublist.cons _ (List.Sublist.cons _ (List.Sublist.cons _ (List.Sublist.cons _ (List.Sublist.cons_cons _ (List.Sublist.cons_cons _ (List.Sublist.cons_cons _ (List.Sublist.cons_cons _ (List.Sublist.refl _))))))))), (.tail _ (.head _))⟩, ?_⟩
        refine WE_main rfl rfl (OW_call3 (put_s h m cap A H L hr r37 o A8 c8 hfit (by omega)) (.cons rfl (.cons rfl (.cons rfl (.nil)))) (by decide) (.s (.z)) (.s (.z)) (.s (.z)) (memc (.tail _ (.tail _ (.tail _ (.tail _ (.tail _ (.tail _ (.tail _ (.tail _ (.tail _ (.tail _ (.tail _ (.tail _ (.tail _ (.tail _ (.tail _ (.head _)))))))))))))))) (memc (.tail _ (.tail _ (.tail _ (.tail _ (.tail _ (.tail _ (.tail _ (.tail _ (.tail _ (.head _)))))))))) (memc (.tail _ (.tail _ (.tail _ (.tail _ (.tail _ (.tail _ (.tail _ (.tail _ (.tail _ (.tail _ (.head _))))))))))) (memc (.head _) mem0)))) fun u12_7 Lo fs hres => ?_)
        obtain ⟨L2, A7, cap2, Ae, ce, hr2, rfl, rfl, rfl⟩ := hres
        rw [T.put] at hr2 ⊢
        dsimp only at hr2 ⊢
        have hf2 : ∀ y ∈ H2.ops, Fit y := fun y hy => by obtain ⟨e, he, rfl⟩ := List.mem_map.1 hy; exact hr2.fit e he
        refine ⟨⟨(List.Sublist.cons _ (List.Sublist.cons _ (List.Sublist.cons _ (List.Sublist.cons _ (List.Sublist.cons_cons _ (List.Sublist.cons_cons _ (List.Sublist.cons_cons _ (List.Sublist.cons_cons _ (List.Sublist.refl _))))))))), (.tail _ (.tail _ (.tail _ (.tail _ (.head _)))))⟩, ?_⟩
        refine Qe rfl (q_move rfl) ?_
        refine Qe rfl (q_extract (vs := [_, _]) rfl rfl) ?_
        refine WE_p rfl (q_extract (vs := [_, _]) rfl rfl) (by decide) ?_
        refine WE_end (WF_last rfl rfl (OW_storeN (cs' := [_, _, _, _, _, _, _, _, _]) (vs := [_, _, _, _, _, _, _, _, _]) ti31 rfl rfl rfl rfl rfl (Nat.le_of_ble_eq_true rfl) (.s (.s (.s (.z)))) ?_))
        refine WF_p rfl (q_assign rfl) (by decide) ?_
        refine WF_pick (.s (.s (.s (.s (.s (.z)))))) ?_
        refine WF_pick (.s (.s (.s (.s (.s (.z)))))) ?_
        refine WF_pick (.s (.s (.s (.s (.z))))) ?_
        refine WF_pick (.s (.s (.s (.s (.z))))) ?_
        refine WF_pick (.s (.s (.s (.s (.z))))) ?_
        refine WF_pick (.s (.s (.s (.s (.s (.z)))))) ?_
        refine WF_nil ?_
        refine thenK ?_
        refine ⟨(b17, L2, A7, cap2, Ae, ce), ?_, (.cons rfl (.cons rfl (.cons rfl (.cons rfl (.cons rfl (.cons rfl (.cons rfl (.cons rfl (.cons rfl (.nil _)))))))))), (List.Sublist.cons_cons _ (List.Sublist.cons_cons _ (List.Sublist.cons_cons _ (List.Sublist.cons_cons _ (List.Sublist.cons_cons _ (List.Sublist.cons_cons _ (List.Sublist.cons _ (List.Sublist.cons _ (List.Sublist.refl _))))))))), (memc (.tail _ (.tail _ (.tail _ (.tail _ (.tail _ (.head _)))))) (memc (.head _) (memc (.tail _ (.head _)) (memc (.tail _ (.tail _ (.tail _ (.tail _ (.tail _ (.tail _ (.head _))))))) (memc (.tail _ (.tail _ (.tail _ (.tail _ (.tail _ (.tail _ (.tail _ (.tail _ (.tail _ (.tail _ (.head _))))))))))) (memc (.tail _ (.tail _ (.tail _ (.tail _ (.tail _ (.tail _ (.tail _ (.tail _ (.tail _ (.tail _ (.tail _ (.head _)))))))))))) (fun _ h => .tail _ (.tail _ (.tail _ (.tail _ (.tail _ (.tail _ (.tail _ (.tail _ (.tail _ (.tail _ (.tail _ (.tail _ (.tail _ (.tail _ (.tail _ (.tail _ (.tail _ (.tail _ h))))))))))))))))))))))))⟩
        exact hr2
    · refine WE_main rfl rfl (OW_alloc (cs := [_, _, _, _, _, _, _, _, _]) ti31 rfl (by decide) fun b17 => ?_)
      refine ⟨⟨(List.Sublist.cons _ (List.Sublist.cons _ (List.Sublist.cons _ (List.Sublist.cons _ (List.Sublist.cons_cons _ (List.Sublist.cons_cons _ (List.Sublist.cons_cons _ (List.Sublist.cons_cons _ (List.Sublist.refl _))))))))), (.head _)⟩, ?_⟩
      refine WE_main rfl rfl (OW_call0 (lown_s o Ao co hfit.rs) (.cons rfl (.nil)) (by decide) (memc (.tail _ (.tail _ (.tail _ (.tail _ (.tail _ (.tail _ (.tail _ (.head _)))))))) mem0) fun u12_6 Lo fs hres => ?_)
      obtain ⟨A8, c8, rfl, rfl, rfl⟩ := hres
      refine ⟨⟨(List.Sublist.cons _ (List.Sublist.cons _ (List.Sublist.cons _ (List.Sublist.cons _ (List.Sublist.cons_cons _ (List.Sublist.cons_cons _ (List.Sublist.cons_cons _ (List.Sublist.cons_cons _ (List.Sublist.refl _))))))))), (.tail _ (.head _))⟩, ?_⟩
      refine WE_main rfl rfl (OW_call3 (put_s h m cap A H L hr r37 o A8 c8 hfit (by omega)) (.cons rfl (.cons rfl (.cons rfl (.nil)))) (by decide) (.s (.z)) (.s (.z)) (.s (.z)) (memc (.tail _ (.tail _ (.tail _ (.tail _ (.tail _ (.tail _ (.tail _ (.tail _ (.tail _ (.tail _ (.tail _ (.tail _ (.tail _ (.tail _ (.tail _ (.head _)))))))))))))))) (memc (.tail _ (.tail _ (.tail _ (.tail _ (.tail _ (.tail _ (.tail _ (.tail _ (.tail _ (.head _)))))))))) (memc (.tail _ (.tail _ (.tail _ (.tail _ (.tail _ (.tail _ (.tail _ (.tail _ (.tail _ (.tail _ (.head _))))))))))) (memc (.head _) mem0)))) fun u12_7 Lo fs hres => ?_)
      obtain ⟨L2, A7, cap2, Ae, ce, hr2, rfl, rfl, rfl⟩ := hres
      rw [T.put] at hr2 ⊢
      dsimp only at hr2 ⊢
      have hf2 : ∀ y ∈ H2.ops, Fit y := fun y hy => by obtain ⟨e, he, rfl⟩ := List.mem_map.1 hy; exact hr2.fit e he
      refine ⟨⟨(List.Sublist.cons _ (List.Sublist.cons _ (List.Sublist.cons _ (List.Sublist.cons _ (List.Sublist.cons_cons _ (List.Sublist.cons_cons _ (List.Sublist.cons_cons _ (List.Sublist.cons_cons _ (List.Sublist.refl _))))))))), (.tail _ (.tail _ (.tail _ (.tail _ (.head _)))))⟩, ?_⟩
      refine Qe rfl (q_move rfl) ?_
      refine Qe rfl (q_extract (vs := [_, _]) rfl rfl) ?_
      refine WE_p rfl (q_extract (vs := [_, _]) rfl rfl) (by decide) ?_
      refine WE_end (WF_last rfl rfl (OW_storeN (cs' := [_, _, _, _, _, _, _, _, _]) (vs := [_, _, _, _, _, _, _, _, _]) ti31 rfl rfl rfl rfl rfl (Nat.le_of_ble_eq_true rfl) (.s (.s (.s (.z)))) ?_))
      refine WF_p rfl (q_assign rfl) (by decide) ?_
      refine WF_pick (.s (.s (.s (.s (.s (.z)))))) ?_
      refine WF_pick (.s (.s (.s (.s (.s (.z)))))) ?_
      refine WF_pick (.s (.s (.s (.s (.z))))) ?_
      refine WF_pick (.s (.s (.s (.s (.z))))) ?_
      refine WF_pick (.s (.s (.s (.s (.z))))) ?_
      refine WF_pick (.s (.s (.s (.s (.s (.z)))))) ?_
      refine WF_nil ?_
      refine thenK ?_
      refine ⟨(b17, L2, A7, cap2, Ae, ce), ?_, (.cons rfl (.cons rfl (.cons rfl (.cons rfl (.cons rfl (.cons rfl (.cons rfl (.cons rfl (.cons rfl (.nil _)))))))))), (List.Sublist.cons_cons _ (List.Sublist.cons_cons _ (List.Sublist.cons_cons _ (List.Sublist.cons_cons _ (List.Sublist.cons_cons _ (List.Sublist.cons_cons _ (List.Sublist.cons _ (List.Sublist.cons _ (List.Sublist.refl _))))))))), (memc (.tail _ (.tail _ (.tail _ (.tail _ (.tail _ (.head _)))))) (memc (.head _) (memc (.tail _ (.head _)) (memc (.tail _ (.tail _ (.tail _ (.tail _ (.tail _ (.tail _ (.head _))))))) (memc (.tail _ (.tail _ (.tail _ (.tail _ (.tail _ (.tail _ (.tail _ (.tail _ (.tail _ (.tail _ (.head _))))))))))) (memc (.tail _ (.tail _ (.tail _ (.tail _ (.tail _ (.tail _ (.tail _ (.tail _ (.tail _ (.tail _ (.tail _ (.head _)))))))))))) (fun _ h => .tail _ (.tail _ (.tail _ (.tail _ (.tail _ (.tail _ (.tail _ (.tail _ (.tail _ (.tail _ (.tail _ (.tail _ (.tail _ (.tail _ (.tail _ (.tail _ (.tail _ (.tail _ h))))))))))))))))))))))))⟩
      exact hr2
  · rintro ⟨b17, L2, A7, cap2, Ae, ce⟩ hr2
    have hf2 : ∀ y ∈ H2.ops, Fit y := fun y hy => by obtain ⟨e, he, rfl⟩ := List.mem_map.1 hy; exact hr2.fit e he
    refine WC_seq (WC_seq (WC_region ?_))
    refine Lq (q_move rfl) ?_
    refine Lq (q_neq rfl rfl) ?_
    refine WL_nil (thenN (WC_false rfl rfl (WC_skip (thenN ?_))))
    refine WC_meet (α := Nat × List MR × Option Addr × Nat × Option Addr × Nat)
      (fun (b17, L2, A7, cap2, Ae, ce) => [(5, .pointer (some ⟨v, 0, none⟩)), (7, .int .i64 H.ents.length), (8, .int .i64 r37), (9, .pointer (some ⟨b9, 0, none⟩)), (10, .slice Ao1 (H.ops.take r37).length co1), (15, .slice Ax2 later.length cx2), (17, .pointer (some ⟨b17, 0, none⟩))])
      (fun (b17, L2, A7, cap2, Ae, ce) => ([(b17, cellsO (opC eff Ae ce) 31)] :: hdP h A7 H2.ops.length cap2 m H2.total :: mpP m L2 :: mkP L2 :: [(b9, cellsO (opC o Ao co) 31)] :: vwP v h b A1 H.ents.length c1 A2 c2 A3 c3 nx :: Ps))
      (fun (b17, L2, A7, cap2, Ae, ce) => (RdF rgD Ae ce eff.rs :: RdF opD A7 cap2 H2.ops :: RdF opD Ax2 cx2 later :: RdF opD Ao1 co1 (H.ops.take r37) :: RdF rgD Ao co o.rs :: barF :: RdF mvD Am cm ms :: As))
      (fun (b17, L2, A7, cap2, Ae, ce) => HR H2 L2) ?_ ?_
    · refine WC_seq ?_
      refine WC_elem (k := 0) (.head _) rfl (op_open _) fun bo qo yo eo => ?_
      cases eo
      refine WC_draw _ _ [] (.c 0 0 (.c 1 0 (.c 2 0 (.c 3 0 (.c 4 0 (.c 5 0 (.c 6 0 (.c 7 0 (.c 8 0 (.c 9 0 (.c 10 0 (.c 11 0 (.c 12 0 (.c 13 0 (.c 14 0 (.c 15 0 (.c 16 0 (.c 17 0 (.c 18 0 (.c 19 0 (.c 20 0 (.c 21 0 (.c 22 0 (.c 23 0 (.c 24 0 (.c 25 0 (.c 26 0 (.c 27 0 (.c 28 0 (.c 29 0 (.c 30 0 (.c 31 0 (.c 32 0 (.c 33 0 (.c 34 0 (.c 35 2 (.c 36 0 (.c 37 0 (.c 38 0 .nil))))))))))))))))))))))))))))))))))))))) mixed (fun _ _ _ _ h => h) (List.Sublist.cons_cons _ (List.Sublist.cons_cons _ (List.Sublist.cons_cons _ (List.Sublist.cons_cons _ (List.Sublist.cons_cons _ (List.Sublist.cons_cons _ (List.Sublist.refl _))))))) (fun _ h => h) (by kernel_rfl) (by decide) fun ws Z0 => ?_
      refine Qe rfl (q_field (o' := 0) Tryd.underlying31 rfl ti28 rfl rfl) ?_
      refine Qe rfl (q_field (o' := 2) Tryd.underlying28 rfl ti26 rfl rfl) ?_
      refine Qe rfl (q_load1 Tryd.underlying26 rfl rfl (ownS (ownS (ownS (ownS (own0))))) rfl) ?_
      refine Qe rfl (q_neq rfl rfl) ?_
      refine Qe rfl (q_move rfl) ?_
      refine WE_guard (t := 110) rfl (fun g110 => ?_) (fun g110 => ?_)
      · refine WE_gq rfl rfl rfl rfl g110 (q_field (o' := 0) Tryd.underlying31 rfl ti28 rfl rfl) (by decide) ?_
        refine WE_gq rfl rfl rfl rfl g110 (q_field (o' := 2) Tryd.underlying28 rfl ti26 rfl rfl) (by decide) ?_
        refine WE_gq rfl rfl rfl rfl g110 (q_load1 Tryd.underlying26 rfl rfl own0 rfl) (by decide) ?_
        refine WE_gq rfl rfl rfl rfl g110 (q_field (o' := 0) Tryd.underlying31 rfl ti28 rfl rfl) (by decide) ?_
        refine WE_gq rfl rfl rfl rfl g110 (q_field (o' := 2) Tryd.underlying28 rfl ti26 rfl rfl) (by decide) ?_
        refine WE_gq rfl rfl rfl rfl g110 (q_load1 Tryd.underlying26 rfl rfl (ownS (ownS (ownS (ownS (own0))))) rfl) (by decide) ?_
        refine WE_gq rfl rfl rfl rfl g110 (q_neq rfl rfl) (by decide) ?_
        refine WE_gq rfl rfl rfl rfl g110 (q_move rfl) (by decide) ?_
        refine WE_gq rfl rfl rfl rfl (by rw [C.kind (by simpa using g110)]; simp) (q_field (o' := 3) Tryd.underlying31 rfl ti3 rfl rfl) (by decide) ?_
        refine WE_gq rfl rfl rfl rfl (by rw [C.kind (by simpa using g110)]; simp) (q_load1 Tryd.underlying3 rfl rfl own0 rfl) (by decide) ?_
        refine WE_gq rfl rfl rfl rfl (by rw [C.kind (by simpa using g110)]; simp) (q_move rfl) (by decide) ?_
        refine WE_gq rfl rfl rfl rfl (by rw [C.kind (by simpa using g110)]; simp) (q_idxRd Tryd.underlying45 ti31 rfl rfl (by first | omega | simp) (by first | omega | simp)) (by decide) ?_
        refine WE_gq rfl rfl rfl rfl (by rw [C.kind (by simpa using g110)]; simp) (q_field (o' := _ + 3) Tryd.underlying31 rfl ti3 rfl rfl) (by decide) ?_
        refine WE_gq rfl rfl rfl rfl (by rw [C.kind (by simpa using g110)]; simp) (q_loadF1 (j := 3) Tryd.underlying3 rfl rfl (.head _) rfl rfl) (by decide) ?_
        refine WE_gq rfl rfl rfl rfl (by rw [C.kind (by simpa using g110)]; simp) (q_neq rfl rfl) (by decide) ?_
        refine WE_gq rfl rfl rfl rfl g110 (q_pickF rfl (by rw [C.kind (by simpa using g110)]; simp) rfl) (by decide) ?_
        refine WE_gq rfl rfl rfl rfl g110 (q_move rfl) (by decide) ?_
        refine WE_gq rfl rfl rfl rfl (by rw [C.at_ (by simpa using g110)]; simp) (q_field (o' := 4) Tryd.underlying31 rfl ti9 rfl rfl) (by decide) ?_
        refine WE_gq rfl rfl rfl rfl (by rw [C.at_ (by simpa using g110)]; simp) (q_load1 Tryd.underlying9 rfl rfl own0 rfl) (by decide) ?_
        refine WE_gq rfl rfl rfl rfl (by rw [C.at_ (by simpa using g110)]; simp) (q_field (o' := 4) Tryd.underlying31 rfl ti9 rfl rfl) (by decide) ?_
        refine WE_gq rfl rfl rfl rfl (by rw [C.at_ (by simpa using g110)]; simp) (q_load1 Tryd.underlying9 rfl rfl (ownS (ownS (ownS (ownS (own0))))) rfl) (by decide) ?_
        refine WE_gq rfl rfl rfl rfl (by rw [C.at_ (by simpa using g110)]; simp) (q_sneq rfl rfl) (by decide) ?_
        refine WE_gq rfl rfl rfl rfl g110 (q_pickF rfl (by rw [C.at_ (by simpa using g110)]; simp) rfl) (by decide) ?_
        refine WE_gq rfl rfl rfl rfl g110 (q_move rfl) (by decide) ?_
        refine WE_gq rfl rfl rfl rfl (by rw [C.text (by simpa using g110)]; simp [beq_bytes_self]) (q_field (o' := 5) Tryd.underlying31 rfl ti29 rfl rfl) (by decide) ?_
        refine WE_gq rfl rfl rfl rfl (by rw [C.text (by simpa using g110)]; simp [beq_bytes_self]) (q_load1 Tryd.underlying29 rfl rfl own0 rfl) (by decide) ?_
        refine WE_gq rfl rfl rfl rfl (by rw [C.text (by simpa using g110)]; simp [beq_bytes_self]) (q_move rfl) (by decide) ?_
        refine WE_gq rfl rfl rfl rfl (by rw [C.text (by simpa using g110)]; simp [beq_bytes_self]) (q_idxRd Tryd.underlying45 ti31 rfl rfl (by first | omega | simp) (by first | omega | simp)) (by decide) ?_
        refine WE_gq rfl rfl rfl rfl (by rw [C.text (by simpa using g110)]; simp [beq_bytes_self]) (q_field (o' := _ + 5) Tryd.underlying31 rfl ti29 rfl rfl) (by decide) ?_
        refine WE_gq rfl rfl rfl rfl (by rw [C.text (by simpa using g110)]; simp [beq_bytes_self]) (q_loadF1 (j := 5) Tryd.underlying29 rfl rfl (.head _) rfl rfl) (by decide) ?_
        refine WE_gmain rfl rfl rfl rfl rfl (by rw [C.text (by simpa using g110)]; simp [beq_bytes_self]) (OW_call0 (eqRanges_s Ae yo.1 ce yo.2 eff.rs t1.rs (by have := T.rs; omega)) (.cons rfl (.cons rfl (.nil))) (by decide) (memc (.tail _ (.tail _ (.tail _ (.tail _ (.head _))))) (memc (.tail _ (.tail _ (.head _))) mem0)) fun u15_35 Lo fs hres => ?_)
        obtain ⟨rfl, rfl, rfl⟩ := hres
        refine ⟨⟨(List.Sublist.cons_cons _ (List.Sublist.cons_cons _ (List.Sublist.cons_cons _ (List.Sublist.cons_cons _ (List.Sublist.cons_cons _ (List.Sublist.cons_cons _ (List.Sublist.refl _))))))), (.head _)⟩, ?_⟩
        refine WE_gq rfl rfl rfl rfl (by rw [C.text (by simpa using g110)]; simp [beq_bytes_self]) (q_not rfl) (by decide) ?_
        refine WE_gq rfl rfl rfl rfl g110 (q_pickF rfl (by rw [C.text (by simpa using g110)]; simp [beq_bytes_self]) rfl) (by decide) ?_
        refine Qe rfl (q_pickT rfl g110 rfl) ?_
        refine WE_end (WF_nil ?_)
        refine thenN ?_
        refine WC_false rfl (by rw [C.rs (by simpa using g110)]; simp) ?_
        refine WC_skip (thenK ?_)
        refine ⟨(b17, L2, A7, cap2, Ae, ce), ?_, (.cons rfl (.cons rfl (.cons rfl (.cons rfl (.cons rfl (.cons rfl (.cons rfl (.nil _)))))))), (List.Sublist.cons_cons _ (List.Sublist.cons_cons _ (List.Sublist.cons_cons _ (List.Sublist.cons_cons _ (List.Sublist.cons_cons _ (List.Sublist.cons_cons _ (List.Sublist.refl _))))))), (fun _ h => .tail _ (.tail _ (.tail _ (.tail _ h))))⟩
        exact hr2
      · refine WE_gno rfl rfl rfl rfl g110 (by decide) ?_
        refine WE_gno rfl rfl rfl rfl g110 (by decide) ?_
        refine WE_gno rfl rfl rfl rfl g110 (by decide) ?_
        refine WE_gno rfl rfl rfl rfl g110 (by decide) ?_
        refine WE_gno rfl rfl rfl rfl g110 (by decide) ?_
        refine WE_gno rfl rfl rfl rfl g110 (by decide) ?_
        refine WE_gno rfl rfl rfl rfl g110 (by decide) ?_
        refine WE_gno rfl rfl rfl rfl g110 (by decide) ?_
        refine WE_gun rfl rfl rfl rfl (by decide) ?_
        refine WE_gun rfl rfl rfl rfl (by decide) ?_
        refine WE_gun rfl rfl rfl rfl (by decide) ?_
        refine WE_gun rfl rfl rfl rfl (by decide) ?_
        refine WE_gun rfl rfl rfl rfl (by decide) ?_
        refine WE_gun rfl rfl rfl rfl (by decide) ?_
        refine WE_gun rfl rfl rfl rfl (by decide) ?_
        refine WE_gno rfl rfl rfl rfl g110 (by decide) ?_
        refine WE_gno rfl rfl rfl rfl g110 (by decide) ?_
        refine WE_gun rfl rfl rfl rfl (by decide) ?_
        refine WE_gun rfl rfl rfl rfl (by decide) ?_
        refine WE_gun rfl rfl rfl rfl (by decide) ?_
        refine WE_gun rfl rfl rfl rfl (by decide) ?_
        refine WE_gun rfl rfl rfl rfl (by decide) ?_
        refine WE_gno rfl rfl rfl rfl g110 (by decide) ?_
        refine WE_gno rfl rfl rfl rfl g110 (by decide) ?_
        refine WE_gun rfl rfl rfl rfl (by decide) ?_
        refine WE_gun rfl rfl rfl rfl (by decide) ?_
        refine WE_gun rfl rfl rfl rfl (by decide) ?_
        refine WE_gun rfl rfl rfl rfl (by decide) ?_
        refine WE_gun rfl rfl rfl rfl (by decide) ?_
        refine WE_gun rfl rfl rfl rfl (by decide) ?_
        refine WE_gunm rfl rfl rfl rfl (by decide) ?_
        refine WE_gun rfl rfl rfl rfl (by decide) ?_
        refine WE_gno rfl rfl rfl rfl g110 (by decide) ?_
        refine Qe rfl (q_pickF rfl g110 rfl) ?_
        refine WE_end (WF_nil ?_)
        refine thenN (WC_false rfl rfl (WC_skip (thenK ?_)))
        refine ⟨(b17, L2, A7, cap2, Ae, ce), ?_, (.cons rfl (.cons rfl (.cons rfl (.cons rfl (.cons rfl (.cons rfl (.cons rfl (.nil _)))))))), (List.Sublist.cons_cons _ (List.Sublist.cons_cons _ (List.Sublist.cons_cons _ (List.Sublist.cons_cons _ (List.Sublist.cons_cons _ (List.Sublist.cons_cons _ (List.Sublist.refl _))))))), (fun _ h => .tail _ (.tail _ (.tail _ (.tail _ h))))⟩
        exact hr2
    · rintro ⟨b17, L2, A7, cap2, Ae, ce⟩ hr2
      have hf2 : ∀ y ∈ H2.ops, Fit y := fun y hy => by obtain ⟨e, he, rfl⟩ := List.mem_map.1 hy; exact hr2.fit e he
      refine WC_seq (WC_region ?_)
      refine Lq (q_move rfl) ?_
      refine Lq (q_nil rfl) ?_
      refine Lq (q_field (o' := 0) Tryd.underlying61 rfl ti22 rfl rfl) ?_
      refine Lq (q_load1 Tryd.underlying22 rfl rfl (ownS (ownS (ownS (ownS (ownS (own0)))))) rfl) ?_
      refine Lq (q_move rfl) ?_
      refine WL_main rfl (OW_call3 (hopsX_s h m cap2 A7 H2 L2 hr2 0 r37 (H.ops.take r37) (by omega) C.ahead) (.cons rfl (.cons rfl (.cons rfl (.nil)))) (by decide) (.s (.z)) (.s (.z)) (.s (.z)) (memc (.tail _ (.head _)) mem0) fun u17_5 Lo fs hres => ?_)
      obtain ⟨Ao3, co3, rfl, rfl, rfl⟩ := hres
      refine Lq (q_move rfl) ?_
      refine Lq (q_extract (vs := [_, _]) rfl rfl) ?_
      refine Lq (q_extract (vs := [_, _]) rfl rfl) ?_
      refine Lq (q_assign rfl) ?_
      refine Lq (q_assign rfl) ?_
      refine WL_nil (thenN (WC_seq (WC_region ?_)))
      refine Lq (q_move rfl) ?_
      refine Lq (q_nil rfl) ?_
      refine Lq (q_field (o' := 0) Tryd.underlying61 rfl ti22 rfl rfl) ?_
      refine Lq (q_load1 Tryd.underlying22 rfl rfl (ownS (ownS (ownS (ownS (ownS (own0)))))) rfl) ?_
      refine Lq (q_move rfl) ?_
      refine Lq (q_move rfl) ?_
      refine Lq (q_add rfl rfl (wr64 (by omega)) (c := ((r37 + 1 : Nat) : Int))) ?_
      refine WL_main rfl (OW_call3 (hopsX_s h m cap2 A7 H2 L2 hr2 r37 (r37 + 1) [o] (by omega) C.one) (.cons rfl (.cons rfl (.cons rfl (.nil)))) (by decide) (.z) (.z) (.z) (memc (.tail _ (.tail _ (.head _))) mem0) fun u18_7 Lo fs hres => ?_)
      obtain ⟨Ao4, co4, rfl, rfl, rfl⟩ := hres
      refine Lq (q_move rfl) ?_
      refine Lq (q_extract (vs := [_, _]) rfl rfl) ?_
      refine Lq (q_extract (vs := [_, _]) rfl rfl) ?_
      refine Lq (q_assign rfl) ?_
      refine Lq (q_assign rfl) ?_
      refine WL_nil (thenN (WC_seq (WC_region ?_)))
      refine Lq (q_move rfl) ?_
      refine Lq (q_nil rfl) ?_
      refine Lq (q_field (o' := 0) Tryd.underlying61 rfl ti22 rfl rfl) ?_
      refine Lq (q_load1 Tryd.underlying22 rfl rfl (ownS (ownS (ownS (ownS (ownS (own0)))))) rfl) ?_
      refine Lq (q_move rfl) ?_
      refine Lq (q_add rfl rfl (wr64 (by omega)) (c := ((r37 + 1 : Nat) : Int))) ?_
      refine Lq (q_move rfl) ?_
      refine Lq (q_add rfl rfl (wr64 (by omega)) (c := ((H.ents.length + 1 : Nat) : Int))) ?_
      refine WL_main rfl (OW_call3 (hopsX_s h m cap2 A7 H2 L2 hr2 (r37 + 1) (H.ents.length + 1) later (by omega) (by rw [hnl]; exact C.rest)) (.cons rfl (.cons rfl (.cons rfl (.nil)))) (by decide) (.z) (.z) (.z) (memc (.tail _ (.tail _ (.tail _ (.head _)))) mem0) fun u19_8 Lo fs hres => ?_)
      obtain ⟨Ao5, co5, rfl, rfl, rfl⟩ := hres
      refine Lq (q_move rfl) ?_
      refine Lq (q_extract (vs := [_, _]) rfl rfl) ?_
      refine Lq (q_extract (vs := [_, _]) rfl rfl) ?_
      refine Lq (q_assign rfl) ?_
      refine Lq (q_assign rfl) ?_
      refine WL_nil (thenN (WC_seq (WC_seq (WC_region ?_))))
      refine Lq (q_move rfl) ?_
      refine Lq (q_neq rfl rfl) ?_
      refine Lq (q_move rfl) ?_
      refine Lg rfl rfl rfl rfl (q_move rfl) ?_
      refine Lg rfl rfl rfl rfl (q_neq rfl rfl) ?_
      refine Lq (q_pickF rfl rfl rfl) ?_
      refine Lq (q_move rfl) ?_
      refine Lg rfl rfl rfl rfl (q_move rfl) ?_
      refine Lg rfl rfl rfl rfl (q_neq rfl rfl) ?_
      refine Lq (q_pickF rfl rfl rfl) ?_
      refine Lq (q_move rfl) ?_
      refine Lg rfl rfl rfl rfl (q_move rfl) ?_
      refine Lg rfl rfl rfl rfl (q_len Tryd.underlying45 rfl) ?_
      refine Lg rfl rfl rfl rfl (q_neq rfl rfl) ?_
      refine Lq (q_pickF rfl rfl rfl) ?_
      refine WL_nil (thenN (WC_false rfl rfl (WC_skip (thenN (WC_seq ?_)))))
      refine WC_elem (k := 0) (.tail _ (.head _)) rfl (op_open _) fun bb qb yb eb => ?_
      cases eb
      refine WC_draw _ _ [] (.c 0 0 (.c 1 0 (.c 2 2 (.c 3 0 (.c 4 0 (.c 5 0 (.c 6 0 (.c 7 0 (.c 8 2 (.c 9 0 (.c 10 0 (.c 11 0 (.c 12 0 (.c 13 2 (.c 14 0 (.c 15 0 .nil)))))))))))))))) mixed (fun _ _ _ _ h => h) (List.Sublist.cons_cons _ (List.Sublist.cons_cons _ (List.Sublist.cons_cons _ (List.Sublist.cons_cons _ (List.Sublist.cons_cons _ (List.Sublist.cons_cons _ (List.Sublist.refl _))))))) (fun _ h => h) (by kernel_rfl) (by decide) fun ws Z0 => ?_
      refine Qe rfl (q_move rfl) ?_
      refine Qe rfl (q_move rfl) ?_
      refine WE_main rfl rfl (OW_call0 (eqOps_t Ao3 Ao1 co3 co1 (H.ops.take r37) (by rw [List.length_take]; omega) (fun y hy => hfo y (List.mem_of_mem_take hy))) (.cons rfl (.cons rfl (.nil))) (by decide) (memc (.tail _ (.tail _ (.tail _ (.tail _ (.tail _ (.head _)))))) (memc (.tail _ (.tail _ (.tail _ (.tail _ (.tail _ (.tail _ (.tail _ (.tail _ (.tail _ (.head _)))))))))) mem0)) fun u22_2 Lo fs hres => ?_)
      obtain ⟨rfl, rfl, rfl⟩ := hres
      refine ⟨⟨(List.Sublist.cons_cons _ (List.Sublist.cons_cons _ (List.Sublist.cons_cons _ (List.Sublist.cons_cons _ (List.Sublist.cons_cons _ (List.Sublist.cons_cons _ (List.Sublist.refl _))))))), (.head _)⟩, ?_⟩
      refine Qe rfl (q_move rfl) ?_
      refine WE_gq rfl rfl rfl rfl rfl (q_move rfl) (by decide) ?_
      refine WE_gq rfl rfl rfl rfl rfl (q_idxRd Tryd.underlying45 ti31 rfl rfl (by first | omega | simp) (by first | omega | simp)) (by decide) ?_
      refine WE_gq rfl rfl rfl rfl rfl (q_loadFN (k := 0) (vs := [_, _, _, _, _, _, _, _, _]) Tryd.underlying31 rfl ti31 rfl (.head _) rfl rfl rfl) (by decide) ?_
      refine WE_gq rfl rfl rfl rfl rfl (q_loadN (vs := [_, _, _, _, _, _, _, _, _]) Tryd.underlying31 rfl ti31 rfl (ownS (ownS (ownS (ownS (own0))))) rfl rfl) (by decide) ?_
      refine WE_gmain rfl rfl rfl rfl rfl rfl (OW_call0 (eqOp_t o yb.1 Ao yb.2 co hfit.rs) (.cons rfl (.cons rfl (.nil))) (by decide) (memc (.tail _ (.tail _ (.head _))) (memc (.tail _ (.tail _ (.tail _ (.tail _ (.tail _ (.tail _ (.tail _ (.tail _ (.tail _ (.tail _ (.head _))))))))))) mem0)) fun u22_8 Lo fs hres => ?_)
      obtain ⟨rfl, rfl, rfl⟩ := hres
      refine ⟨⟨(List.Sublist.cons_cons _ (List.Sublist.cons_cons _ (List.Sublist.cons_cons _ (List.Sublist.cons_cons _ (List.Sublist.cons_cons _ (List.Sublist.cons_cons _ (List.Sublist.refl _))))))), (.head _)⟩, ?_⟩
      refine Qe rfl (q_pickT rfl rfl rfl) ?_
      refine Qe rfl (q_move rfl) ?_
      refine WE_gq rfl rfl rfl rfl rfl (q_move rfl) (by decide) ?_
      refine WE_gq rfl rfl rfl rfl rfl (q_move rfl) (by decide) ?_
      refine WE_gmain rfl rfl rfl rfl rfl rfl (OW_call0 (eqOps_t Ao5 Ax2 co5 cx2 later (by rw [C.len]; omega) (fun y hy => by rw [← C.rest] at hy; exact hf2 y (List.mem_of_mem_take (List.mem_of_mem_drop hy)))) (.cons rfl (.cons rfl (.nil))) (by decide) (memc (.tail _ (.tail _ (.tail _ (.head _)))) (memc (.tail _ (.tail _ (.tail _ (.tail _ (.tail _ (.tail _ (.tail _ (.tail _ (.head _))))))))) mem0)) fun u22_13 Lo fs hres => ?_)
      obtain ⟨rfl, rfl, rfl⟩ := hres
      refine ⟨⟨(List.Sublist.cons_cons _ (List.Sublist.cons_cons _ (List.Sublist.cons_cons _ (List.Sublist.cons_cons _ (List.Sublist.cons_cons _ (List.Sublist.cons_cons _ (List.Sublist.refl _))))))), (.head _)⟩, ?_⟩
      refine Qe rfl (q_pickT rfl rfl rfl) ?_
      refine Qe rfl (q_assign rfl) ?_
      refine WE_end (WF_nil ?_)
      refine thenN ?_
      refine WC_fr [(4, _)] (.cons rfl (.nil _)) ?_
      refine WC_ret ?_
      refine ⟨_, [], [], fun Z w hs => .tmp rfl (.nil), ?_, fun Z w hs => hs.out (List.Sublist.cons _ (List.Sublist.cons _ (List.Sublist.cons _ (List.Sublist.cons _ (List.Sublist.cons _ (List.Sublist.cons _ (List.Sublist.refl _))))))) (fun _ h => .tail _ (.tail _ (.tail _ (.tail _ (.tail _ (.tail _ (.tail _ (.tail _ (.tail _ (.tail _ (.tail _ h)))))))))))⟩
      exact ⟨rfl, rfl, rfl⟩

end Go.Proofs.YtggdddkbhigjoaaDoor
set_option maxRecDepth 100000
namespace Go.Proofs.YtggdddkbhigjoaaDoor.historyCarries
open Go Go.GW Go.ChangeShapes Go.WideShapes Go.ChangeAt Go.RowKit
theorem own : ownKnob Tryd.prog.godebug = none := by kernel_rfl
/-- The walk, in the row's words. -/
theorem contract (H : Type) (enc : TypeId × Value → H) (W : World) (base : Nat) (args : Array Value) (ds gs : List (DataW H)) (before : List MemPlace)
    (hval : ∀ (j : Nat) t v, Tryd.f4.params[j]? = some t → args[j]? = some v → Value.okWide Tryd.prog W .any base t v)
    (hW : DataW.Whole enc Tryd.prog Tryd.f4.params.toList Rows.historyCarriesSpec.vars false W args.toList ds gs before) (hL : laidMetH Tryd.prog Rows.historyCarriesRow.laid W) :
    Calls Tryd.prog 4 args W fun e W' => ∃ v, e = .returned v ∧ Rows.historyCarriesSpec.post enc Tryd.prog Tryd.f4 false true false false W args v W' := by
  have hW' := hW
  have hlt := hW.lt
  obtain ⟨p, q, hA0, hV, rfl, hfz, hnd⟩ := hW
  have hA : DataW.TrodAll enc Tryd.prog W 0 (fun _ => true) true Tryd.f4.params.toList args.toList ds p := hA0
  rw [Tryd.params4] at hA hval
  obtain ⟨v0, v1, d0, d1, p0, p1, rfl, rfl, rfl, t0, t1⟩ := trodAll_two hA
  obtain ⟨rfl, rfl⟩ := trodVars_none hV
  clear hA0
  obtain ⟨A0, ms0, c0, rfl, hR0⟩ := mvs_arg (hval 0 49 v0 rfl rfl) t0
  obtain ⟨mm1, rfl⟩ := mv_arg (hval 1 51 v1 rfl rfl) t1
  have hb := bars_of hL
  have hs := st_of (W := W) (As := [barF, RdF mvD A0 c0 ms0]) (fun A hA => by
    simp only [List.mem_cons, List.not_mem_nil, or_false] at hA
    rcases hA with rfl | rfl
    · exact ⟨hb.2, hb.1⟩
    · exact hR0)
  refine ((carries_s A0 c0 ms0 mm1).calls _ W [] [NearF W (fun b => b < W.heap.size)] hs).mono ?_
  rintro e W' ⟨v, rfl, Z', Lo, fs, ⟨rfl, rfl, rfl⟩, h2⟩
  have hk := h2.facts (NearF W (fun b => b < W.heap.size)) (by simp)
  have hsame : ∀ x ∈ p0 ++ p1 ++ [], W.sameAt W' x := fun x hx => same_of hk (hlt x hx)
  exact ⟨_, rfl, post_plain (pa := p0 ++ p1) (pv := []) hW' (fun _ _ _ => trodAll_cons_mk (shut_bool Tryd.underlying4 _) trodAll_mk0) (fun sp hsp => trodAll_mk2 (WideElems.Trod_stays laidOk (by kernel_rfl) (of_decide_eq_true (by kernel_rfl)) t0 (fun x hx => hsame x (List.mem_append_left _ (List.mem_append_left _ hx))) (fun x hx => hsp x (List.mem_append_left _ (List.mem_append_left _ hx)))) (WideElems.Trod_stays laidOk (by kernel_rfl) (of_decide_eq_true (by kernel_rfl)) t1 (fun x hx => hsame x (List.mem_append_left _ (List.mem_append_right _ hx))) (fun x hx => hsp x (List.mem_append_left _ (List.mem_append_right _ hx))))) (fun _ _ => rfl) rfl (kept_of hk _)⟩
/-- A world for the witness. -/
noncomputable def laidWorld (os : Os) : World :=
  { World.holding Tryd.prog os ⟨#[], #[.slice none 0 0, .agg #[.int .i64 0, .int .i64 0, .int .i64 0, .int .i64 0, .int .i64 0, .int .i64 0]], []⟩ with heap := (World.holding Tryd.prog os ⟨#[], #[.slice none 0 0, .agg #[.int .i64 0, .int .i64 0, .int .i64 0, .int .i64 0, .int .i64 0, .int .i64 0]], []⟩).heap.modify 0 fun
      | .cells _ t frozen => .cells barC.toArray t frozen
      | o => o }
theorem laid_met (os : Os) : laidMet Tryd.prog Rows.historyCarriesRow.laid ((laidWorld os).forCall (fun _ _ => 0) ⟨#[], #[.slice none 0 0, .agg #[.int .i64 0, .int .i64 0, .int .i64 0, .int .i64 0, .int .i64 0, .int .i64 0]], []⟩).memory :=
  laidMet_of_run' 8 (by kernel_rfl) (by kernel_rfl)
theorem reads (os : Os) {H : Type} (enc : TypeId × Value → H) : ∃ places, DataW.whole enc Tryd.prog ((laidWorld os).forCall (fun _ _ => 0) ⟨#[], #[.slice none 0 0, .agg #[.int .i64 0, .int .i64 0, .int .i64 0, .int .i64 0, .int .i64 0, .int .i64 0]], []⟩).memory Tryd.f4.params.toList Rows.historyCarriesSpec.vars false (#[.slice none 0 0, .agg #[.int .i64 0, .int .i64 0, .int .i64 0, .int .i64 0, .int .i64 0, .int .i64 0]] : Array Value).toList 8 = some ([.nil, .agg [.lit (.int .i64 0), .lit (.int .i64 0), .lit (.int .i64 0), .lit (.int .i64 0), .lit (.int .i64 0), .lit (.int .i64 0)]], [], places) :=
  ⟨[], by kernel_rfl⟩
theorem lifted (os : Os) (started : os.Started) (H : Type) (enc : TypeId × Value → H) (F : Stop.Interp) :
    ReturnsInHanded {} Tryd.checked os 4 .any ((OpenSpec.ofChange Rows.historyCarriesSpec).preRow enc Tryd.prog Tryd.f4 Rows.historyCarriesRow.domain false Rows.historyCarriesRow.laid) (((OpenSpec.ofChange Rows.historyCarriesSpec).at F).post enc Tryd.prog Tryd.f4 false true false false) := by
  obtain ⟨places, hx⟩ := reads os enc
  refine returnsInHanded_of_row (C := Tryd.checked) (s := OpenSpec.ofChange Rows.historyCarriesSpec) own started (by kernel_rfl) Tryd.func4
    (witness_row_at (enc := enc) (C := Tryd.checked) false (laidWorld os) #[.slice none 0 0, .agg #[.int .i64 0, .int .i64 0, .int .i64 0, .int .i64 0, .int .i64 0, .int .i64 0]] rfl (by kernel_rfl) (by kernel_rfl) (by kernel_rfl)
      (OpenSpec.preRow_of_cond 8 hx (by kernel_rfl) (fun k hk => by cases hk) (by kernel_rfl) (laid_met os))) ?_
  intro W base args ds gs before hval hW _ _ _ hL _ _
  exact contract H enc W base args ds gs before hval hW hL
theorem said : Rows.HistoryCarriesSaid :=
  OpenClaim.holds_of_cond 4 Tryd.f4 rfl rfl rfl rfl rfl rfl rfl ⟨rfl, rfl, rfl, rfl, rfl⟩ rfl rfl rfl rfl rfl (by kernel_rfl) Tryd.func4 (by kernel_rfl)
    (of_decide_eq_true (by kernel_rfl)) (by unfold Func.isWrapper; first | (rw [if_pos (by decide +kernel)]; kernel_rfl) | (rw [if_neg (by decide +kernel)]; exact ⟨rfl, rfl⟩))
    (fun os started H enc _ F => by rw [OpenClaim.pre_eq_preRow]; exact lifted os started H enc F)
theorem plain (f : FuncId) (fn : Func) (hf : Tryd.pinned.checked.prog.funcNamed "redraft/redraftlaw06.HistoryCarries" = some f) (hfn : Tryd.pinned.checked.prog.funcs[f]? = some fn) :
    false = Tryd.pinned.checked.prog.looks [] ∧ ∀ (j : Nat) t, fn.params[j]? = some t → Tryd.pinned.checked.prog.wantsStandIn t = false := by
  obtain rfl : f = 4 := Option.some.inj ((show Tryd.prog.funcNamed "redraft/redraftlaw06.HistoryCarries" = some 4 by kernel_rfl).symm.trans hf) |>.symm
  obtain rfl : fn = Tryd.f4 := (Option.some.inj (Tryd.func4.symm.trans hfn)).symm
  refine ⟨by kernel_rfl, fun j t ht => ?_⟩
  rw [Tryd.params4] at ht
  rcases j with _ | _ | j
  · simp at ht; subst ht; kernel_rfl
  · simp at ht; subst ht; kernel_rfl
  · simp at ht
theorem card : Rows.HistoryCarriesCardSaid :=
  Claim7.holds_tied_plain_at .later [] _ _ _ _ said (fun _ h => by cases h) (by kernel_rfl) (fun _ h => by cases h) historyCarries_row_tie rfl ⟨rfl, rfl⟩ (by kernel_rfl) rfl plain (by kernel_rfl)
#print axioms card
end Go.Proofs.YtggdddkbhigjoaaDoor.historyCarries
