/- The plain law of HistoryMany: what the calls answer, one behind the other. -/
import Derived.Test.YtggdddkbhigjoaaDoorPu
import Derived.Test.YtggdddkbhigjoaaDoorTx
set_option linter.unusedVariables false
namespace Go.Proofs.YtggdddkbhigjoaaDoor
open Go Go.GW
/-! ### Lists of ranges that stand apart -/
def sepFrom : Int → List Rg → Prop
  | _, [] => True
  | h, r :: rs => h < r.lo ∧ r.lo < r.hi ∧ sepFrom r.hi rs
def shiftR (n : Int) (r : Rg) : Rg := ⟨r.lo + n, r.hi + n⟩
theorem ckAt_sep : ∀ (xs : List Rg) (h i : Int) (q : Rg), sepFrom h xs → q.hi ≤ h → 0 ≤ h → (∀ r ∈ xs, r.hi ≤ 1048576) → ckAt i (some q) xs = (0, 0)
  | [], _, _, _, _, _, _, _ => rfl
  | r :: rs, h, i, q, hs, hq, h0, hb => by
    obtain ⟨h1, h2, h3⟩ := hs
    have := hb r List.mem_cons_self
    rw [ckAt_next (by omega) (by omega)]
    exact ckAt_sep rs r.hi (i + 1) r h3 (Int.le_refl _) (by omega) fun x hx => hb x (List.mem_cons_of_mem _ hx)
theorem ckF_sep {r : Rg} {rs : List Rg} (h0 : 0 ≤ r.lo) (h1 : r.lo < r.hi) (hb : ∀ x ∈ r :: rs, x.hi ≤ 1048576) (hs : sepFrom r.hi rs) (hl : rs.length < 32768) : ckF (r :: rs) = (0, 0) := by
  unfold ckF
  rw [if_neg (by simp; omega)]
  have := hb r List.mem_cons_self
  rw [ckAt_first (by omega)]
  exact ckAt_sep rs r.hi _ r hs (Int.le_refl _) (by omega) fun x hx => hb x (List.mem_cons_of_mem _ hx)
theorem thrL_shift {at_ n : Int} : ∀ (xs acc : List Rg) (h : Int), sepFrom h xs → at_ ≤ h + 1 → (∀ a, acc.getLast? = some a → a.hi ≤ h + n) → thrL at_ n acc xs = acc ++ xs.map (shiftR n)
  | [], acc, _, _, _, _ => by simp [thrL]
  | r :: rs, acc, h, hs, ha, hl => by
    obtain ⟨h1, h2, h3⟩ := hs
    have e1 : addF acc r.lo (min r.hi at_) = acc := addF_skip (by omega)
    have e2 : addF acc (max r.lo at_ + n) (r.hi + n) = acc ++ [shiftR n r] := by
      have e3 : max r.lo at_ + n = r.lo + n := by omega
      rw [e3]
      rcases List.eq_nil_or_concat acc with rfl | ⟨ys, a, rfl⟩
      · rw [addF_nil (by omega)]; rfl
      · rw [List.concat_eq_append] at *
        have := hl a (by simp)
        rw [addF_more (by omega) (by omega)]; rfl
    rw [thrL, e1, e2, thrL_shift rs (acc ++ [shiftR n r]) r.hi h3 (by omega) (by
      intro a ha
      simp only [List.getLast?_append, List.getLast?_singleton, Option.some_or, Option.some.injEq] at ha
      subst ha
      exact Int.le_refl _)]
    simp
theorem thrL_len {at_ n : Int} : ∀ (xs acc : List Rg), (thrL at_ n acc xs).length ≤ acc.length + 2 * xs.length
  | [], acc => by simp [thrL]
  | r :: rs, acc => by
    have h1 := addF_len (addF acc r.lo (min r.hi at_)) (max r.lo at_ + n) (r.hi + n)
    have h2 := addF_len acc r.lo (min r.hi at_)
    have := thrL_len rs (addF (addF acc r.lo (min r.hi at_)) (max r.lo at_ + n) (r.hi + n)) (at_ := at_) (n := n)
    simp only [thrL, List.length_cons]
    omega
theorem boundF_ok {xs : List Rg} (h : xs.length ≤ 32768) : boundF xs = (xs, 0) := by unfold boundF; rw [if_neg (by omega)]
theorem thrF_eq {xs : List Rg} {at_ n : Int} (h : (ckF xs).2 = 0) (h2 : ¬ (at_ < 0 ∨ at_ > 1048576 ∨ n < 0 ∨ n > 1048576)) (hl : ∀ r ∈ xs, r.hi + n ≤ 1048576) : thrF xs at_ n = boundF (thrL at_ n [] xs) := by
  unfold thrF
  rw [if_neg (by simpa using h), if_neg h2]
  cases hq : xs.getLast? with
  | none => rfl
  | some r =>
    have := hl r (List.mem_of_getLast? hq)
    simp only
    rw [if_neg (by omega)]
/-! ### The commands of the statement -/
def tailR : Nat → Nat → List Rg
  | _, 0 => []
  | j, m + 1 => ⟨2 * j + 1, 2 * j + 2⟩ :: tailR (j + 1) m
theorem tailR_len : ∀ (m j : Nat), (tailR j m).length = m
  | 0, _ => rfl
  | m + 1, j => by simp [tailR, tailR_len m (j + 1)]
theorem tailR_snoc : ∀ (m j : Nat), tailR j (m + 1) = tailR j m ++ [⟨2 * ((j + m : Nat) : Int) + 1, 2 * ((j + m : Nat) : Int) + 2⟩]
  | 0, j => by simp [tailR]
  | m + 1, j => by
    have := tailR_snoc m (j + 1)
    rw [tailR, this, tailR, show j + 1 + m = j + (m + 1) from by omega]; rfl
theorem tailR_get : ∀ (m j k : Nat), k < m → (tailR j m)[k]? = some ⟨2 * ((j + k : Nat) : Int) + 1, 2 * ((j + k : Nat) : Int) + 2⟩
  | 0, _, _, h => by omega
  | m + 1, j, 0, _ => by simp [tailR]
  | m + 1, j, k + 1, h => by
    have := tailR_get m (j + 1) k (by omega)
    rw [tailR, List.getElem?_cons_succ, this, show j + 1 + k = j + (k + 1) from by omega]
theorem tailR_sep : ∀ (m j : Nat) (h : Int), h ≤ 2 * j → sepFrom h (tailR j m)
  | 0, _, _, _ => trivial
  | m + 1, j, h, hj => ⟨by show h < 2 * (j : Int) + 1; omega, by show 2 * (j : Int) + 1 < 2 * j + 2; omega, tailR_sep m (j + 1) _ (by show 2 * (j : Int) + 2 ≤ 2 * ((j + 1 : Nat) : Int); omega)⟩
theorem tailR_hi : ∀ (m j : Nat), ∀ r ∈ tailR j m, r.hi ≤ 2 * ((j + m : Nat) : Int)
  | 0, _, r, hr => by cases hr
  | m + 1, j, r, hr => by
    rcases List.mem_cons.1 hr with rfl | hr
    · show 2 * (j : Int) + 2 ≤ _; omega
    · have := tailR_hi m (j + 1) r hr; omega
/-- The tail of the great delete's ranges. -/
structure TOk (T : List Rg) : Prop where
  len : T.length = 32767
  sep : sepFrom 2 T
  hi : ∀ r ∈ T, r.hi ≤ 65536
  get : ∀ k, k < 32767 → T[k]? = some ⟨2 * ((1 + k : Nat) : Int) + 1, 2 * ((1 + k : Nat) : Int) + 2⟩
theorem TOk.mk' {T : List Rg} (h : T = tailR 1 32767) : TOk T := by
  refine ⟨by rw [h, tailR_len], by rw [h]; exact tailR_sep _ _ _ (by decide), fun r hr => ?_, fun k hk => by rw [h]; exact tailR_get _ _ _ hk⟩
  rw [h] at hr
  have := tailR_hi _ _ r hr
  omega
abbrev dRs (T : List Rg) : List Rg := ⟨0, 2⟩ :: T
abbrev dRs2 (T : List Rg) : List Rg := ⟨0, 2⟩ :: T.map (shiftR 1)
variable {T : List Rg}
theorem TOk.hi2 (h : TOk T) : ∀ r ∈ dRs T, r.hi ≤ 65536 := fun r hr => by
  rcases List.mem_cons.1 hr with rfl | hr
  · show (2 : Int) ≤ _; omega
  · exact h.hi r hr
theorem TOk.ck (h : TOk T) : ckF (dRs T) = (0, 0) := ckF_sep (by decide) (by decide) (fun r hr => by have := h.hi2 r hr; omega) h.sep (by have := h.len; omega)
theorem TOk.thr1 (h : TOk T) : thrF (dRs T) 1 1 = ([], 21) := by
  rw [thrF_eq (by rw [h.ck]) (by decide) (fun r hr => by have := h.hi2 r hr; omega)]
  have e : thrL 1 1 [] (dRs T) = thrL 1 1 [⟨0, 1⟩, ⟨2, 3⟩] T := by
    show thrL 1 1 (addF (addF [] 0 (min 2 1)) (max 0 1 + 1) (2 + 1)) T = _
    rw [show addF (addF [] 0 (min 2 1)) (max 0 1 + 1) (2 + 1) = [⟨0, 1⟩, ⟨2, 3⟩] from by decide]
  rw [e, thrL_shift T _ 2 h.sep (by decide) (by intro a ha; simp at ha; subst ha; decide)]
  unfold boundF
  rw [if_pos (by have := h.len; simp only [List.length_append, List.length_map, List.length_cons, List.length_nil]; omega)]
theorem TOk.thr2 (h : TOk T) : thrF (dRs T) 2 1 = (dRs2 T, 0) := by
  rw [thrF_eq (by rw [h.ck]) (by decide) (fun r hr => by have := h.hi2 r hr; omega)]
  have e : thrL 2 1 [] (dRs T) = thrL 2 1 [⟨0, 2⟩] T := by
    show thrL 2 1 (addF (addF [] 0 (min 2 2)) (max 0 2 + 1) (2 + 1)) T = _
    rw [show addF (addF [] 0 (min 2 2)) (max 0 2 + 1) (2 + 1) = [⟨0, 2⟩] from by decide]
  rw [e, thrL_shift T _ 2 h.sep (by decide) (by intro a ha; simp at ha; subst ha; decide)]
  rw [boundF_ok (by have := h.len; simp only [List.length_append, List.length_map, List.length_cons, List.length_nil]; omega)]; rfl
/-! ### One range -/
theorem ckF_one {r : Rg} (h : 0 ≤ r.lo ∧ r.lo < r.hi ∧ r.hi ≤ 1048576) : ckF [r] = (0, 0) := ckF_sep h.1 h.2.1 (fun x hx => by rw [List.mem_singleton.1 hx]; exact h.2.2) trivial (by simp)
theorem thrF_same {r : Rg} {at_ n : Int} (h : 0 ≤ r.lo ∧ r.lo < r.hi ∧ r.hi ≤ at_) (ha : at_ ≤ 1048576) (hn : 0 ≤ n ∧ n ≤ 1048576) : thrF [r] at_ n = ([r], 0) := by
  unfold thrF
  rw [if_neg (by rw [ckF_one ⟨h.1, h.2.1, by omega⟩]; decide), if_neg (by omega)]
  simp only [List.getLast?_singleton]
  rw [if_neg (by omega)]
  have e : thrL at_ n [] [r] = [r] := by
    show addF (addF [] r.lo (min r.hi at_)) (max r.lo at_ + n) (r.hi + n) = _
    rw [show min r.hi at_ = r.hi from by omega, addF_nil (by omega), addF_skip (by omega)]
  rw [e, boundF_ok (by simp)]
theorem thrF_fine {r : Rg} {at_ n : Int} (h : 0 ≤ r.lo ∧ r.lo < r.hi ∧ r.hi + n ≤ 1048576) (ha : 0 ≤ at_ ∧ at_ ≤ 1048576) (hn : 0 ≤ n) : (thrF [r] at_ n).2 = 0 := by
  rw [thrF_eq (by rw [ckF_one ⟨h.1, h.2.1, by omega⟩]) (by omega) (fun x hx => by rw [List.mem_singleton.1 hx]; exact h.2.2), boundF_ok]
  have := thrL_len [r] [] (at_ := at_) (n := n)
  simp at this; omega
theorem movedAll_ok : ∀ {es : List Ent} {at_ n : Int}, (∀ e ∈ es, (thrF e.now at_ n).2 = 0) → movedAll es at_ n = .ok (es.map fun e => (thrF e.now at_ n).1)
  | [], _, _, _ => rfl
  | e :: es, at_, n, h => by
    rw [movedAll, if_neg (by simpa using h e List.mem_cons_self), movedAll_ok fun x hx => h x (List.mem_cons_of_mem _ hx)]; rfl
theorem movedAll_bad : ∀ {es : List Ent} {d : Ent} {at_ n : Int}, (∀ e ∈ es, (thrF e.now at_ n).2 = 0) → (thrF d.now at_ n).2 ≠ 0 → movedAll (es ++ [d]) at_ n = .error (thrF d.now at_ n).2
  | [], d, _, _, _, h => by rw [List.nil_append, movedAll, if_pos h]
  | e :: es, d, at_, n, h, hd => by
    rw [List.cons_append, movedAll, if_neg (by simpa using h e List.mem_cons_self), movedAll_bad (fun x hx => h x (List.mem_cons_of_mem _ hx)) hd]
theorem setNow_map (f : Ent → List Rg) : ∀ (es : List Ent), setNow es (es.map f) es.length = es.map fun e => ⟨e.op, f e, e.off⟩
  | [] => rfl
  | e :: es => by simp only [List.map_cons, List.length_cons, setNow, setNow_map f es]
theorem newEnts_end {o : GOp} {nw : List Rg} {es : List Ent} {i : Nat} (h : es.length = i) : newEnts i o nw es [] = es ++ [⟨o, nw, false⟩] := by
  unfold newEnts
  rw [List.take_of_length_le (by omega), List.drop_eq_nil_of_le (by omega)]; rfl
theorem crossF_end {o : GOp} (h : ownF o = 0) : crossF [o] [] = ([o], [], 0) := by
  refine crossF_4 ?_ rfl rfl
  unfold ownsF ownsF
  rw [if_neg (by simpa using h)]
/-! ### The commands -/
def insOp (j : Nat) : GOp := ⟨1, j + 1, 1, 256 * j, textB j 256, [], 0, 0, false⟩
def insE (j : Nat) : Ent := ⟨insOp j, [⟨256 * j, 256 * j + 256⟩], false⟩
def insL : Nat → List Ent
  | 0 => []
  | k + 1 => insL k ++ [insE k]
def Hk (k : Nat) : Hist := ⟨insL k, 256 * k⟩
def dOp (T : List Rg) : GOp := ⟨2, 1, 2, 0, ⟨#[]⟩, dRs T, 0, 0, false⟩
def Hd (T : List Rg) : Hist := ⟨insL 256 ++ [⟨dOp T, dRs T, false⟩], 65536⟩
def xOp (a : Int) : GOp := ⟨3, 1, 1, a, mkB [120], [], 0, 0, false⟩
theorem insL_len : ∀ k, (insL k).length = k
  | 0 => rfl
  | k + 1 => by simp [insL, insL_len k]
theorem insL_mem : ∀ {k : Nat} {e : Ent}, e ∈ insL k → ∃ j, j < k ∧ e = insE j
  | 0, e, h => by cases h
  | k + 1, e, h => by
    unfold insL at h
    rcases List.mem_append.1 h with h | h
    · obtain ⟨j, h1, h2⟩ := insL_mem h
      exact ⟨j, by omega, h2⟩
    · exact ⟨k, by omega, List.mem_singleton.1 h⟩
theorem ins_width (j : Nat) : widthF (insOp j) = 256 := by unfold widthF insOp; rw [if_pos rfl, utF_text]; rfl
theorem x_text : utF (mkB [120]) = (1, 0, 0) := by
  have h : ¬ ∃ _ : Nat, False := fun ⟨_, h⟩ => h
  have hd : Utf8.decode (mkB [120]) 0 = (120, 1) := decode_one [] [] 120 (by decide)
  unfold utF
  rw [utAt_next (by rw [mkB_size]; decide) (by rw [hd]; decide) (by rw [hd]; decide), hd]
  rw [utAt_end (by rw [mkB_size]; decide)]; rfl
theorem x_width (a : Int) : widthF (xOp a) = 1 := by unfold widthF xOp; rw [if_pos rfl, x_text]
theorem sum_ins : ∀ k, sumW (insL k) = 256 * k
  | 0 => rfl
  | k + 1 => by
    rw [insL, sumW_append, sum_ins k]
    show _ + (widthF (insOp k) + 0) = _
    rw [ins_width]; omega
theorem check_ins {c n at_ t w : Int} {s : ByteArray} (hu : utF s = (w, 0, 0)) (hc : 1 ≤ c ∧ c ≤ 8 ∧ 1 ≤ n ∧ n ≤ 1024) (hw : 0 < w ∧ w ≤ 256) (ha : 0 ≤ at_ ∧ at_ ≤ t) (ht : t + w ≤ 1048576) : checkF ⟨c, n, 1, at_, s, [], 0, 0, false⟩ t = 0 := by
  unfold checkF
  rw [if_neg (by omega), if_neg (by show ¬ ((1 : Int) < 1 ∨ (1 : Int) > 4); omega), if_neg (by unfold rightF; simp [hc]), if_neg (by unfold extraF; simp), if_pos rfl]
  unfold insF
  simp only [hu]
  rw [if_neg (by simp), if_neg (by omega), if_neg (by omega), if_neg (by omega), if_neg (by omega)]
theorem insE_at {j : Nat} : (insE j).op.c = 1 ∧ (insE j).op.n = j + 1 := ⟨rfl, rfl⟩
theorem where_ins {k : Nat} {c n : Int} {r : List Ent} (h : ∀ j, j < k → ¬ (c = 1 ∧ n = (j : Int) + 1)) (hr : ∀ e ∈ r, ¬ (c = e.op.c ∧ n = e.op.n)) : whereId (insL k ++ r) c n = none := by
  unfold whereId
  rw [List.findIdx?_eq_none_iff]
  intro e he
  have key : ¬ (c = e.op.c ∧ n = e.op.n) := by
    rcases List.mem_append.1 he with he | he
    · obtain ⟨j, hj, rfl⟩ := insL_mem he
      exact h j hj
    · exact hr e he
  cases hq : (decide (c = e.op.c) && decide (n = e.op.n)) with
  | false => rfl
  | true => simp at hq; exact absurd hq key
end Go.Proofs.YtggdddkbhigjoaaDoor
