/- The rules by which this claim's walks go: comparisons, literals, fields, strings, conversions. -/
import Derived.Test.YtggdddkbhigjoaaDoorGwE
import Derived.Laws.StructEq
import Derived.WideLaws
set_option linter.unusedVariables false
set_option linter.unusedSimpArgs false
namespace Go.GW
open Go
theorem run_part1 {P : Program} {T : TypeId} {dd : TypeDesc} {cs : List Value} {o : Nat} {v : Value} {w : World} (hu : P.underlying T = some dd) (hd : agg? dd = false) (hv : cs[o]? = some v) : (part T cs.toArray o).run P w = .ok v w := by
  unfold part
  rw [Sem.run_bind, run_isAgg hu, hd]
  simp [hv]
theorem run_partN {P : Program} {T : TypeId} {dd : TypeDesc} {cs vs : List Value} {o : Nat} {z : Option Value} {sz by_ : Nat} {w : World} (hu : P.underlying T = some dd) (hd : agg? dd = true) (ht : ti P T = some (z, sz, by_)) (hv : (cs.drop o).take sz = vs) : (part T cs.toArray o).run P w = .ok (.agg vs.toArray) w := by
  unfold part
  rw [Sem.run_bind, run_isAgg hu, hd]
  simp only [Result.andThen_ok, if_true, Sem.run_bind, run_sizeOf ht, Sem.run_pure]
  subst hv
  have : cs.toArray.extract o (o + sz) = ((cs.drop o).take sz).toArray := by
    apply Array.ext'
    simp [List.extract_eq_take_drop]
  rw [this]
/-- Two structs or arrays are held against each other. -/
structure EqT (P : Program) (T : TypeId) (xs ys : Array Value) (r : Bool) : Prop where
  guard : P.eqGuardType P.depth T = false
  run : ∀ d w, (Op.equalIn (d + 9) T (.agg xs) (.agg ys)).run P w = .ok r w
theorem eqT_id {P : Program} {T E : TypeId} {z : Option Value} {by_ : Nat} (hu : P.underlying T = some (.array 2 E)) (he : P.underlying E = some (.int .i64)) (ht : ti P E = some (z, 1, by_)) (hg : P.eqGuardType P.depth T = false) (a b c d : Int) :
    EqT P T [.int .i64 a, .int .i64 b].toArray [.int .i64 c, .int .i64 d].toArray (a == c && b == d) := ⟨hg, fun k w => by
  have h1 : ∀ (cs : List Value) (o : Nat) (v : Value) w, cs[o]? = some v → (part E cs.toArray o).run P w = .ok v w := fun cs o v w h => run_part1 he rfl h
  have h2 : ∀ (x y : Int) w, (Op.equalIn (k + 8) E (.int .i64 x) (.int .i64 y)).run P w = .ok (x == y) w := fun x y w => run_equalIn_int w (k + 7) E .i64 .i64 x y he
  rw [Op.equalIn]
  simp only [Sem.run_bind, run_underlying hu, Result.andThen_ok, run_sizeOf ht, Nat.mul_one]
  simp only [Std.Legacy.Range.forIn_eq_forIn_range', Std.Legacy.Range.size, Nat.sub_zero, Nat.add_sub_cancel, Nat.div_one, List.range'_succ, List.range'_zero, List.forIn_cons, List.forIn_nil, Sem.run_bind, h1 [.int .i64 a, .int .i64 b] 0 _ _ rfl, h1 [.int .i64 c, .int .i64 d] 0 _ _ rfl, Result.andThen_ok, h2, Nat.zero_add, h1 [.int .i64 a, .int .i64 b] 1 _ _ rfl, h1 [.int .i64 c, .int .i64 d] 1 _ _ rfl]
  cases h3 : (a == c) <;> cases h4 : (b == d) <;> simp [h1 [.int .i64 a, .int .i64 b] 1 _ _ rfl, h1 [.int .i64 c, .int .i64 d] 1 _ _ rfl, h2, h4]⟩
section
variable {P : Program} {l : Fr} {Ps : List Part} {As : List Fact} {d : Option Tmp} {ty : TypeId} {pos : String} {aft : Array Edge} {g : Option (Nat × Bool)} {t t2 : TypeId} {x y : Operand}
theorem q_aggeql {xs ys : Array Value} {r : Bool} (hx : evs l x = some (.agg xs)) (hy : evs l y = some (.agg ys)) (he : EqT P t xs ys r) : QR P l Ps As ⟨d, .binOp .eql t x y t2, ty, pos, aft, g⟩ (.bool r) := fun Z w ρ hs hρ => by
  simp only [execOp, hρ _ _ hx, hρ _ _ hy, Sem.run_bind, run_eqGuard_agg w .eql t x y xs ys he.guard, Result.andThen_ok, run_eql_struct, he.run 9991 w]; rfl
theorem q_aggneq {xs ys : Array Value} {r : Bool} (hx : evs l x = some (.agg xs)) (hy : evs l y = some (.agg ys)) (he : EqT P t xs ys r) : QR P l Ps As ⟨d, .binOp .neq t x y t2, ty, pos, aft, g⟩ (.bool (!r)) := fun Z w ρ hs hρ => by
  simp only [execOp, hρ _ _ hx, hρ _ _ hy, Sem.run_bind, run_eqGuard_agg w .neq t x y xs ys he.guard, Result.andThen_ok, run_neq_struct, he.run 9991 w]; rfl
theorem q_seql {a b : ByteArray} (hx : evs l x = some (.string a)) (hy : evs l y = some (.string b)) : QR P l Ps As ⟨d, .binOp .eql t x y t2, ty, pos, aft, g⟩ (.bool (a == b)) := fun Z w ρ hs hρ => by
  rw [beq_toListBytes]
  simp [execOp, hρ _ _ hx, hρ _ _ hy, go_sem, binOp, Op.stringOp]
theorem q_sneq {a b : ByteArray} (hx : evs l x = some (.string a)) (hy : evs l y = some (.string b)) : QR P l Ps As ⟨d, .binOp .neq t x y t2, ty, pos, aft, g⟩ (.bool (!(a == b))) := fun Z w ρ hs hρ => by
  rw [beq_toListBytes]
  simp [execOp, hρ _ _ hx, hρ _ _ hy, go_sem, binOp, Op.stringOp]
theorem q_beql' {a b : Bool} (hu : P.underlying t = some .bool) (hx : evs l x = some (.bool a)) (hy : evs l y = some (.bool b)) : QR P l Ps As ⟨d, .binOp .eql t x y t2, ty, pos, aft, g⟩ (.bool (a == b)) := fun Z w ρ hs hρ => by
  have h := run_equalIn_bool' (P := P) w 9999 t a b hu
  simp [execOp, hρ _ _ hx, hρ _ _ hy, go_sem, binOp, Op.equal, Op.maxDepth, h]
theorem q_bneq' {a b : Bool} (hu : P.underlying t = some .bool) (hx : evs l x = some (.bool a)) (hy : evs l y = some (.bool b)) : QR P l Ps As ⟨d, .binOp .neq t x y t2, ty, pos, aft, g⟩ (.bool (!(a == b))) := fun Z w ρ hs hρ => by
  have h := run_equalIn_bool' (P := P) w 9999 t a b hu
  simp [execOp, hρ _ _ hx, hρ _ _ hy, go_sem, binOp, Op.equal, Op.maxDepth, h]
/-- A pointer held against nil. -/
theorem run_eqp {e : TypeId} {a b : Option Addr} (hu : P.underlying t = some (.pointer e)) (hn : a.isNone = true ∨ b.isNone = true) (k : Nat) (w : World) : (Op.equalIn (k + 1) t (.pointer a) (.pointer b)).run P w = .ok (a.isNone && b.isNone) w := by
  rw [Op.equalIn, Sem.run_bind, run_underlying hu, Result.andThen_ok]
  rcases a with _ | a <;> rcases b with _ | b <;> first | rfl | simp at hn
theorem q_peql {e : TypeId} {a b : Option Addr} (hu : P.underlying t = some (.pointer e)) (hx : evs l x = some (.pointer a)) (hy : evs l y = some (.pointer b)) (hn : a.isNone = true ∨ b.isNone = true) : QR P l Ps As ⟨d, .binOp .eql t x y t2, ty, pos, aft, g⟩ (.bool (a.isNone && b.isNone)) := fun Z w ρ hs hρ => by
  have h0 : binOp .eql t (.pointer a) (.pointer b) = (do pure (.bool (← Op.equalIn (9999 + 1) t (.pointer a) (.pointer b)))) := rfl
  simp only [execOp, hρ _ _ hx, hρ _ _ hy, eqGuard_at_pointer, h0, Sem.run_bind, run_eqp hu hn, Result.andThen_ok, Sem.run_pure]
theorem q_pneq {e : TypeId} {a b : Option Addr} (hu : P.underlying t = some (.pointer e)) (hx : evs l x = some (.pointer a)) (hy : evs l y = some (.pointer b)) (hn : a.isNone = true ∨ b.isNone = true) : QR P l Ps As ⟨d, .binOp .neq t x y t2, ty, pos, aft, g⟩ (.bool (!(a.isNone && b.isNone))) := fun Z w ρ hs hρ => by
  have h0 : binOp .neq t (.pointer a) (.pointer b) = (do pure (.bool (!(← Op.equalIn (9999 + 1) t (.pointer a) (.pointer b))))) := rfl
  simp only [execOp, hρ _ _ hx, hρ _ _ hy, eqGuard_at_pointer, h0, Sem.run_bind, run_eqp hu hn, Result.andThen_ok, Sem.run_pure]
/-- A literal: its run is a closed fact of the program's types. -/
inductive EvP (l : Fr) : List (Nat × Operand) → List (Nat × Value) → Prop
  | nil : EvP l [] []
  | cons {i : Nat} {x : Operand} {v : Value} {xs : List (Nat × Operand)} {vs : List (Nat × Value)} (h : evs l x = some v) (hr : EvP l xs vs) : EvP l ((i, x) :: xs) ((i, v) :: vs)
theorem EvP.map {l : Fr} {xs : List (Nat × Operand)} {vs : List (Nat × Value)} (h : EvP l xs vs) {ρ : Operand → Value} (hρ : ∀ x v, evs l x = some v → ρ x = v) : xs.map (fun (i, x) => (i, ρ x)) = vs := by
  induction h with
  | nil => rfl
  | cons h hr ih => simp [hρ _ _ h, ih]
theorem q_build {T : TypeId} {xs : List (Nat × Operand)} {vs : List (Nat × Value)} {v : Value} (hx : EvP l xs vs) (hb : ∀ w, (Instr.build T vs.toArray).run P w = .ok v w) : QR P l Ps As ⟨d, .build T xs.toArray, ty, pos, aft, g⟩ v := fun Z w ρ hs hρ => by
  have h := hx.map hρ
  simp only [execOp, List.map_toArray, h, Sem.run_bind, hb, Result.andThen_ok, Sem.run_pure]
theorem q_part {T : TypeId} {x : Operand} {f : Nat} {u v : Value} (hx : evs l x = some u) (hb : ∀ w, (Instr.field T u f).run P w = .ok v w) : QR P l Ps As ⟨d, .field T x f, ty, pos, aft, g⟩ v := fun Z w ρ hs hρ => by
  simp only [execOp, hρ _ _ hx, Sem.run_bind, hb, Result.andThen_ok, Sem.run_pure]
theorem q_conv {src dst : TypeId} {x : Operand} {u v : Value} (hx : evs l x = some u) (hb : ∀ w, (convert src dst u).run P w = .ok v w) : QR P l Ps As ⟨d, .convert src dst x, ty, pos, aft, g⟩ v := fun Z w ρ hs hρ => by
  simp only [execOp, hρ _ _ hx, Sem.run_bind, hb, Result.andThen_ok, Sem.run_pure]
/-- Division. -/
theorem q_rem {k : IntKind} {a b c : Int} (hx : evs l x = some (.int k a)) (hy : evs l y = some (.int k b)) (hb : b ≠ 0) (hc : a.tmod b = c) : QR P l Ps As ⟨d, .binOp .rem t x y t2, ty, pos, aft, g⟩ (.int k c) := fun Z w ρ hs hρ => by
  subst hc
  simp [execOp, hρ _ _ hx, hρ _ _ hy, go_sem, Op.intDiv, hb]
theorem q_quo {k : IntKind} {a b c : Int} (hx : evs l x = some (.int k a)) (hy : evs l y = some (.int k b)) (hb : b ≠ 0) (hc : k.wrap (a.tdiv b) = c) : QR P l Ps As ⟨d, .binOp .quo t x y t2, ty, pos, aft, g⟩ (.int k c) := fun Z w ρ hs hρ => by
  subst hc
  simp [execOp, hρ _ _ hx, hρ _ _ hy, go_sem, Op.intDiv, hb]
/-- Texts laid together. -/
theorem q_cat {a b : ByteArray} (hx : evs l x = some (.string a)) (hy : evs l y = some (.string b)) (hl : a.size + b.size ≤ 9223372036854775807) : QR P l Ps As ⟨d, .binOp .add t x y t2, ty, pos, aft, g⟩ (.string (a ++ b)) := fun Z w ρ hs hρ => by
  have h0 : eqGuard .add t x y (.string a) (.string b) = pure () := rfl
  have h1 : binOp .add t (.string a) (.string b) = Op.stringOp .add a b := rfl
  simp only [execOp, hρ _ _ hx, hρ _ _ hy, h0, h1, Sem.run_bind, Sem.run_pure, Result.andThen_ok, Op.stringOp]
  rw [if_neg (by simp; omega)]
  rfl
end
end Go.GW
