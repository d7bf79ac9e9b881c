/- Ranges are held against each other. -/
import Derived.Test.YtggdddkbhigjoaaDoorGo
set_option linter.unusedVariables false
set_option linter.unusedSimpArgs false
namespace Go.Proofs.YtggdddkbhigjoaaDoor
open Go Go.GW
theorem eq37 (a b c d : Int) : EqT Tryd.prog 37 #[.int .i64 a, .int .i64 b] #[.int .i64 c, .int .i64 d] (a == c && b == d) := ⟨by kernel_rfl, fun k w => by
  have h1 : ∀ (cs : List Value) (o : Nat) (v : Value) w, cs[o]? = some v → (part 3 cs.toArray o).run Tryd.prog w = .ok v w := fun cs o v w h => run_part1 Tryd.underlying3 rfl h
  have h2 : ∀ (x y : Int) w, (Op.equalIn (k + 8) 3 (.int .i64 x) (.int .i64 y)).run Tryd.prog w = .ok (x == y) w := fun x y w => run_equalIn_int w (k + 7) 3 .i64 .i64 x y Tryd.underlying3
  have hf : ∃ f1 f2 : Field, (Tryd.prog.fieldsOf 37).toList = [f1, f2] ∧ (f1.name ≠ "_" ∧ f1.type = 3 ∧ f1.offset = 0) ∧ (f2.name ≠ "_" ∧ f2.type = 3 ∧ f2.offset = 1) := ⟨⟨ "Lo", 3, 0, false, "", "", 0⟩, ⟨ "Hi", 3, 1, false, "", "", 8⟩, by kernel_rfl, ⟨by decide, rfl, rfl⟩, ⟨by decide, rfl, rfl⟩⟩
  obtain ⟨f1, f2, e, ⟨n1, t1, o1⟩, ⟨n2, t2, o2⟩⟩ := hf
  rw [show k + 9 = (k + 8) + 1 from rfl, run_equalIn_struct w (k + 8) 37 _ _ (by kernel_rfl) (by kernel_rfl), e]
  simp only [Op.eqFields, n1, n2, t1, t2, o1, o2, ne_eq, not_false_eq_true, if_true, Sem.run_bind, h1 [.int .i64 a, .int .i64 b] 0 _ _ rfl, h1 [.int .i64 c, .int .i64 d] 0 _ _ rfl, h1 [.int .i64 a, .int .i64 b] 1 _ _ rfl, h1 [.int .i64 c, .int .i64 d] 1 _ _ rfl, Result.andThen_ok, h2]
  cases h3 : (a == c) <;> cases h4 : (b == d) <;> simp [h1 [.int .i64 a, .int .i64 b] 1 _ _ rfl, h1 [.int .i64 c, .int .i64 d] 1 _ _ rfl, h2, h4, Op.eqFields]⟩
end Go.Proofs.YtggdddkbhigjoaaDoor
