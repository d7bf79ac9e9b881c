/- The program's data as Lean's: ranges, operations; how they lie in memory. -/
import Derived.Test.YtggdddkbhigjoaaDoorGwF
import Derived.Test.YtggdddkbhigjoaaDoorTy
set_option linter.unusedVariables false
namespace Go.Proofs.YtggdddkbhigjoaaDoor
open Go Go.GW
theorem mixed : Tryd.prog.follows .mixedOrders = true := by kernel_rfl
@[ext] structure Rg where
  lo : Int
  hi : Int
deriving DecidableEq, Repr
@[ext] structure GOp where
  c : Int
  n : Int
  kind : Int
  at_ : Int
  text : ByteArray
  rs : List Rg
  tc : Int
  tn : Int
  on : Bool
def rgC (x : Rg) : List Value := [.int .i64 x.lo, .int .i64 x.hi]
def rgD : De Rg where
  sz := 2
  rep _ _ x cs := cs = rgC x
  len h := by subst h; rfl
  one h := by subst h; rfl
  stable _ _ _ _ _ h := h
def opC (o : GOp) (A : Option Addr) (c : Nat) : List Value :=
  [.int .i64 o.c, .int .i64 o.n, .int .i64 o.kind, .int .i64 o.at_, .string o.text, .slice A o.rs.length c, .int .i64 o.tc, .int .i64 o.tn, .bool o.on]
def opV (o : GOp) (A : Option Addr) (c : Nat) : Value := .agg (opC o A c).toArray
def opD : De GOp where
  sz := 9
  rep Z w o cs := ∃ A c, cs = opC o A c ∧ RdS rgD Z w A c o.rs
  len h := by obtain ⟨A, c, rfl, _⟩ := h; rfl
  one h := by obtain ⟨A, c, rfl, _⟩ := h; rfl
  stable hz hh h1 h2 h3 h := by
    obtain ⟨A, c, g1, g2⟩ := h
    exact ⟨A, c, g1, (RdF rgD A c _).stable hz hh h1 h2 h3 g2⟩
theorem rg_open (u : Rg) : ∀ Z w cs, rgD.rep Z w u cs → ∃ y : Unit, cs = rgC u ∧ ∀ B ∈ ([] : List Fact), B.holds Z w := fun _ _ _ h => ⟨(), h, fun _ h => by cases h⟩
theorem op_open (u : GOp) : ∀ Z w cs, opD.rep Z w u cs → ∃ y : Option Addr × Nat, cs = opC u y.1 y.2 ∧ ∀ B ∈ [RdF rgD y.1 y.2 u.rs], B.holds Z w := fun _ _ _ h => by
  obtain ⟨A, c, h1, h2⟩ := h
  exact ⟨(A, c), h1, fun B hB => by simp only [List.mem_singleton] at hB; subst hB; exact h2⟩
theorem eq25 (a b c d : Int) : EqT Tryd.prog 25 #[.int .i64 a, .int .i64 b] #[.int .i64 c, .int .i64 d] (a == c && b == d) := eqT_id Tryd.underlying25 Tryd.underlying3 ti3 (by kernel_rfl) a b c d
theorem eq24 (a b c d : Int) : EqT Tryd.prog 24 #[.int .i64 a, .int .i64 b] #[.int .i64 c, .int .i64 d] (a == c && b == d) := eqT_id Tryd.underlying24 Tryd.underlying3 ti3 (by kernel_rfl) a b c d
/-- What a function that makes nothing answers. -/
def Is (u : Value) : Value → List Part → List Fact → Prop := fun v Lo fs => v = u ∧ Lo = [] ∧ fs = []
end Go.Proofs.YtggdddkbhigjoaaDoor
