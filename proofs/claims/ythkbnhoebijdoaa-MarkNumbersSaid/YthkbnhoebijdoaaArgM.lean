/-
  A master as an argument: its four numbers.
-/
import Derived.Test.YthkbnhoebijdoaaOpen
import Derived.Lib.SmallJoins
namespace Go.Proofs.Ythkbnhoebijdoaa
open Go Go.RowKit Go.SM Go.ChangeShapes Go.WideShapes Go.Deep

section
variable {H : Type} {enc : TypeId × Value → H} {w : World} {base : Nat} {spare : Nat → Bool} {held : Bool}
theorem trod_int64 {n : Nat} {u : Value} {y : DataW H × List MemPlace} (h : DataW.trod enc Try.prog w base spare held n 2 [u] = some y) : ∃ k, u = .int .i64 k ∧ I64 k := by
  obtain ⟨k, hk, _, hw⟩ := DataW.trod_int Try.underlying2 h
  simp only [List.cons.injEq, and_true] at hk
  exact ⟨k, hk, I64.of_wf hw⟩
end

end Go.Proofs.Ythkbnhoebijdoaa
