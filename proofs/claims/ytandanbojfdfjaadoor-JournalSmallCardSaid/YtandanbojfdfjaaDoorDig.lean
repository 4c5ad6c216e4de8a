import Derived.Test.YtandanbojfdfjaaDoorSpec
import Derived.Test.YtandanbojfdfjaaDoorShelf
namespace Go.Proofs.YtandanbojfdfjaaDoor
open Go.RowKit

/-- digits of a number below 10000 -/
def chk4 (n : Nat) : Bool := decide (1 ≤ (Lib.itoa n).length) && decide ((Lib.itoa n).length ≤ 4) && (Lib.repeatL [48] (4 - (Lib.itoa n).length) ++ Lib.itoa n == four n)
theorem chk4_all : (List.range 10000).all chk4 = true := by decide +kernel
theorem itoa_four {n : Nat} (h : n < 10000) : 1 ≤ (Lib.itoa n).length ∧ (Lib.itoa n).length ≤ 4 ∧ Lib.repeatL [48] (4 - (Lib.itoa n).length) ++ Lib.itoa n = four n := by
  have := List.all_eq_true.1 chk4_all n (List.mem_range.2 h)
  simp only [chk4, Bool.and_eq_true, decide_eq_true_eq, beq_iff_eq] at this
  exact ⟨this.1.1, this.1.2, this.2⟩

end Go.Proofs.YtandanbojfdfjaaDoor
