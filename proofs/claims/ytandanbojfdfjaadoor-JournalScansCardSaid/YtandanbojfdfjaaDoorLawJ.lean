import Derived.Test.YtandanbojfdfjaaDoorLine
import Derived.Test.YtandanbojfdfjaaDoorRows
import Derived.LaidLaws
import Derived.LaidHandle
import Derived.Lib.LaidTab
namespace Go.Proofs.YtandanbojfdfjaaDoor
open Go.ChangeShapes Go.WideShapes Go.RowKit

/-! What every law of the journal begins with: the listed variables -/

theorem own : ownKnob Tryd.prog.godebug = none := by kernel_rfl
theorem laidOut : laidOutB Tryd.prog = true := by kernel_rfl
theorem gpow : Tryd.prog.globalNamed "internal/strconv.uint64pow10" = some 1 := by kernel_rfl
theorem gpowType : (Tryd.prog.globals[1]?).map (·.type) = some 132 := by kernel_rfl

/-- the rows' list -/
def laidL : List (String × DataW Unit) := [("math/bits.deBruijn32tab", Rows.laid_math_bits_deBruijn32tab), ("math/bits.deBruijn64tab", Rows.laid_math_bits_deBruijn64tab), ("internal/strconv.uint64pow10", Rows.laid_internal_strconv_uint64pow10)]
theorem pow_data : (Rows.laid_internal_strconv_uint64pow10 : DataW Unit) = Lib.tabData .u64 Lib.pow10Tab := by kernel_rfl

theorem tb_of_laid {W : World} (h : laidMet Tryd.prog laidL W) : Tb W := by
  obtain ⟨ps, ⟨_, _, _, _, _, _, _, _, _, _, ⟨_, _, _, _, _, _, _, _, _, _, ⟨g', t', cs, fuel, p, q, hg', ht', hvar, hd, _, _⟩, _⟩, _⟩, _⟩ := h
  obtain rfl := Option.some.inj (gpow.symm.trans hg')
  obtain rfl := Option.some.inj (gpowType.symm.trans ht')
  rw [pow_data] at hd
  unfold Tb Lib.TabIs
  rw [hvar, ← Lib.cells_of_tab (n := 20) (e := 114) (by kernel_rfl) (by kernel_rfl) (by kernel_rfl) (by kernel_rfl) hd]

/-- a world that meets the condition -/
def cellsOfData : DataW Unit → Array Value
  | .agg l => (l.map fun | .lit (.int k n) => Value.int k n | _ => .bool false).toArray
  | _ => #[]
def laying (w : World) (g : Nat) (cs : Array Value) : World := { w with heap := w.heap.modify g fun | .cells _ t frozen => .cells cs t frozen | o => o }
noncomputable def laidWorld (os : Os) : World :=
  laying (laying (laying (World.holding Tryd.prog os ⟨#[], #[], []⟩) 2 (cellsOfData Rows.laid_math_bits_deBruijn32tab)) 3 (cellsOfData Rows.laid_math_bits_deBruijn64tab)) 1 (cellsOfData Rows.laid_internal_strconv_uint64pow10)
theorem laidWorld_met (os : Os) (args : Array Value) : laidMet Tryd.prog laidL ((laidWorld os).forCall (fun _ _ => 0) ⟨#[], args, []⟩).memory :=
  laidMet_of_run' 8 (by kernel_rfl) (by kernel_rfl)
end Go.Proofs.YtandanbojfdfjaaDoor
