import Derived.Test.YtandanbojfdfjaaDoorLine
import Derived.Test.YtandanbojfdfjaaDoorRows
import Derived.LaidLaws
import Derived.LaidHandle
import Derived.Lib.LaidTab
import Derived.Test.YtandanbojfdfjaaDoorOps1
import Derived.SliceStrings
import Derived.Carry
import Derived.WalkKit
import Derived.ProofKit
import Derived.OpenShut
import Derived.ShutString
import Derived.ChangeOld
namespace Go.Proofs.YtandanbojfdfjaaDoor
open Go.ChangeShapes Go.WideShapes Go.RowKit

/-! What every law of the journal begins with: the listed variables -/

theorem own : ownKnob Tryd.prog.godebug = none := by kernel_rfl
theorem laidOut : laidOutB Tryd.prog = true := by kernel_rfl
theorem gpow : Tryd.prog.globalNamed "internal/strconv.uint64pow10" = some 1 := by kernel_rfl
theorem gpowType : (Tryd.prog.globals[1]?).map (·.type) = some 132 := by kernel_rfl

/-- the rows' list -/
def laidL : List (String × DataW Unit) := [("math/bits.deBruijn32tab", Rows.laid_math_bits_deBruijn32tab), ("math/bits.deBruijn64tab", Rows.laid_math_bits_deBruijn64tab), ("internal/strconv.uint64pow10", Rows.laid_internal_strconv_uint64pow10)]
theorem pow_data : (Rows.laid_internal_strconv_uint64pow10 : DataW Unit) = Lib.tabData .u64 Lib.pow10Tab := by kernel_rfl

theorem tb_of_laid {W : World} (h : laidMet Tryd.prog laidL W) : Tb W := by
  obtain ⟨ps, ⟨_, _, _, _, _, _, _, _, _, _, ⟨_, _, _, _, _, _, _, _, _, _, ⟨g', t', cs, fuel, p, q, hg', ht', hvar, hd, _, _⟩, _⟩, _⟩, _⟩ := h
  obtain rfl := Option.some.inj (gpow.symm.trans hg')
  obtain rfl := Option.some.inj (gpowType.symm.trans ht')
  rw [pow_data] at hd
  unfold Tb Lib.TabIs
  rw [hvar, ← Lib.cells_of_tab (n := 20) (e := 114) (by kernel_rfl) (by kernel_rfl) (by kernel_rfl) (by kernel_rfl) hd]

/-- a world that meets the condition -/
def cellsOfData : DataW Unit → Array Value
  | .agg l => (l.map fun | .lit (.int k n) => Value.int k n | _ => .bool false).toArray
  | _ => #[]
def laying (w : World) (g : Nat) (cs : Array Value) : World := { w with heap := w.heap.modify g fun | .cells _ t frozen => .cells cs t frozen | o => o }
noncomputable def laidWorld (os : Os) : World :=
  laying (laying (laying (World.holding Tryd.prog os ⟨#[], #[], []⟩) 2 (cellsOfData Rows.laid_math_bits_deBruijn32tab)) 3 (cellsOfData Rows.laid_math_bits_deBruijn64tab)) 1 (cellsOfData Rows.laid_internal_strconv_uint64pow10)
theorem laidWorld_met (os : Os) (args : Array Value) : laidMet Tryd.prog laidL ((laidWorld os).forCall (fun _ _ => 0) ⟨#[], args, []⟩).memory :=
  laidMet_of_run' 8 (by kernel_rfl) (by kernel_rfl)
end Go.Proofs.YtandanbojfdfjaaDoor

namespace Go.Proofs.YtandanbojfdfjaaDoor
open Go.ChangeShapes Go.WideShapes Go.ChangeAt Go.RowKit

/-- an argument that is a slice of strings, opened -/
theorem strs_open {H : Type} {enc : TypeId × Value → H} {W : World} {d : DataW H} {ps : List MemPlace} {a : Option Addr} {len cap : Nat} (h : DataW.Trod enc Tryd.prog W 0 (fun _ => true) true 22 (.slice a len cap) d ps) :
    ∃ xs : List Bs, Rd W W.heap.size a (scs xs) ∧ xs.length = len ∧ len ≤ cap ∧ cap ≤ maxLen ∧ ∀ x ∈ xs, x.length ≤ maxLen := by
  obtain ⟨fuel, hf⟩ := h
  rcases open_strings Tryd.underlying22 Tryd.underlying9 (by kernel_rfl) hf with ⟨hcs, _⟩ | ⟨x, l, c, ss, hcs, _, hl, hm, hz, _, hcell, hsz⟩
  · simp [Value.cells] at hcs
    obtain ⟨rfl, rfl, rfl⟩ := hcs
    exact ⟨[], Rd.nil, rfl, Nat.le_refl _, Nat.zero_le _, by simp⟩
  · simp [Value.cells] at hcs
    obtain ⟨rfl, rfl, rfl⟩ := hcs
    simp only [if_true] at hz
    refine ⟨(ss.take len).map (·.data.toList), fun h0 => ?_, by simp; omega, hl, hm, ?_⟩
    · have hlen : 0 < ss.length := by
        rcases ss with _ | ⟨s, ss⟩
        · simp at h0
        · simp
      obtain ⟨b, off, spot⟩ := x
      have h1 := hcell 0 hlen
      have hspot : spot = none := by simpa [Addr.add] using World.cell?_spot h1
      subst hspot
      rw [add_lit'] at h1
      refine ⟨b, off, rfl, cell_lt h1, fun j u hu => ?_⟩
      have hj : j < len ∧ j < ss.length := by
        have := (List.getElem?_eq_some_iff.1 hu).1
        simp at this; omega
      have h2 := hcell j hj.2
      rw [add_lit'] at h2
      rw [h2, ← hu]
      simp [hj.1, hj.2]
    · intro y hy
      obtain ⟨s, hs, rfl⟩ := List.mem_map.1 hy
      have := hsz s (List.mem_of_mem_take hs)
      simpa using this
end Go.Proofs.YtandanbojfdfjaaDoor

namespace Go.Proofs.YtandanbojfdfjaaDoor
open Go.ChangeShapes Go.WideShapes Go.ChangeAt Go.RowKit

/-- an argument that is a slice of bytes, opened -/
theorem bytes_open {H : Type} {enc : TypeId × Value → H} {W : World} {d : DataW H} {ps : List MemPlace} {a : Option Addr} {len cap : Nat} (h : DataW.Trod enc Tryd.prog W 0 (fun _ => true) true 26 (.slice a len cap) d ps) :
    ∃ b : Bs, Rd W W.heap.size a (bcs b) ∧ b.length = len ∧ len ≤ cap ∧ cap ≤ maxLen := by
  obtain ⟨fuel, hf⟩ := h
  rcases open_ints (P := Tryd.prog) (e := 5) (k := .u8) (by kernel_rfl) (by kernel_rfl) (by kernel_rfl) hf with ⟨hcs, _⟩ | ⟨x, l, c, zs, hcs, _, hl, hm, hz, _, hcell, hwf⟩
  · simp [Value.cells] at hcs
    obtain ⟨rfl, rfl, rfl⟩ := hcs
    exact ⟨[], Rd.nil, rfl, Nat.le_refl _, Nat.zero_le _⟩
  · simp [Value.cells] at hcs
    obtain ⟨rfl, rfl, rfl⟩ := hcs
    simp only [if_true] at hz
    refine ⟨(zs.take len).map (fun z => UInt8.ofNat z.toNat), fun h0 => ?_, by simp; omega, hl, hm⟩
    have hlen : 0 < zs.length := by
      rcases zs with _ | ⟨s, ss⟩
      · simp at h0
      · simp
    obtain ⟨b, off, spot⟩ := x
    have h1 := hcell 0 hlen
    have hspot : spot = none := by simpa [Addr.add] using World.cell?_spot h1
    subst hspot
    rw [add_lit'] at h1
    refine ⟨b, off, rfl, cell_lt h1, fun j u hu => ?_⟩
    have hj : j < len ∧ j < zs.length := by
      have := (List.getElem?_eq_some_iff.1 hu).1
      simp at this; omega
    have h2 := hcell j hj.2
    rw [add_lit'] at h2
    rw [h2, ← hu]
    have hw := bounds_u8 (hwf _ (List.getElem_mem hj.2))
    have hlt : zs[j].toNat < 256 := by omega
    have e : ((UInt8.ofNat (zs[j].toNat)).toNat : Int) = zs[j] := by
      have : (UInt8.ofNat (zs[j].toNat)).toNat = zs[j].toNat % 256 := UInt8.toNat_ofNat'
      rw [this, Nat.mod_eq_of_lt hlt]
      omega
    simp [hj.1, hj.2]
    simpa using e.symm
end Go.Proofs.YtandanbojfdfjaaDoor
