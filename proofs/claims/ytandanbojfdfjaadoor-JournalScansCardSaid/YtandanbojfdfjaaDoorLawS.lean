import Derived.Test.YtandanbojfdfjaaDoorLawJ
import Derived.Test.YtandanbojfdfjaaDoorOps1
import Derived.SliceStrings
import Derived.Carry
import Derived.WalkKit
import Derived.ProofKit
import Derived.OpenShut
import Derived.ShutString
import Derived.ChangeOld
namespace Go.Proofs.YtandanbojfdfjaaDoor
open Go.ChangeShapes Go.WideShapes Go.ChangeAt Go.RowKit

/-- an argument that is a slice of strings, opened -/
theorem strs_open {H : Type} {enc : TypeId × Value → H} {W : World} {d : DataW H} {ps : List MemPlace} {a : Option Addr} {len cap : Nat} (h : DataW.Trod enc Tryd.prog W 0 (fun _ => true) true 22 (.slice a len cap) d ps) :
    ∃ xs : List Bs, Rd W W.heap.size a (scs xs) ∧ xs.length = len ∧ len ≤ cap ∧ cap ≤ maxLen ∧ ∀ x ∈ xs, x.length ≤ maxLen := by
  obtain ⟨fuel, hf⟩ := h
  rcases open_strings Tryd.underlying22 Tryd.underlying9 (by kernel_rfl) hf with ⟨hcs, _⟩ | ⟨x, l, c, ss, hcs, _, hl, hm, hz, _, hcell, hsz⟩
  · simp [Value.cells] at hcs
    obtain ⟨rfl, rfl, rfl⟩ := hcs
    exact ⟨[], Rd.nil, rfl, Nat.le_refl _, Nat.zero_le _, by simp⟩
  · simp [Value.cells] at hcs
    obtain ⟨rfl, rfl, rfl⟩ := hcs
    simp only [if_true] at hz
    refine ⟨(ss.take len).map (·.data.toList), fun h0 => ?_, by simp; omega, hl, hm, ?_⟩
    · have hlen : 0 < ss.length := by
        rcases ss with _ | ⟨s, ss⟩
        · simp at h0
        · simp
      obtain ⟨b, off, spot⟩ := x
      have h1 := hcell 0 hlen
      have hspot : spot = none := by simpa [Addr.add] using World.cell?_spot h1
      subst hspot
      rw [add_lit'] at h1
      refine ⟨b, off, rfl, cell_lt h1, fun j u hu => ?_⟩
      have hj : j < len ∧ j < ss.length := by
        have := (List.getElem?_eq_some_iff.1 hu).1
        simp at this; omega
      have h2 := hcell j hj.2
      rw [add_lit'] at h2
      rw [h2, ← hu]
      simp [hj.1, hj.2]
    · intro y hy
      obtain ⟨s, hs, rfl⟩ := List.mem_map.1 hy
      have := hsz s (List.mem_of_mem_take hs)
      simpa using this
end Go.Proofs.YtandanbojfdfjaaDoor
