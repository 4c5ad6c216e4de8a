import Derived.Test.YtandanbojfdfjaaDoorLawS
namespace Go.Proofs.YtandanbojfdfjaaDoor
open Go.ChangeShapes Go.WideShapes Go.ChangeAt Go.RowKit

/-- an argument that is a slice of bytes, opened -/
theorem bytes_open {H : Type} {enc : TypeId × Value → H} {W : World} {d : DataW H} {ps : List MemPlace} {a : Option Addr} {len cap : Nat} (h : DataW.Trod enc Tryd.prog W 0 (fun _ => true) true 26 (.slice a len cap) d ps) :
    ∃ b : Bs, Rd W W.heap.size a (bcs b) ∧ b.length = len ∧ len ≤ cap ∧ cap ≤ maxLen := by
  obtain ⟨fuel, hf⟩ := h
  rcases open_ints (P := Tryd.prog) (e := 5) (k := .u8) (by kernel_rfl) (by kernel_rfl) (by kernel_rfl) hf with ⟨hcs, _⟩ | ⟨x, l, c, zs, hcs, _, hl, hm, hz, _, hcell, hwf⟩
  · simp [Value.cells] at hcs
    obtain ⟨rfl, rfl, rfl⟩ := hcs
    exact ⟨[], Rd.nil, rfl, Nat.le_refl _, Nat.zero_le _⟩
  · simp [Value.cells] at hcs
    obtain ⟨rfl, rfl, rfl⟩ := hcs
    simp only [if_true] at hz
    refine ⟨(zs.take len).map (fun z => UInt8.ofNat z.toNat), fun h0 => ?_, by simp; omega, hl, hm⟩
    have hlen : 0 < zs.length := by
      rcases zs with _ | ⟨s, ss⟩
      · simp at h0
      · simp
    obtain ⟨b, off, spot⟩ := x
    have h1 := hcell 0 hlen
    have hspot : spot = none := by simpa [Addr.add] using World.cell?_spot h1
    subst hspot
    rw [add_lit'] at h1
    refine ⟨b, off, rfl, cell_lt h1, fun j u hu => ?_⟩
    have hj : j < len ∧ j < zs.length := by
      have := (List.getElem?_eq_some_iff.1 hu).1
      simp at this; omega
    have h2 := hcell j hj.2
    rw [add_lit'] at h2
    rw [h2, ← hu]
    have hw := bounds_u8 (hwf _ (List.getElem_mem hj.2))
    have hlt : zs[j].toNat < 256 := by omega
    have e : ((UInt8.ofNat (zs[j].toNat)).toNat : Int) = zs[j] := by
      have : (UInt8.ofNat (zs[j].toNat)).toNat = zs[j].toNat % 256 := UInt8.toNat_ofNat'
      rw [this, Nat.mod_eq_of_lt hlt]
      omega
    simp [hj.1, hj.2]
    simpa using e.symm
end Go.Proofs.YtandanbojfdfjaaDoor
