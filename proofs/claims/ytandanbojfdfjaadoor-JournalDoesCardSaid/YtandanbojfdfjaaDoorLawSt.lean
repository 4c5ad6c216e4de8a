import Derived.Test.YtandanbojfdfjaaDoorLawJ
import Derived.Test.YtandanbojfdfjaaDoorJDoes
import Derived.Deep.Slices
import Derived.Deep.Fields
namespace Go.Proofs.YtandanbojfdfjaaDoor
open Go.ChangeShapes Go.WideShapes Go.ChangeAt Go.RowKit Go.Deep

noncomputable def stFs : Array Field := (Tryd.prog.underlying 54).elim #[] fun d => match d with | .struct fs => fs | _ => #[]
theorem st_und : Tryd.prog.underlying 54 = some (.struct stFs) := by kernel_rfl
theorem st_size : stFs.size = 3 := by kernel_rfl
theorem st_one : oneCellFields Tryd.prog stFs = true := by kernel_rfl
theorem st_get (i : Nat) (h : i < 3) : stFs[i]? = some (stFs[i]'(by rw [st_size]; exact h)) := Array.getElem?_eq_getElem _
theorem st_t0 : (stFs[0]'(by rw [st_size]; omega)).type = 5 := by kernel_rfl
theorem st_t1 : (stFs[1]'(by rw [st_size]; omega)).type = 9 := by kernel_rfl
theorem st_t2 : (stFs[2]'(by rw [st_size]; omega)).type = 3 := by kernel_rfl

set_option maxRecDepth 100000 in
/-- an argument that is a slice of steps, opened -/
theorem steps_open {H : Type} {enc : TypeId × Value → H} {W : World} {d : DataW H} {ps : List MemPlace} {a : Option Addr} {len cap : Nat} (h : DataW.Trod enc Tryd.prog W 0 (fun _ => true) true 52 (.slice a len cap) d ps) :
    ∃ kd tx nn, Steps0 W a len kd tx nn ∧ len ≤ cap ∧ cap ≤ maxLen := by
  obtain ⟨fuel, hf⟩ := h
  rcases open_slice (P := Tryd.prog) (e := 54) (by kernel_rfl) hf with ⟨hcs, _⟩ | ⟨x, l, c, m, n, D, Pl, hcs, _, hl, hm, hmm, _, hi⟩
  · simp [Value.cells] at hcs
    obtain ⟨rfl, rfl, rfl⟩ := hcs
    exact ⟨fun _ => 0, fun _ => ⟨#[]⟩, fun _ => 0, ⟨fun h => by omega, fun k h => by omega, fun k h => by omega, fun k h => by omega⟩, Nat.le_refl _, Nat.zero_le _⟩
  · simp [Value.cells] at hcs
    obtain ⟨rfl, rfl, rfl⟩ := hcs
    simp only [if_true] at hmm
    rw [hmm] at hi
    clear hmm
    have hC : Tryd.prog.cellsOf 54 = 3 := by kernel_rfl
    rw [hC] at hi
    have hall : ∀ i : Nat, ∃ y : Nat × ByteArray × Int, i < cap → y.1 < 256 ∧ y.2.1.size ≤ maxLen ∧ (-(2^63) ≤ y.2.2 ∧ y.2.2 < 2^63) ∧ W.cell? (x.add (i * 3)) = some (.int .u8 (y.1 : Int)) ∧ W.cell? ((x.add (i * 3)).add 1) = some (.string y.2.1) ∧ W.cell? ((x.add (i * 3)).add 2) = some (.int .i64 y.2.2) := by
      intro i
      by_cases hic : i < cap
      · obtain ⟨cs', hc, ht'⟩ := hi i hic
        obtain ⟨ys, n', hn', hy, hlen, hyl, hfl⟩ := DataW.trod_struct st_und ht'
        obtain ⟨_, hcl, hat⟩ := World.cells?_some hc
        match cs', hcl with
        | [v0, v1, v2], _ =>
          have a0 := hat 0 (by omega)
          have a1 := hat 1 (by omega)
          have a2 := hat 2 (by omega)
          have f0 := hfl 0 _ (st_get 0 (by omega))
          have f1 := hfl 1 _ (st_get 1 (by omega))
          have f2 := hfl 2 _ (st_get 2 (by omega))
          obtain ⟨o0, k0⟩ := hone_of st_one 0 _ (st_get 0 (by omega))
          obtain ⟨o1, k1⟩ := hone_of st_one 1 _ (st_get 1 (by omega))
          obtain ⟨o2, k2⟩ := hone_of st_one 2 _ (st_get 2 (by omega))
          rw [o0, k0, st_t0] at f0
          rw [o1, k1, st_t1] at f1
          rw [o2, k2, st_t2] at f2
          rw [st_size] at hyl
          have g0 : ∃ y, ys[0]? = some y := ⟨_, List.getElem?_eq_getElem (by omega)⟩
          have g1 : ∃ y, ys[1]? = some y := ⟨_, List.getElem?_eq_getElem (by omega)⟩
          have g2 : ∃ y, ys[2]? = some y := ⟨_, List.getElem?_eq_getElem (by omega)⟩
          obtain ⟨y0, g0⟩ := g0
          obtain ⟨y1, g1⟩ := g1
          obtain ⟨y2, g2⟩ := g2
          rw [g0] at f0
          rw [g1] at f1
          rw [g2] at f2
          obtain ⟨z0, e0, _, w0⟩ := DataW.trod_int (P := Tryd.prog) (k := .u8) (by kernel_rfl) f0
          obtain ⟨z1, e1, _, w1⟩ := DataW.trod_string (P := Tryd.prog) (by kernel_rfl) f1
          obtain ⟨z2, e2, _, w2⟩ := DataW.trod_int (P := Tryd.prog) (k := .i64) (by kernel_rfl) f2
          obtain rfl : v0 = .int .u8 z0 := by simpa using e0
          obtain rfl : v1 = .string z1 := by simpa using e1
          obtain rfl : v2 = .int .i64 z2 := by simpa using e2
          have b0 := bounds_u8 w0
          have b2 := bounds_i64 w2
          obtain ⟨n0, rfl⟩ := Int.eq_ofNat_of_zero_le b0.1
          refine ⟨(n0, z1, z2), fun _ => ⟨by show n0 < 256; omega, w1, ⟨by show -(2^63) ≤ z2; omega, by show z2 < 2^63; omega⟩, ?_, ?_, ?_⟩⟩
          · have e : (x.add (i * 3)).add 0 = x.add (i * 3) := by unfold Addr.add; simp
            rw [e] at a0
            exact a0
          · exact a1
          · exact a2
      · exact ⟨(0, ⟨#[]⟩, 0), fun h => absurd h hic⟩
    obtain ⟨f, hf2⟩ := Classical.axiomOfChoice hall
    refine ⟨fun k => (f k).1, fun k => (f k).2.1, fun k => (f k).2.2, ⟨fun h0 => ?_, fun k hk => (hf2 k (by omega)).1, fun k hk => (hf2 k (by omega)).2.1, fun k hk => (hf2 k (by omega)).2.2.1⟩, hl, hm⟩
    obtain ⟨b, off, spot⟩ := x
    have h1 := (hf2 0 (by omega)).2.2.2.1
    have hspot : spot = none := by simpa [Addr.add] using World.cell?_spot h1
    subst hspot
    rw [add_lit'] at h1
    refine ⟨b, off, rfl, cell_lt h1, fun k hk => ?_⟩
    obtain ⟨_, _, _, q0, q1, q2⟩ := hf2 k (by omega)
    rw [add_lit'] at q0 q1 q2
    rw [add_lit'] at q1 q2
    exact ⟨q0, q1, q2⟩
end Go.Proofs.YtandanbojfdfjaaDoor
