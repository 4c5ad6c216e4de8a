import Derived.Test.YtandanbojfdfjaaDoorGood
import Derived.Laws.EntriesVeiled
namespace Go.Proofs.YtandanbojfdfjaaDoor
open Go.ChangeShapes Go.WideShapes Go.ChangeAt Go.RowKit

abbrev rules (B : Nat) : Value := .agg #[.func (.func 71) #[] #[.pointer (some ⟨B + 1, 0, none⟩)], .func (.func 72) #[] #[.pointer (some ⟨B + 1, 0, none⟩)], .func (.func 73) #[] #[.pointer (some ⟨B, 0, none⟩), .pointer (some ⟨B + 1, 0, none⟩)]]
theorem idx0 (B : Nat) (w : World) : (Instr.index 120 (rules B) (.int .i64 0)).run Tryd.prog w = .ok (.func (.func 71) #[] #[.pointer (some ⟨B + 1, 0, none⟩)]) w := by kernel_rfl
theorem idx1 (B : Nat) (w : World) : (Instr.index 120 (rules B) (.int .i64 1)).run Tryd.prog w = .ok (.func (.func 72) #[] #[.pointer (some ⟨B + 1, 0, none⟩)]) w := by kernel_rfl
theorem idx2 (B : Nat) (w : World) : (Instr.index 120 (rules B) (.int .i64 2)).run Tryd.prog w = .ok (.func (.func 73) #[] #[.pointer (some ⟨B, 0, none⟩), .pointer (some ⟨B + 1, 0, none⟩)]) w := by kernel_rfl
theorem en71 : Enters Tryd.prog 71 := enters_of Tryd.func71 (by kernel_rfl) (by kernel_rfl)

theorem good_any (x : Nat) (s : ByteArray) (w : World) (hs : s.size ≤ 2000000) (hx : x < 9973) (hT : Tb w) :
    Calls Tryd.prog 59 #[.int .i64 x, .string s] w fun e w' => e = .returned (.bool (goodB x s.data.toList)) ∧ Below w.heap.size w w' := by
  have HG := Lib.hid (show goodB x s.data.toList = (decide (6 ≤ s.size) && (recB (mid s.data.toList) && (lin x (mid s.data.toList) == s.data.toList))) by unfold goodB; rw [len_toList])
  have HR : Hid (recB (mid s.data.toList) = true → s.size ≤ 1000000) := Lib.hid (fun h => by
    have h1 := recB_le h
    unfold mid at h1
    rw [List.length_take, List.length_drop, len_toList] at h1
    omega)
  have G1 := fun (wx : World) (h : wx.cell? ⟨w.heap.size + 1, 0, none⟩ = some (.string s)) => Lib.hid (good1_any (w.heap.size + 1) s wx h)
  have G2 := fun (wx : World) (h6 : 6 ≤ s.size) (h : wx.cell? ⟨w.heap.size + 1, 0, none⟩ = some (.string s)) => Lib.hid (good2_any (w.heap.size + 1) s wx h6 hs h)
  have G3 := fun (wx : World) (h6 : 6 ≤ s.size) (h5 : s.size ≤ 1000000) (h3 : Tb wx) (h1 : wx.cell? ⟨w.heap.size, 0, none⟩ = some (.int .i64 x)) (h : wx.cell? ⟨w.heap.size + 1, 0, none⟩ = some (.string s)) => Lib.hid (good3_any w.heap.size (w.heap.size + 1) x s wx h6 h5 hx h3 h1 h)
  simp only [len_toList] at G1
  have hT1 := hT.lt
  have i0 := idx0 w.heap.size
  have i1 := idx1 w.heap.size
  have i2 := idx2 w.heap.size
  generalize recB (mid s.data.toList) = r at *
  generalize (lin x (mid s.data.toList) == s.data.toList) = q at *
  go_enter Tryd.func59, Tryd.ntmps59
  go_wp2_with fail
  go_loopw [13] (fun i wr => ∃ k : Int, 0 ≤ k ∧ k ≤ 3 ∧ i = .int .i64 k ∧ wr.cell? ⟨w.heap.size, 0, none⟩ = some (.int .i64 x) ∧ wr.cell? ⟨w.heap.size + 1, 0, none⟩ = some (.string s) ∧ Below w.heap.size w wr ∧ (1 ≤ k → 6 ≤ s.size) ∧ (2 ≤ k → r = true) ∧ (3 ≤ k → q = true)) (fun i _ => 3 - (intOf i).toNat)
  case atStart =>
    exact ⟨0, by omega, by omega, rfl, by go_simp, by go_simp, (((Below.refl _ _).alloc (Nat.le_refl _) _).alloc (by simp) _).alloc (by simp; omega) _, by omega, by omega, by omega⟩
  case round =>
    obtain ⟨k, hk0, hk, rfl, c1, c2, hb, k1, k2, k3⟩ := hrel
    obtain rfl | rfl | rfl | rfl : k = 0 ∨ k = 1 ∨ k = 2 ∨ k = 3 := by omega
    · clear k1 k2 k3
      go_wp2_with fail
      refine (G1 wr c2).out.mono ?_
      rintro e w' ⟨rfl, rfl⟩
      by_cases h6 : 6 ≤ s.size
      · go_wp2_with fail
        go_roundw
        case rel => exact ⟨1, by omega, by omega, rfl, c1, c2, hb, fun _ => h6, by omega, by omega⟩
        case measure => simp [intOf]
      · go_wp2_with fail
        go_ret
        exact ⟨ret_bool (by rw [HG.out]; simp [h6]), hb⟩
    · have k1 := k1 (by omega)
      clear k2 k3
      go_wp2_with fail
      refine (G2 wr k1 c2).out.mono ?_
      rintro e w' ⟨rfl, hb2⟩
      cases hr : r
      · rw [hr] at HG
        go_wp2_with fail
        go_ret
        exact ⟨ret_bool (by rw [HG.out]; simp), hb.trans (hb2.mono hb.size)⟩
      · go_wp2_with fail
        go_roundw
        case rel => exact ⟨2, by omega, by omega, rfl, (bcell hb2 _ 0 (cell_lt c1)).trans c1, (bcell hb2 _ 0 (cell_lt c2)).trans c2, hb.trans (hb2.mono hb.size), fun _ => k1, fun _ => hr, by omega⟩
        case measure => simp [intOf]
    · have k1 := k1 (by omega)
      have k2 := k2 (by omega)
      clear k3
      go_wp2_with fail
      refine (G3 wr k1 (HR.out k2) (hT.below hb hT1) c1 c2).out.mono ?_
      rintro e w' ⟨rfl, hb2⟩
      cases hq : q
      · rw [hq] at HG
        go_wp2_with fail
        go_ret
        exact ⟨ret_bool (by rw [HG.out]; simp), hb.trans (hb2.mono hb.size)⟩
      · go_wp2_with fail
        go_roundw
        case rel => exact ⟨3, by omega, by omega, rfl, (bcell hb2 _ 0 (cell_lt c1)).trans c1, (bcell hb2 _ 0 (cell_lt c2)).trans c2, hb.trans (hb2.mono hb.size), fun _ => k1, fun _ => k2, fun _ => hq⟩
        case measure => simp [intOf]
    · have k1 := k1 (by omega)
      have k2 := k2 (by omega)
      have k3 := k3 (by omega)
      go_wp2_with fail
      go_ret
      exact ⟨ret_bool (by rw [HG.out, k2, k3]; simp [k1]), hb⟩
end Go.Proofs.YtandanbojfdfjaaDoor
