import Derived.Test.YtandanbojfdfjaaDoorRows
import Derived.Test.YtandanbojfdfjaaDoorKit
import Derived.Test.YtandanbojfdfjaaDoorSpec
namespace Go.Proofs.YtandanbojfdfjaaDoor
open Go.ChangeShapes Go.WideShapes Go.ChangeAt Go.RowKit

theorem ret_bool {a b : Bool} (h : a = b) : Ending.returned (.bool a) = .returned (.bool b) := by rw [h]
theorem ret_int {k : IntKind} {a b : Int} (h : a = b) : Ending.returned (.int k a) = .returned (.int k b) := by rw [h]

theorem take_snoc (s : ByteArray) (k : Nat) (h : k < s.size) : s.data.toList.take (k + 1) = s.data.toList.take k ++ [s[k]] := by
  rw [List.take_succ_eq_append_getElem (by simpa using h)]; rfl
theorem len_toList (s : ByteArray) : s.data.toList.length = s.size := by simp

set_option maxHeartbeats 400000 in
theorem check_any (x : Nat) (s : ByteArray) (w : World) (hx : x < 9973) (hs : s.size ≤ 1000000) :
    Calls Tryd.prog 43 #[.int .i64 x, .string s] w fun e w' => e = .returned (.int .i64 (chk x s.data.toList)) ∧ w = w' := by
  go_enter Tryd.func43, Tryd.ntmps43
  go_wp2
  go_loop [5, 10] (fun y i => ∃ k : Nat, k ≤ s.size ∧ i = .int .i64 k ∧ y = .int .i64 (fol x (s.data.toList.take k))) (fun _ i => s.size - (intOf i).toNat)
  case atStart => exact ⟨0, Nat.zero_le _, rfl, rfl⟩
  case round =>
    obtain ⟨k, hk, rfl, rfl⟩ := hrel
    have hf := fol_lt hx (s.data.toList.take k)
    by_cases hlt : k < s.size
    · have HS : Hid (fol x (s.data.toList.take (k + 1)) = (31 * fol x (s.data.toList.take k) + (s[k]).toNat) % 9973) := by
        rw [take_snoc s k hlt, fol_snoc]; rfl
      have hb : s[k].toNat < 256 := s[k].toNat_lt
      generalize fol x (s.data.toList.take k) = y at *
      go_wp2
      go_round
      case rel => exact ⟨k + 1, by omega, by go_num, by rw [HS.out]; simp⟩
      case measure => simp [intOf]; omega
    · have hT : s.data.toList.take k = s.data.toList := List.take_of_length_le (by simp; omega)
      rw [hT] at hf ⊢
      clear hT
      have HC := Lib.hid (show chk x s.data.toList = (31 * fol x s.data.toList + s.size) % 9973 by unfold chk; rw [len_toList])
      generalize fol x s.data.toList = y at *
      go_wp2
      go_ret
      exact ⟨ret_int (by rw [HC.out]; simp), rfl⟩

/-- what the journal's closure asks of a rune -/
theorem rune_any (r : Int) (w : World) : Calls Tryd.prog 55 #[.int .i32 r] w fun e w' => e = .returned (.bool (decide (r < 32) || decide (126 < r))) ∧ w = w' := by
  by_cases h : r < 32
  · go_enter Tryd.func55, Tryd.ntmps55
    go_wp2
    go_ret
    exact ⟨ret_bool (by simp [h]), rfl⟩
  · go_enter Tryd.func55, Tryd.ntmps55
    go_wp2
    go_ret
    exact ⟨ret_bool (by rw [show decide (r < 32) = false by simp; omega]; simp), rfl⟩
end Go.Proofs.YtandanbojfdfjaaDoor
