import Derived.Test.YtknhdojciihjlaaRows
import Derived.Test.YtknhdojciihjlaaKit
import Derived.Test.YtknhdojciihjlaaSpec
namespace Go.Proofs.Ytknhdojciihjlaa
open Go.ChangeShapes Go.WideShapes Go.ChangeAt Go.RowKit

theorem ret_bool {a b : Bool} (h : a = b) : Ending.returned (.bool a) = .returned (.bool b) := by rw [h]
theorem eInt : Elem Try.prog 24 3 (.int .i64 0) 1 8 := ⟨Try.underlying24, by kernel_rfl, rfl, by omega, by omega⟩

theorem usual_bad (n : Int) (w : World) (h : n < 1 ∨ 128 < n) :
    Calls Try.prog 13 #[.int .i64 n] w fun e w' => e = .returned (.tuple #[.slice none 0 0, .int .i64 2]) ∧ w = w' := by
  rcases h with h | h
  · go_enter Try.func13, Try.ntmps13
    go_wp2
    go_ret2
    exact ⟨rfl, rfl⟩
  · have h' : ¬ n < 1 := by omega
    go_enter Try.func13, Try.ntmps13
    go_wp2
    go_ret2
    exact ⟨rfl, rfl⟩

set_option maxHeartbeats 1000000 in
theorem usual_ok (n : Nat) (w : World) (h1 : 1 ≤ n) (h2 : n ≤ 128) :
    Calls Try.prog 13 #[.int .i64 n] w fun e w' => ∃ v, e = .returned (.tuple #[v, .int .i64 0]) ∧ Own w w' 3 1 v 10 (ics .i64 (us n 10)) := by
  go_enter Try.func13, Try.ntmps13
  go_wp2
  go_loopw [4, 5, 6] (fun out m k wr => ∃ j : Nat, j ≤ 10 ∧ k = .int .i64 ((j : Int) + 1) ∧ m = .int .i64 (mm n j) ∧ Own w wr 3 1 out j (ics .i64 (us n j)))
    (fun _ _ k _ => 20 - (intOf k).toNat)
  case atStart => exact ⟨0, by omega, rfl, rfl, Own.nil _ _ (Below.refl _ _)⟩
  case round =>
    obtain ⟨j, hj, rfl, rfl, hown⟩ := hrel
    by_cases hlt : j < 10
    · have hp := mm_pos n j
      have hm := mm_le h2 hlt
      have hu := lst_le (tk n (j + 1))
      go_wp2
      obtain ⟨wo, rfl⟩ : ∃ wo : World, wo = wr := ⟨_, rfl⟩
      go_loop [5] (fun m => ∃ q : Nat, 1 ≤ q ∧ q ≤ lst (tk n (j + 1)) ∧ m = .int .i64 q) (fun m => lst (tk n (j + 1)) - (intOf m).toNat)
      case atStart => exact ⟨_, hp, hm, rfl⟩
      case round =>
        obtain ⟨q, hq1, hq2, rfl⟩ := hrel
        have hi := test_int hq1 hq2 h2 hlt
        obtain ⟨b1, b2⟩ := sq_int (q := q) (by omega)
        obtain ⟨b3, b4⟩ := nine_int hlt
        have b5 := tk_int n j
        have b6 := tk_le h2 (show j + 1 ≤ 10 by omega)
        have b7 : (0 : Int) ≤ 9 * ((j : Int) + 1) * ((j : Int) + 1) * n := by omega
        have b8 : (9 : Int) * ((j : Int) + 1) * ((j : Int) + 1) * n ≤ 115200 := by omega
        clear b5 b6
        by_cases hq : q < lst (tk n (j + 1))
        · have ht : (4 : Int) * q * q < 9 * ((j : Int) + 1) * ((j : Int) + 1) * n := hi.2 hq
          clear hi
          go_wp2
          go_round
          case rel => exact ⟨q + 1, by omega, by omega, by go_num⟩
          case measure => simp [intOf]; omega
        · have ht : ¬ ((4 : Int) * q * q < 9 * ((j : Int) + 1) * ((j : Int) + 1) * n) := fun h => hq (hi.1 h)
          obtain rfl : q = lst (tk n (j + 1)) := by omega
          clear hi
          go_wp2_with (at_builtin; refine ap_one rfl (.tmp 30) (.tmp 32) 24 rfl eInt [.int .i64 (lst (tk n (j + 1)))] hown rfl rfl rfl (by simp [Value.oneCell']) (by omega) ?_; intro v' w' hown' hsz)
          go_roundw
          case rel => exact ⟨j + 1, by omega, by go_num, by rw [mm_succ], by rw [us_succ, ics, List.map_append]; exact hown'⟩
          case measure => simp [intOf]; omega
    · obtain rfl : j = 10 := by omega
      go_wp2
      go_ret2
      exact ⟨_, rfl, hown⟩
set_option maxHeartbeats 400000 in
theorem right_any (A : Option Addr) (c : Nat) (xs : List Int) (w : World) (h : Rd w w.heap.size A (ics .i64 xs)) :
    Calls Try.prog 14 #[.slice A xs.length c] w fun e w' => e = .returned (.bool (RightB xs)) ∧ w = w' := by
  by_cases h0 : 1 ≤ xs.length
  case neg =>
    have HS := Lib.hid (RightB_short xs h0)
    go_enter Try.func14, Try.ntmps14
    go_wp2
    go_ret
    exact ⟨ret_bool HS.out.symm, rfl⟩
  by_cases h1 : xs.length ≤ 50
  case neg =>
    have HS := Lib.hid (RightB_long xs h1)
    go_enter Try.func14, Try.ntmps14
    go_wp2
    go_ret
    exact ⟨ret_bool HS.out.symm, rfl⟩
  obtain ⟨b, off, rfl, hb, hc⟩ := h.int (by omega)
  clear h
  have hl := hc (xs.length - 1) (by omega)
  by_cases h2 : xs.getD (xs.length - 1) 0 ≤ 1000000
  case neg =>
    have HS := Lib.hid (RightB_last xs (by omega))
    have h2' : xs.getD (xs.length - 1) 0 > 1000000 := by omega
    generalize xs.getD (xs.length - 1) 0 = last at *
    go_enter Try.func14, Try.ntmps14
    go_wp2
    go_ret
    exact ⟨ret_bool HS.out.symm, rfl⟩
  have HS := Lib.hid (RightB_rest xs h0 h1 h2)
  generalize xs.getD (xs.length - 1) 0 = last at *
  go_enter Try.func14, Try.ntmps14
  go_wp2
  go_loop [3, 25] (fun l i => ∃ k : Nat, k ≤ xs.length ∧ i = .int .i64 k ∧ ∃ v : Int, l = .int .i64 v ∧ Hid (incr v (xs.drop k) = incr 0 xs)) (fun _ i => xs.length - (intOf i).toNat)
  case atStart => exact ⟨0, Nat.zero_le _, rfl, 0, rfl, by simp [Hid]⟩
  case round =>
    obtain ⟨k, hk, rfl, v, rfl, hv⟩ := hrel
    by_cases hlt : k < xs.length
    · have hck := hc k hlt
      have hd := Lib.hid (incr_drop xs k hlt v)
      generalize xs.getD k 0 = x at *
      clear hc
      go_wp2
      · rename_i hle
        go_ret
        refine ⟨ret_bool ?_, rfl⟩
        rw [HS.out, ← hv.out, hd.out]
        have : ¬ v < x := by omega
        simp [this]
      · rename_i hle
        go_round
        case rel => 
          refine ⟨k+1, by omega, by go_num, x, rfl, ?_⟩
          have : v < x := by omega
          have h2 := hd.out
          simp only [this, decide_true, Bool.true_and] at h2
          exact h2.symm.trans hv
        case measure => simp [intOf]; omega
    · go_wp2
      go_ret
      refine ⟨ret_bool ?_, rfl⟩
      rw [HS.out, ← hv.out, List.drop_eq_nil_of_le (by omega)]; rfl

end Go.Proofs.Ytknhdojciihjlaa
