import Derived.Test.YtknhdojciihjlaaRows
import Derived.Test.YtknhdojciihjlaaKit
import Derived.Test.YtknhdojciihjlaaSpec
import Derived.Test.YtknhdojciihjlaaWalk1
namespace Go.Proofs.Ytknhdojciihjlaa
open Go.ChangeShapes Go.WideShapes Go.ChangeAt Go.RowKit

theorem pts1 (x m : Int) (b : Nat) (w : World) (hc : w.cell? ⟨b, 0, none⟩ = some (.int .i64 m)) :
    Calls Try.prog 19 #[.int .i64 x, .pointer (some ⟨b, 0, none⟩)] w fun e w' => e = .returned (.bool (decide (x ≤ m))) ∧ w = w' := by
  go_enter Try.func19, Try.ntmps19
  go_wp2
  go_ret
  exact ⟨rfl, rfl⟩

theorem pts2 (x m : Int) (b : Nat) (w : World) (hc : w.cell? ⟨b, 0, none⟩ = some (.int .i64 m)) (h1 : -1000000 ≤ m) (h2 : m ≤ 1000000) :
    Calls Try.prog 20 #[.int .i64 x, .pointer (some ⟨b, 0, none⟩)] w fun e w' => e = .returned (.bool (decide (x ≤ -m))) ∧ w = w' := by
  go_enter Try.func20, Try.ntmps20
  go_wp2
  go_ret
  exact ⟨rfl, rfl⟩

set_option maxHeartbeats 400000 in
theorem count_any (f b : Nat) (pr : Int → Bool) (A : Option Addr) (c : Nat) (xs : List Int) (w : World) (h : Rd w w.heap.size A (ics .i64 xs)) (hl : xs.length ≤ 1000)
    (hf : Enters Try.prog f) (hcl : ∀ x : Int, Calls Try.prog f #[.int .i64 x, .pointer (some ⟨b, 0, none⟩)] w fun e w' => e = .returned (.bool (pr x)) ∧ w = w') :
    Calls Try.prog 18 #[.slice A xs.length c, .func (.func f) #[] #[.pointer (some ⟨b, 0, none⟩)]] w fun e w' => e = .returned (.int .i64 (cnt pr xs)) ∧ w = w' := by
  have H := Lib.hid hcl
  clear hcl
  have H2 := Lib.hid h
  unfold Enters at hf
  clear h
  go_enter Try.func18, Try.ntmps18
  go_wp2_with fail
  go_loop [5, 10] (fun n i => ∃ k : Nat, k ≤ xs.length ∧ i = .int .i64 k ∧ n = .int .i64 (cnt pr (xs.take k))) (fun _ i => xs.length - (intOf i).toNat)
  case atStart => exact ⟨0, Nat.zero_le _, rfl, rfl⟩
  case round =>
    obtain ⟨k, hk, rfl, rfl⟩ := hrel
    obtain ⟨c1, c2⟩ := cnt_le pr (xs.take k)
    have c3 := List.length_take_le k xs
    by_cases hlt : k < xs.length
    · obtain ⟨b', off, rfl, hb, hc⟩ := H2.out.int (by omega)
      have hck := hc k hlt
      clear hc
      have HS := Lib.hid (cnt_take pr xs k hlt)
      generalize xs.getD k 0 = x at *
      go_wp2_with fail
      refine (H.out _).mono ?_
      rintro e w' ⟨rfl, rfl⟩
      cases hp : pr x
      · have HS' := HS.out
        rw [hp] at HS'
        have HS2 := Lib.hid HS'
        clear HS' HS hp
        go_wp2
        go_round
        case rel => exact ⟨k + 1, by omega, by go_num, by rw [HS2.out]; simp⟩
        case measure => simp [intOf]; omega
      · have HS' := HS.out
        rw [hp] at HS'
        have HS2 := Lib.hid HS'
        clear HS' HS hp
        go_wp2
        go_round
        case rel => exact ⟨k + 1, by omega, by go_num, by rw [HS2.out]; simp⟩
        case measure => simp [intOf]; omega
    · obtain rfl : k = xs.length := by omega
      rw [List.take_length] at *
      go_wp2
      go_ret
      exact ⟨rfl, rfl⟩


theorem en19 : Enters Try.prog 19 := enters_of Try.func19 (by kernel_rfl) (by kernel_rfl)
theorem en20 : Enters Try.prog 20 := enters_of Try.func20 (by kernel_rfl) (by kernel_rfl)

theorem right_below {A : Option Addr} {c : Nat} {xs : List Int} {w w1 : World} (h : Rd w w.heap.size A (ics .i64 xs)) (hb : Below w.heap.size w w1) :
    Calls Try.prog 14 #[.slice A xs.length c] w1 fun e w' => e = .returned (.bool (RightB xs)) ∧ w1 = w' :=
  right_any A c xs w1 (h.keep hb hb.size)

set_option maxHeartbeats 400000 in
theorem points_ok (A : Option Addr) (c : Nat) (xs : List Int) (m : Int) (w : World) (h : Rd w w.heap.size A (ics .i64 xs)) (hk : PtsOk xs m) :
    Calls Try.prog 10 #[.slice A xs.length c, .int .i64 m] w fun e w' =>
      e = .returned (.tuple #[.int .i64 (xs.length + ptsN xs m), .int .i64 (xs.length - ptsN xs m), .int .i64 0]) ∧ Below w.heap.size w w' := by
  obtain ⟨hR, h1, h2⟩ := hk
  obtain ⟨l1, l2⟩ := RightB_len hR
  have hb : Below w.heap.size w (w.alloc (.cells #[.int .i64 m] 3)) := (Below.refl _ _).alloc (Nat.le_refl _) _
  have h' := Lib.hid (h.keep hb hb.size)
  have hcell : (w.alloc (.cells #[.int .i64 m] 3)).cell? ⟨w.heap.size, 0, none⟩ = some (.int .i64 m) := by
    rw [cell_of_row _ w.heap.size 0 _ 3 (0, 0) (heap_alloc_new w _)]; rfl
  have C1 := Lib.hid (count_any 19 w.heap.size (fun x => decide (x ≤ m)) A c xs _ h'.out (by omega) en19 (fun x => pts1 x m _ _ hcell))
  have C2 := Lib.hid (count_any 20 w.heap.size (fun x => decide (x ≤ -m)) A c xs _ h'.out (by omega) en20 (fun x => pts2 x m _ _ hcell h1 h2))
  have e := Lib.hid (show ptsN xs m = _ from rfl)
  have c1 := cnt_le (fun x => decide (x ≤ m)) xs
  have c2 := cnt_le (fun x => decide (x ≤ -m)) xs
  clear h
  go_enter Try.func10, Try.ntmps10
  go_wp2_with fail
  refine (right_any _ _ _ _ h'.out).mono ?_
  rintro e w' ⟨rfl, rfl⟩
  go_wp2_with fail
  refine C1.out.mono ?_
  rintro e w' ⟨rfl, rfl⟩
  go_wp2_with fail
  refine C2.out.mono ?_
  rintro e w' ⟨rfl, rfl⟩
  go_wp2_with fail
  go_ret3
  exact ⟨rfl, hb⟩

theorem points_bad (A : Option Addr) (c : Nat) (xs : List Int) (m : Int) (w : World) (h : Rd w w.heap.size A (ics .i64 xs)) (hk : RightB xs = false ∨ m < -1000000 ∨ 1000000 < m) :
    Calls Try.prog 10 #[.slice A xs.length c, .int .i64 m] w fun e w' =>
      e = .returned (.tuple #[.int .i64 0, .int .i64 0, .int .i64 2]) ∧ Below w.heap.size w w' := by
  have hb : Below w.heap.size w (w.alloc (.cells #[.int .i64 m] 3)) := (Below.refl _ _).alloc (Nat.le_refl _) _
  have h' := Lib.hid (h.keep hb hb.size)
  clear h
  cases hR : RightB xs
  · clear hk
    go_enter Try.func10, Try.ntmps10
    go_wp2_with fail
    refine (right_any _ _ _ _ h'.out).mono ?_
    rintro e w' ⟨rfl, rfl⟩
    go_wp2_with fail
    go_ret3
    exact ⟨rfl, hb⟩
  · rw [hR] at hk
    by_cases h1 : m < -1000000
    · clear hk
      go_enter Try.func10, Try.ntmps10
      go_wp2_with fail
      refine (right_any _ _ _ _ h'.out).mono ?_
      rintro e w' ⟨rfl, rfl⟩
      go_wp2_with fail
      go_ret3
      exact ⟨rfl, hb⟩
    · have h2 : 1000000 < m := by simp at hk; omega
      clear hk
      go_enter Try.func10, Try.ntmps10
      go_wp2_with fail
      refine (right_any _ _ _ _ h'.out).mono ?_
      rintro e w' ⟨rfl, rfl⟩
      go_wp2_with fail
      go_ret3
      exact ⟨rfl, hb⟩
end Go.Proofs.Ytknhdojciihjlaa
