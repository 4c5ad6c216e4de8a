import Derived.Test.YtknhdojciihjlaaRows
import Derived.Test.YtknhdojciihjlaaKit
import Derived.Test.YtknhdojciihjlaaSpec
import Derived.Test.YtknhdojciihjlaaWalk1
namespace Go.Proofs.Ytknhdojciihjlaa
open Go.ChangeShapes Go.WideShapes Go.ChangeAt Go.RowKit

theorem margins_wrong (A : Option Addr) (c : Nat) (xs : List Int) (p : Int) (w : World) (h : Rd w w.heap.size A (ics .i64 xs)) (hR : RightB xs = false) :
    Calls Try.prog 12 #[.slice A xs.length c, .int .i64 p] w fun e w' => e = .returned (.tuple #[.int .i64 0, .int .i64 0, .int .i64 2]) ∧ w = w' := by
  have h' := Lib.hid h
  clear h
  go_enter Try.func12, Try.ntmps12
  go_wp2_with fail
  refine (right_any _ _ _ _ h'.out).mono ?_
  rintro e w' ⟨rfl, rfl⟩
  go_wp2_with fail
  go_ret3
  exact ⟨rfl, rfl⟩

theorem margins_none (A : Option Addr) (c : Nat) (xs : List Int) (p : Int) (w : World) (h : Rd w w.heap.size A (ics .i64 xs)) (hR : RightB xs = true) (hp : p < 0 ∨ 2 * (xs.length : Int) < p) :
    Calls Try.prog 12 #[.slice A xs.length c, .int .i64 p] w fun e w' => e = .returned (.tuple #[.int .i64 0, .int .i64 0, .int .i64 6]) ∧ w = w' := by
  have h' := Lib.hid h
  obtain ⟨l1, l2⟩ := RightB_len hR
  clear h
  by_cases h1 : p < 0
  · clear hp
    go_enter Try.func12, Try.ntmps12
    go_wp2_with fail
    refine (right_any _ _ _ _ h'.out).mono ?_
    rintro e w' ⟨rfl, rfl⟩
    go_wp2_with fail
    go_ret3
    exact ⟨rfl, rfl⟩
  · have h2 : 2 * (xs.length : Int) < p := by omega
    clear hp
    go_enter Try.func12, Try.ntmps12
    go_wp2_with fail
    refine (right_any _ _ _ _ h'.out).mono ?_
    rintro e w' ⟨rfl, rfl⟩
    go_wp2_with fail
    go_ret3
    exact ⟨rfl, rfl⟩

theorem tup3 {a b c a' b' c' : Int} (h1 : a = a') (h2 : b = b') (h3 : c = c') :
    Ending.returned (.tuple #[.int .i64 a, .int .i64 b, .int .i64 c]) = .returned (.tuple #[.int .i64 a', .int .i64 b', .int .i64 c']) := by rw [h1, h2, h3]

set_option maxHeartbeats 1000000 in
theorem margins_hi (A : Option Addr) (c : Nat) (xs : List Int) (p : Nat) (w : World) (h : Rd w w.heap.size A (ics .i64 xs)) (hR : RightB xs = true) (h1 : xs.length ≤ p) (h2 : p ≤ 2 * xs.length) :
    Calls Try.prog 12 #[.slice A xs.length c, .int .i64 p] w fun e w' => e = .returned (.tuple #[.int .i64 (hiA xs p), .int .i64 (hiB xs p), .int .i64 0]) ∧ ∃ n, w' = w.drewN n := by
  have h' := Lib.hid h
  obtain ⟨l1, l2⟩ := RightB_len hR
  obtain ⟨b, off, rfl, hb, hc⟩ := h.int (by omega)
  clear h
  by_cases he : p = xs.length
  · have c0 : w.cell? ⟨b, off, none⟩ = some (.int .i64 (xs.getD 0 0)) := hc 0 (by omega)
    have bd := RightB_bd hR 0 (by omega)
    have HA := Lib.hid (show hiA xs p = 1 - xs.getD 0 0 by simp [hiA, he])
    have HB := Lib.hid (show hiB xs p = xs.getD 0 0 - 1 by simp [hiB, he])
    generalize xs.getD 0 0 = x at *
    have hz : (0 : Int) < xs.length := by omega
    have hz' : 0 < xs.length := by omega
    clear hc
    subst he
    go_enter Try.func12, Try.ntmps12
    go_wp2_with fail
    refine (right_any _ _ _ _ h'.out).mono ?_
    rintro e w' ⟨rfl, rfl⟩
    go_wp2_with fail
    go_quiet (fail)
    go_wp2_with fail
    go_ret3
    exact ⟨tup3 HA.out.symm HB.out.symm rfl, _, rfl⟩
  · by_cases he2 : p = 2 * xs.length
    · have c0 := hc (xs.length - 1) (by omega)
      have HA := Lib.hid (show hiA xs p = xs.getD (xs.length - 1) 0 by simp only [hiA, if_neg he, if_pos he2])
      have HB := Lib.hid (show hiB xs p = 1000000 by simp only [hiB, if_neg he, if_pos he2])
      generalize xs.getD (xs.length - 1) 0 = x at *
      have t1 : ((p : Int) == (xs.length : Int)) = false := by simp; omega
      have t2 : ((p : Int) == 2 * (xs.length : Int)) = true := by simp; omega
      clear hc
      have hp := Lib.hid he2
      clear he2
      go_enter Try.func12, Try.ntmps12
      go_wp2_with fail
      refine (right_any _ _ _ _ h'.out).mono ?_
      rintro e w' ⟨rfl, rfl⟩
      go_wp2_with fail
      go_ret3
      exact ⟨tup3 HA.out.symm HB.out.symm rfl, 0, rfl⟩
    · have c0 := hc (p - xs.length - 1) (by omega)
      have c1 := hc (p - xs.length) (by omega)
      have bd := RightB_bd hR (p - xs.length) (by omega)
      have HA := Lib.hid (show hiA xs p = xs.getD (p - xs.length - 1) 0 by simp only [hiA, if_neg he, if_neg he2])
      have HB := Lib.hid (show hiB xs p = xs.getD (p - xs.length) 0 - 1 by simp only [hiB, if_neg he, if_neg he2])
      generalize xs.getD (p - xs.length - 1) 0 = x at *
      generalize xs.getD (p - xs.length) 0 = y at *
      obtain ⟨j, rfl⟩ : ∃ j, p = xs.length + (j + 1) := ⟨p - xs.length - 1, by omega⟩
      have e1 : xs.length + (j + 1) - xs.length - 1 = j := by omega
      have e2 : xs.length + (j + 1) - xs.length = j + 1 := by omega
      rw [e1] at c0
      rw [e2] at c1
      have t1 : (((xs.length + (j + 1) : Nat) : Int) == (xs.length : Int)) = false := by simp; omega
      have t2 : (((xs.length + (j + 1) : Nat) : Int) == 2 * (xs.length : Int)) = false := by simp; omega
      clear hc e1 e2
      go_enter Try.func12, Try.ntmps12
      go_wp2_with fail
      refine (right_any _ _ _ _ h'.out).mono ?_
      rintro e w' ⟨rfl, rfl⟩
      go_wp2_with fail
      go_quiet (fail)
      go_wp2_with fail
      go_ret3
      exact ⟨tup3 HA.out.symm HB.out.symm rfl, _, rfl⟩

set_option maxHeartbeats 1000000 in
theorem margins_lo (A : Option Addr) (c : Nat) (xs : List Int) (p : Nat) (w : World) (h : Rd w w.heap.size A (ics .i64 xs)) (hR : RightB xs = true) (h1 : p < xs.length) :
    Calls Try.prog 12 #[.slice A xs.length c, .int .i64 p] w fun e w' => e = .returned (.tuple #[.int .i64 (-hiB xs (2 * xs.length - p)), .int .i64 (-hiA xs (2 * xs.length - p)), .int .i64 0]) ∧ ∃ n, w' = w.drewN n := by
  have h' := Lib.hid h
  obtain ⟨l1, l2⟩ := RightB_len hR
  clear h
  have HC := Lib.hid (margins_hi A c xs (2 * xs.length - p) w h'.out hR (by omega) (by omega))
  obtain ⟨a1, a2⟩ := hiA_bd hR (p := 2 * xs.length - p) (by omega) (by omega)
  obtain ⟨b1, b2⟩ := hiB_bd hR (p := 2 * xs.length - p) (by omega) (by omega)
  have He := Lib.hid (show 2 * (xs.length : Int) - (p : Int) = ((2 * xs.length - p : Nat) : Int) by omega)
  generalize 2 * xs.length - p = q at *
  go_enter Try.func12, Try.ntmps12
  go_wp2_with fail
  refine (right_any _ _ _ _ h'.out).mono ?_
  rintro e w' ⟨rfl, rfl⟩
  go_wp2_with fail
  rw [He.out]
  refine HC.out.mono ?_
  rintro e w' ⟨rfl, n, rfl⟩
  go_wp2_with fail
  go_ret3
  exact ⟨rfl, n, rfl⟩

theorem margins_any (A : Option Addr) (c : Nat) (xs : List Int) (p : Nat) (w : World) (h : Rd w w.heap.size A (ics .i64 xs)) (hR : RightB xs = true) (h2 : p ≤ 2 * xs.length) :
    Calls Try.prog 12 #[.slice A xs.length c, .int .i64 p] w fun e w' => e = .returned (.tuple #[.int .i64 (loM xs p), .int .i64 (upM xs p), .int .i64 0]) ∧ Below w.heap.size w w' := by
  unfold loM upM
  by_cases h1 : p < xs.length
  · rw [if_pos h1, if_pos h1]
    exact (margins_lo A c xs p w h hR h1).mono fun _ _ ⟨he, n, hw⟩ => ⟨he, hw ▸ below_drewN (Below.refl _ _) n⟩
  · rw [if_neg h1, if_neg h1]
    exact (margins_hi A c xs p w h hR (by omega) h2).mono fun _ _ ⟨he, n, hw⟩ => ⟨he, hw ▸ below_drewN (Below.refl _ _) n⟩
end Go.Proofs.Ytknhdojciihjlaa
