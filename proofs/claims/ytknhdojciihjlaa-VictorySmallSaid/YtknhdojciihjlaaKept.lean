import Derived.Test.YtknhdojciihjlaaWalk2
namespace Go.Proofs.Ytknhdojciihjlaa
open Go.ChangeShapes Go.WideShapes Go.ChangeAt Go.RowKit

theorem getD_app_lo (xs ys : List Int) (i : Nat) (h : i < xs.length) : (xs ++ ys).getD i 0 = xs.getD i 0 := by
  simp [List.getD_eq_getElem?_getD, List.getElem?_append_left h]
theorem getD_app_hi (xs ys : List Int) (i : Nat) (h : xs.length ≤ i) : (xs ++ ys).getD i 0 = ys.getD (i - xs.length) 0 := by
  simp [List.getD_eq_getElem?_getD, List.getElem?_append_right h]

set_option maxHeartbeats 1000000 in
theorem kept_any (A B : Option Addr) (c d : Nat) (xs : List Int) (w : World) (hx : Rd w w.heap.size A (ics .i64 (xs ++ marks 12))) (hy : Rd w w.heap.size B (ics .i64 xs)) (hm : xs.length ≤ 1000000) (hc : xs.length + 12 ≤ c) :
    Calls Try.prog 27 #[.slice A xs.length c, .slice B xs.length d] w fun e w' => e = .returned (.bool true) ∧ Qt w w' := by
  have hlen : (xs ++ marks 12).length = xs.length + 12 := by rw [List.length_append, marks_len]
  obtain ⟨b1, o1, rfl, hb1, hc1⟩ := hx.int (by omega)
  have HC1 := Lib.hid hc1
  have HL := Lib.hid hlen
  have HY := Lib.hid hy
  clear hx hy hc1 hlen
  go_enter Try.func27, Try.ntmps27
  go_wp2
  go_loopw [6] (fun i wr => ∃ k : Nat, k ≤ xs.length + 12 ∧ i = .int .i64 k ∧ Qt w wr) (fun i _ => xs.length + 12 - (intOf i).toNat)
  case atStart => exact ⟨0, Nat.zero_le _, rfl, Qt.refl _⟩
  case round =>
    obtain ⟨k, hk, rfl, hq⟩ := hrel
    by_cases hlt : k < xs.length
    · obtain ⟨b2, o2, rfl, hb2, hc2⟩ := HY.out.int (by omega)
      have g1 := (hq.cell _).trans (HC1.out k (by rw [HL.out]; omega))
      have g2 := (hq.cell _).trans (hc2 k hlt)
      rw [getD_app_lo _ _ _ hlt] at g1
      generalize xs.getD k 0 = x at *
      have t0 : k < xs.length + 12 := by omega
      have t1 : ¬ xs.length ≤ k := by omega
      clear hc2
      have t3 : decide ((k : Int) ≥ (xs.length : Int)) = false := by simp; omega
      have t2 : decide (k < xs.length) = true := by simpa using hlt
      have t4 : decide (xs.length ≤ k) = false := by simpa using hlt
      go_wp2
      go_quiet (fail)
      go_wp2
      go_roundw
      case rel => exact ⟨k + 1, by omega, by go_num, hq.drewN nq⟩
      case measure => simp [intOf]; omega
    · by_cases hlt2 : k < xs.length + 12
      · have g1 := (hq.cell _).trans (HC1.out k (by rw [HL.out]; omega))
        rw [getD_app_hi _ _ _ (by omega), marks_get _ _ (by omega)] at g1
        rw [show ((k - xs.length : Nat) : Int) = (k : Int) - (xs.length : Int) by omega] at g1
        have t2 : decide (k < xs.length) = false := by simpa using hlt
        have t4 : decide (xs.length ≤ k) = true := by simp; omega
        have t5 : xs.length ≤ k := by omega
        have t6 : (0 : Int) ≤ (k : Int) - (xs.length : Int) := by omega
        have t7 : (k : Int) - (xs.length : Int) ≤ 1000 := by omega
        have HM := Lib.hid (fun W : World => mark_any ((k : Int) - (xs.length : Int)) W t6 t7)
        have hw : IntKind.i64.wrap ((k : Int) - (xs.length : Int)) = (k : Int) - (xs.length : Int) := IntWalk.i64_in _ (by omega)
        go_wp2
        go_quiet ((go_at_call 28; exact quiet_left (HM.out _)))
        go_wp2
        go_roundw
        case rel => exact ⟨k + 1, by omega, by go_num, hq.drewN nq⟩
        case measure => simp [intOf]; omega
      · go_wp2
        go_ret
        exact ⟨rfl, hq⟩
end Go.Proofs.Ytknhdojciihjlaa
