import Derived.Test.YtknhdojciihjlaaUni
namespace Go.Proofs.Ytknhdojciihjlaa
open Go.ChangeShapes Go.WideShapes Go.ChangeAt Go.RowKit

theorem take_marks (xs : List Int) : (ics .i64 (xs ++ marks 12)).take xs.length = ics .i64 xs := by simp [ics]
theorem rd_take {w : World} {B : Nat} {A : Option Addr} {xs : List Int} (h : Rd w B A (ics .i64 (xs ++ marks 12))) : Rd w B A (ics .i64 xs) := by
  have := h.take xs.length
  rwa [take_marks] at this

set_option maxRecDepth 100000 in
set_option maxHeartbeats 4000000 in
theorem same_law (A B : Option Addr) (c d : Nat) (xs ms : List Int) (n : Int) (w : World) (hx : Rd w w.heap.size A (ics .i64 xs)) (hM : Rd w w.heap.size B (ics .i64 ms)) (l1 : xs.length ≤ 1000) (l2 : ms.length ≤ 1000)
    (hp1 : -9223372036854775808 ≤ n) (hp2 : n ≤ 9223372036854775807) :
    Calls Try.prog 16 #[.slice A xs.length c, .int .i64 n, .slice B ms.length d] w fun e w' => e = .returned (.bool true) ∧ Below w.heap.size w w' := by
  obtain ⟨pe1, pe2⟩ := pE_bd xs n
  obtain ⟨le1, le2⟩ := lE_bd xs n
  obtain ⟨te1, te2⟩ := tE_bd xs ms
  obtain ⟨ue1, ue2⟩ := uE_bd n
  have ul := uL_le n
  go_enter Try.func16, Try.ntmps16
  go_wp2_with fail
  refine (lent_any A c xs w hx (by omega)).mono ?_
  rintro e w1 ⟨A1, c1, rfl, hc1, rd1, b1⟩
  go_wp2_with fail
  refine (lent_any B d ms w1 (hM.now b1) (by omega)).mono ?_
  rintro e w2 ⟨A2, c2, rfl, hc2, rd2, b2⟩
  have rd1' := rd1.now b2
  have rx : Rd w2 w2.heap.size A (ics .i64 xs) := (hx.now b1).now b2
  have rm : Rd w2 w2.heap.size B (ics .i64 ms) := (hM.now b1).now b2
  have r1 := rd_take rd1'
  have r2 := rd_take rd2
  have b02 : Below w.heap.size w w2 := b1.trans (b2.mono b1.size)
  clear hx hM rd1 b1 b2
  go_wp2_with fail
  refine (points_u r1 (Below.refl _ _)).mono ?_
  rintro e w3 ⟨rfl, b3⟩
  go_wp2_with fail
  refine (rpoints_u rx (by omega) b3).mono ?_
  rintro e w4 ⟨rfl, b4⟩
  go_wp2_with fail
  refine (right_any _ _ _ _ (r1.now b4)).mono ?_
  rintro e w5 ⟨rfl, rfl⟩
  go_wp2_with fail
  refine (rright_any _ _ _ _ (rx.now b4) (by omega)).mono ?_
  rintro e w6 ⟨rfl, q6⟩
  have b6 := b4.trans (q6.below _)
  clear b3 b4 q6
  go_wp2_with fail
  refine (margins_u r1 b6).mono ?_
  rintro e w7 ⟨rfl, b7⟩
  go_wp2_with fail
  refine (rmargins_u rx (by omega) b7 hp1 hp2).mono ?_
  rintro e w8 ⟨rfl, b8⟩
  clear b6 b7
  go_wp2_with fail
  refine (total_u r1 r2 (by omega) b8).mono ?_
  rintro e w9 ⟨rfl, b9⟩
  go_wp2_with fail
  refine (rtotal_u rx rm (by omega) (by omega) b9).mono ?_
  rintro e w10 ⟨rfl, b10⟩
  clear b8 b9
  go_wp2_with fail
  refine (usual_u b10).mono ?_
  rintro e w11 ⟨A3, c3, rfl, rd3, b11⟩
  go_wp2_with fail
  refine (rusual_u (Below.refl _ _)).mono ?_
  rintro e w12 ⟨A4, c4, rfl, rd4, b12⟩
  have b13 := b11.trans (b12.mono b11.size)
  clear b10 b11
  go_wp2_with fail
  refine (same_any A3 A4 c3 c4 (uL n) (uL n) w12 (rd3.now b12) rd4 (by omega)).mono ?_
  rintro e w13 ⟨rfl, q13⟩
  have e1 : decide (uL n = uL n) = true := by simp
  rw [e1]
  have b14 := b13.trans (q13.below _)
  go_wp2_with fail
  refine (kept_any A1 A c1 c xs w13 (rd1'.now b14) (rx.now b14) (by omega) hc1).mono ?_
  rintro e w14 ⟨rfl, q14⟩
  have b15 := b14.trans (q14.below _)
  go_wp2_with fail
  refine (kept_any A2 B c2 d ms w14 (rd2.now b15) (rm.now b15) (by omega) hc2).mono ?_
  rintro e w15 ⟨rfl, q15⟩
  go_wp2_with fail
  go_ret
  exact ⟨rfl, b02.trans ((b15.trans (q15.below _)).mono b02.size)⟩
end Go.Proofs.Ytknhdojciihjlaa
