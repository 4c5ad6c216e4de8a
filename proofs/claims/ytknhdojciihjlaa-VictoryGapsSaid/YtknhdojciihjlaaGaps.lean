import Derived.Test.YtknhdojciihjlaaAwake
import Derived.Test.YtknhdojciihjlaaScale
import Derived.Test.YtknhdojciihjlaaLaw2
namespace Go.Proofs.Ytknhdojciihjlaa
open Go.ChangeShapes Go.WideShapes Go.ChangeAt Go.RowKit

theorem margins_b {A : Option Addr} {c : Nat} {xs : List Int} {p : Nat} {w w1 : World} (h : Rd w w.heap.size A (ics .i64 xs)) (hb : Below w.heap.size w w1) (hR : RightB xs = true) (h2 : p ≤ 2 * xs.length) :
    Calls Try.prog 12 #[.slice A xs.length c, .int .i64 p] w1 fun e w' => e = .returned (.tuple #[.int .i64 (loM xs p), .int .i64 (upM xs p), .int .i64 0]) ∧ Below w.heap.size w w' :=
  (margins_any A c xs p w1 (h.now hb) hR h2).mono fun _ _ ⟨he, h'⟩ => ⟨he, hb.trans (h'.mono hb.size)⟩

set_option maxRecDepth 100000 in
set_option maxHeartbeats 4000000 in
theorem gaps_any (A : Option Addr) (c : Nat) (xs : List Int) (n : Nat) (m : Int) (w : World) (hx : Rd w w.heap.size A (ics .u8 xs)) (hc : xs.length ≤ c) (hm : c ≤ maxLen) (hbd : ∀ x ∈ xs, 0 ≤ x ∧ x ≤ 255)
    (hn : n ≤ 255) (hm1 : -32768 ≤ m) (hm2 : m ≤ 32767) :
    Calls Try.prog 4 #[.slice A xs.length c, .int .u8 n, .int .i16 m] w fun e w' => e = .returned (.bool true) ∧ Below w.heap.size w w' := by
  have HS := Lib.hid (scale_any A c xs w hx hc hm hbd)
  obtain ⟨hR, hl⟩ := scaleS_right xs hbd
  clear hx hc hm hbd
  generalize scaleS xs = s at *
  obtain ⟨l1, l2⟩ := RightB_len hR
  have HR := Lib.hid hR
  obtain ⟨p, hp⟩ : ∃ p, p = n % (2 * s.length + 1) := ⟨_, rfl⟩
  have hple : p ≤ 2 * s.length := by have := Nat.mod_lt n (show 0 < 2 * s.length + 1 by omega); omega
  have HP := Lib.hid (show (n : Int) % (2 * (s.length : Int) + 1) = (p : Int) by rw [hp]; simp [Int.natCast_emod])
  clear hp hl
  obtain ⟨lb1, lb2⟩ := lo_bd hR hple
  obtain ⟨ub1, ub2⟩ := up_bd hR hple
  have hlu := lo_le hR hple
  have Im := pts_iff hR (m := m) (by omega) (by omega) hple
  have El := Lib.hid ((pts_iff hR lb1 lb2 hple).2 ⟨by omega, hlu⟩)
  have Eu := Lib.hid ((pts_iff hR ub1 ub2 hple).2 ⟨hlu, by omega⟩)
  have Hnext := fun h => lo_next hR (p := p) h
  have H0 : p = 0 → loM s p = -1000000 := fun h => by rw [h]; exact lo_zero hR
  have H1 : p = 2 * s.length → upM s p = 1000000 := fun h => by rw [h]; exact up_all hR
  have q1 := ptsN_le s m
  have q2 := ptsN_le s (loM s p)
  have q3 := ptsN_le s (upM s p)
  clear hR
  generalize hlo : loM s p = lo at *
  generalize hhi : upM s p = hi at *
  have HLO := Lib.hid hlo
  have HHI := Lib.hid hhi
  clear hlo hhi
  go_enter Try.func4, Try.ntmps4
  go_wp2_with fail
  refine HS.out.mono ?_
  rintro e w1 ⟨v, rfl, own⟩
  obtain ⟨A', c', rfl, hc', rd⟩ := own.rd
  have b0 := own.bel
  clear own
  go_wp2_with fail
  rw [HP.out]
  refine (margins_b rd (Below.refl _ _) HR.out hple).mono ?_
  rw [HLO.out, HHI.out]
  rintro e w2 ⟨rfl, b2⟩
  go_wp2_with fail
  refine (points_ok_b rd b2 ⟨HR.out, by omega, by omega⟩).mono ?_
  rintro e w3 ⟨rfl, b3⟩
  have tri : (lo ≤ m ∧ m ≤ hi ∧ ((s.length : Int) + ptsN s m == p) = true) ∨ (lo ≤ m ∧ hi < m ∧ ((s.length : Int) + ptsN s m == p) = false) ∨ (m < lo ∧ m < 40000 ∧ ((s.length : Int) + ptsN s m == p) = false) := by
    rcases Int.lt_or_le m lo with i1 | i1
    · exact .inr (.inr ⟨i1, by omega, by rw [beq_eq_false_iff_ne]; exact fun h => by have := (Im.1 h).1; omega⟩)
    · rcases Int.lt_or_le hi m with i2 | i2
      · exact .inr (.inl ⟨i1, i2, by rw [beq_eq_false_iff_ne]; exact fun h => by have := (Im.1 h).2; omega⟩)
      · exact .inl ⟨i1, i2, by rw [beq_iff_eq]; exact Im.2 ⟨i1, i2⟩⟩
  have ends : ((p : Int) == 0) = true ∧ (lo != -1000000) = false ∧ ((p : Int) == 2 * s.length) = false ∧ p < 2 * s.length ∨ ((p : Int) == 0) = false ∧ (hi != 1000000) = false ∧ ((p : Int) == 2 * s.length) = true ∧ 2 * s.length ≤ p ∨
      ((p : Int) == 0) = false ∧ True ∧ ((p : Int) == 2 * s.length) = false ∧ p < 2 * s.length := by
    by_cases h0 : p = 0
    · refine .inl ⟨by rw [beq_iff_eq]; omega, ?_, by rw [beq_eq_false_iff_ne]; omega, by omega⟩
      rw [bne_eq_false_iff_eq]; exact H0 h0
    · by_cases h1 : p = 2 * s.length
      · refine .inr (.inl ⟨by rw [beq_eq_false_iff_ne]; omega, ?_, by rw [beq_iff_eq]; omega, by omega⟩)
        rw [bne_eq_false_iff_eq]; exact H1 h1
      · exact .inr (.inr ⟨by rw [beq_eq_false_iff_ne]; omega, trivial, by rw [beq_eq_false_iff_ne]; omega, by omega⟩)
  clear Im H0 H1
  rcases tri with ⟨i1, i2, e1⟩ | ⟨i1, i2, e1⟩ | ⟨i1, i2, e1⟩
  all_goals
    go_wp2_with fail
    refine (points_ok_b rd b3 ⟨HR.out, by omega, by omega⟩).mono ?_
    rw [El.out]
    rintro e w4 ⟨rfl, b4⟩
    go_wp2_with fail
    refine (points_ok_b rd b4 ⟨HR.out, by omega, by omega⟩).mono ?_
    rw [Eu.out]
    rintro e w5 ⟨rfl, b5⟩
    clear q1 q2 q3 b2 b3 b4 lb1 lb2 HS
    rcases ends with ⟨f1, f2, f3, f4⟩ | ⟨f1, f2, f3, f4⟩ | ⟨f1, f2, f3, f4⟩
    · have HN := Lib.hid (Hnext f4)
      clear Hnext
      go_wp2_with fail
      rw [show (p : Int) + 1 = ((p + 1 : Nat) : Int) by omega]
      refine (margins_b rd b5 HR.out (by omega)).mono ?_
      rw [HN.out]
      rintro e w6 ⟨rfl, b6⟩
      go_wp2_with fail
      refine (awake_any _).mono ?_
      rintro e w7 ⟨rfl, b7⟩
      go_wp2_with fail
      go_ret
      exact ⟨rfl, b0.trans ((b6.trans (b7.mono b6.size)).mono b0.size)⟩
    · clear Hnext
      go_wp2_with fail
      refine (awake_any _).mono ?_
      rintro e w7 ⟨rfl, b7⟩
      go_wp2_with fail
      go_ret
      exact ⟨rfl, b0.trans ((b5.trans (b7.mono b5.size)).mono b0.size)⟩
    · have HN := Lib.hid (Hnext f4)
      clear Hnext
      go_wp2_with fail
      rw [show (p : Int) + 1 = ((p + 1 : Nat) : Int) by omega]
      refine (margins_b rd b5 HR.out (by omega)).mono ?_
      rw [HN.out]
      rintro e w6 ⟨rfl, b6⟩
      go_wp2_with fail
      refine (awake_any _).mono ?_
      rintro e w7 ⟨rfl, b7⟩
      go_wp2_with fail
      go_ret
      exact ⟨rfl, b0.trans ((b6.trans (b7.mono b6.size)).mono b0.size)⟩
end Go.Proofs.Ytknhdojciihjlaa
