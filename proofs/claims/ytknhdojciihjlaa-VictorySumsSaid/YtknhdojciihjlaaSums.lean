import Derived.Test.YtknhdojciihjlaaAwake
import Derived.Test.YtknhdojciihjlaaScale
import Derived.Test.YtknhdojciihjlaaLaw
namespace Go.Proofs.Ytknhdojciihjlaa
open Go.ChangeShapes Go.WideShapes Go.ChangeAt Go.RowKit

set_option maxRecDepth 100000 in
set_option maxHeartbeats 2000000 in
theorem sums_any (A : Option Addr) (c : Nat) (xs : List Int) (a b : Int) (w : World) (hx : Rd w w.heap.size A (ics .u8 xs)) (hc : xs.length ≤ c) (hm : c ≤ maxLen) (hbd : ∀ x ∈ xs, 0 ≤ x ∧ x ≤ 255)
    (ha1 : -32768 ≤ a) (ha2 : a ≤ 32767) (hb1 : -32768 ≤ b) (hb2 : b ≤ 32767) :
    Calls Try.prog 3 #[.slice A xs.length c, .int .i16 a, .int .i16 b] w fun e w' => e = .returned (.bool true) ∧ Below w.heap.size w w' := by
  have HS := Lib.hid (scale_any A c xs w hx hc hm hbd)
  obtain ⟨hR, hl⟩ := scaleS_right xs hbd
  clear hx hc hm hbd
  generalize scaleS xs = s at *
  obtain ⟨l1, l2⟩ := RightB_len hR
  have HR := Lib.hid hR
  have hq := ptsN_le s a
  have hq2 := ptsN_le s b
  have hfull := ptsN_full hR a
  have e1 := Lib.hid (ptsN_neg s a)
  have e2 := Lib.hid (ptsN_zero s)
  have hml := fun h : a ≤ b => ptsN_mono s h
  have hmg := fun h : b ≤ a => ptsN_mono s h
  have E1 := Lib.hid (show (s.length : Int) + ptsN s a + (s.length - ptsN s a) = 2 * s.length by omega)
  generalize hp : ptsN s a = p at *
  generalize hpb : ptsN s b = q at *
  have HP := Lib.hid hp
  have HQ := Lib.hid hpb
  clear hp hpb hR
  obtain ⟨p1, p2⟩ := hq
  obtain ⟨q1, q2⟩ := hq2
  go_enter Try.func3, Try.ntmps3
  go_wp2_with fail
  refine HS.out.mono ?_
  rintro e w1 ⟨v, rfl, own⟩
  obtain ⟨A', c', rfl, hc', rd⟩ := own.rd
  have b0 := own.bel
  clear own
  obtain ⟨b', o', rfl, hlt, hcell⟩ := rd.int (by omega)
  have hg := Lib.hid (hcell (s.length - 1) (by omega))
  clear hcell
  generalize s.getD (s.length - 1) 0 = last at *
  go_wp2_with fail
  refine (points_ok_b rd (Below.refl _ _) ⟨HR.out, by omega, by omega⟩).mono ?_
  rw [HP.out]
  rintro e w2 ⟨rfl, b2⟩
  go_wp2_with fail
  refine (points_ok_b rd b2 ⟨HR.out, by omega, by omega⟩).mono ?_
  rw [HQ.out]
  rintro e w3 ⟨rfl, b3⟩
  go_wp2_with fail
  refine (points_ok_b rd b3 ⟨HR.out, by omega, by omega⟩).mono ?_
  rw [e1.out]
  rintro e w4 ⟨rfl, b4⟩
  go_wp2_with fail
  refine (points_ok_b rd b4 ⟨HR.out, by omega, by omega⟩).mono ?_
  rw [e2.out]
  rintro e w5 ⟨rfl, b5⟩
  have hg5 := (bcell b5 b' _ hlt).trans hg.out
  by_cases hla : last ≤ a
  · have hpl : p = s.length := hfull.2 hla
    have t1 : ((s.length : Int) + p == 2 * s.length) = true := by rw [beq_iff_eq]; omega
    have HPL := Lib.hid hpl
    clear hpl hfull
    go_wp2_with fail
    all_goals
      refine (awake_any _).mono ?_
      rintro e w6 ⟨rfl, b6⟩
      go_wp2_with fail
      go_ret
      exact ⟨rfl, b0.trans ((b5.trans (b6.mono b5.size)).mono b0.size)⟩
  · have hpl : ¬ p = s.length := fun h => hla (hfull.1 h)
    have t1 : ((s.length : Int) + p == 2 * s.length) = false := by rw [beq_eq_false_iff_ne]; omega
    have HPL := Lib.hid hpl
    clear hpl hfull
    go_wp2_with fail
    all_goals
      refine (awake_any _).mono ?_
      rintro e w6 ⟨rfl, b6⟩
      go_wp2_with fail
      go_ret
      exact ⟨rfl, b0.trans ((b5.trans (b6.mono b5.size)).mono b0.size)⟩
end Go.Proofs.Ytknhdojciihjlaa
