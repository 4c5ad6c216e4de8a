import Derived.Test.YtknhdojciihjlaaAwake
import Derived.Test.YtknhdojciihjlaaLawU
namespace Go.Proofs.Ytknhdojciihjlaa
open Go.ChangeShapes Go.WideShapes Go.ChangeAt Go.RowKit

theorem right_num {A : Option Addr} {c n : Nat} {xs : List Int} {w : World} {r : Bool} (h : Rd w w.heap.size A (ics .i64 xs)) (hn : xs.length = n) (hr : RightB xs = r) :
    Calls Try.prog 14 #[.slice A n c] w fun e w' => e = .returned (.bool r) ∧ w = w' := by
  subst hn
  rw [← hr]
  exact right_any A c xs w h

set_option maxRecDepth 100000 in
set_option maxHeartbeats 4000000 in
theorem usl_any (nn n : Nat) (w : World) (hn : nn ≤ 255) (hN : 1 + (nn : Int) % 128 = n) (h1 : 1 ≤ n) (h2 : n ≤ 128) :
    Calls Try.prog 5 #[.int .u8 nn] w fun e w' => e = .returned (.bool true) ∧ Below w.heap.size w w' := by
  have HN := Lib.hid hN
  clear hN
  have hR := Lib.hid (us_right h1 h2)
  have hS := Lib.hid (us_len n 10)
  go_enter Try.func5, Try.ntmps5
  go_wp2_with fail
  rw [HN.out]
  refine (usual_ok n _ h1 h2).mono ?_
  rintro e w1 ⟨v1, rfl, own1⟩
  obtain ⟨A1, c1, rfl, hc1, rd1⟩ := own1.rd
  have b1 := own1.bel
  obtain ⟨g1, o1, rfl, hlt1, hcell1⟩ := rd1.int (by rw [us_len]; omega)
  have C1 := Lib.hid hcell1
  clear own1 hcell1
  go_wp2_with fail
  refine (right_num rd1 hS.out hR.out).mono ?_
  rintro e w' ⟨rfl, rfl⟩
  go_wp2_with fail
  go_loop [38] (fun i => ∃ k : Nat, k ≤ 10 ∧ i = .int .i64 k) (fun i => 10 - (intOf i).toNat)
  case atStart => exact ⟨0, by omega, rfl⟩
  case round =>
    obtain ⟨k, hk, rfl⟩ := hrel
    by_cases hlt : k < 10
    · have g := C1.out k (by rw [hS.out]; exact hlt)
      rw [us_get n 10 k hlt] at g
      obtain ⟨t1, t2⟩ := us_test h1 h2 hlt
      have lp := lst_pos (tk n (k + 1))
      have ll := lst_le (tk n (k + 1))
      obtain ⟨n3, n4⟩ := nine_int hlt
      have tki := tk_int n k
      have tkl := tk_le h2 (show k + 1 ≤ 10 by omega)
      have n5 : (0 : Int) ≤ 9 * ((k : Int) + 1) * ((k : Int) + 1) * n := by omega
      have n6 : (9 : Int) * ((k : Int) + 1) * ((k : Int) + 1) * n ≤ 115200 := by omega
      clear tki tkl
      generalize lst (tk n (k + 1)) = m at *
      obtain ⟨s1, s2⟩ := sq_int' (m := (m : Int)) (by omega) (by omega)
      obtain ⟨s3, s4⟩ := sq_int' (m := (m : Int) - 1) (by omega) (by omega)
      go_wp2_with fail
      go_round
      case rel => exact ⟨k + 1, by omega, by go_num⟩
      case measure => simp [intOf]; omega
    · obtain rfl : k = 10 := by omega
      by_cases h3 : n < 128
      · go_wp2_with fail
        rw [show (n : Int) + 1 = ((n + 1 : Nat) : Int) by omega]
        refine (usual_ok (n + 1) _ (by omega) (by omega)).mono ?_
        rintro e w2 ⟨v2, rfl, own2⟩
        obtain ⟨A2, c2, rfl, hc2, rd2⟩ := own2.rd
        have b2 := b1.trans (own2.bel.mono b1.size)
        have rd1' := rd1.now own2.bel
        obtain ⟨g2, o2, rfl, hlt2, hcell2⟩ := rd2.int (by rw [us_len]; omega)
        obtain ⟨g1', o1', hgo, hlt1', hcell1⟩ := rd1'.int (by rw [us_len]; omega)
        simp only [Option.some.injEq, Addr.mk.injEq, and_true] at hgo
        obtain ⟨rfl, rfl⟩ := hgo
        have C2 := Lib.hid hcell2
        have C1' := Lib.hid hcell1
        clear own2 hcell2 hcell1 C1
        go_wp2_with fail
        go_loopw [91] (fun i wr => ∃ k : Nat, k ≤ 10 ∧ i = .int .i64 k ∧ Qt w2 wr) (fun i _ => 10 - (intOf i).toNat)
        case atStart => exact ⟨0, by omega, rfl, Qt.refl _⟩
        case round =>
          obtain ⟨k, hk, rfl, hq⟩ := hrel
          by_cases hlt : k < 10
          · have g := (hq.cell _).trans (C1'.out k (by rw [us_len]; exact hlt))
            have g' := (hq.cell _).trans (C2.out k (by rw [us_len]; exact hlt))
            rw [us_get n 10 k hlt] at g
            rw [us_get (n + 1) 10 k hlt] at g'
            have hm := us_more h3 hlt
            have lp := lst_le (tk n (k + 1))
            generalize lst (tk n (k + 1)) = m at *
            generalize lst (tk (n + 1) (k + 1)) = m' at *
            go_wp2_with fail
            go_quiet (fail)
            go_wp2_with fail
            go_roundw
            case rel => exact ⟨k + 1, by omega, by go_num, hq.drewN nq⟩
            case measure => simp [intOf]; omega
          · obtain rfl : k = 10 := by omega
            have bq := b2.trans (hq.below _)
            by_cases h4 : n ≤ 32
            · go_wp2_with fail
              rw [show 4 * (n : Int) = ((4 * n : Nat) : Int) by omega]
              refine (usual_ok (4 * n) _ (by omega) (by omega)).mono ?_
              rintro e w3 ⟨v3, rfl, own3⟩
              obtain ⟨A3, c3, rfl, hc3, rd3⟩ := own3.rd
              have b3 := bq.trans (own3.bel.mono bq.size)
              have rd1'' := (rd1'.qtn hq).now own3.bel
              obtain ⟨g3, o3, rfl, hlt3, hcell3⟩ := rd3.int (by rw [us_len]; omega)
              obtain ⟨g1', o1', hgo, hlt1', hcell1⟩ := rd1''.int (by rw [us_len]; omega)
              simp only [Option.some.injEq, Addr.mk.injEq, and_true] at hgo
              obtain ⟨rfl, rfl⟩ := hgo
              have C3 := Lib.hid hcell3
              have C1'' := Lib.hid hcell1
              clear own3 hcell3 hcell1 C1' C2
              go_wp2_with fail
              go_loopw [123] (fun i wr => ∃ k : Nat, k ≤ 10 ∧ i = .int .i64 k ∧ Qt w3 wr) (fun i _ => 10 - (intOf i).toNat)
              case atStart => exact ⟨0, by omega, rfl, Qt.refl _⟩
              case round =>
                obtain ⟨k, hk, rfl, hq3⟩ := hrel
                by_cases hlt : k < 10
                · have g := (hq3.cell _).trans (C1''.out k (by rw [us_len]; exact hlt))
                  have g' := (hq3.cell _).trans (C3.out k (by rw [us_len]; exact hlt))
                  rw [us_get n 10 k hlt] at g
                  rw [us_get (4 * n) 10 k hlt] at g'
                  obtain ⟨f1, f2⟩ := (us_facts h1 h2 hlt).2 h4
                  have lp := lst_le (tk n (k + 1))
                  generalize lst (tk n (k + 1)) = m at *
                  generalize lst (tk (4 * n) (k + 1)) = m' at *
                  have d1 : decide (2 * (m : Int) < (m' : Int)) = false := by simp only [decide_eq_false_iff_not]; omega
                  have d2 : decide ((m' : Int) ≤ 2 * (m : Int) - 2) = false := by simp only [decide_eq_false_iff_not]; omega
                  go_wp2_with fail
                  go_quiet (fail)
                  go_wp2_with fail
                  go_roundw
                  case rel => exact ⟨k + 1, by omega, by go_num, hq3.drewN nq⟩
                  case measure => simp [intOf]; omega
                · obtain rfl : k = 10 := by omega
                  have b4 := b3.trans (hq3.below _)
                  go_wp2_with fail
                  refine (awake_any _).mono ?_
                  rintro e w7 ⟨rfl, b7⟩
                  go_wp2_with fail
                  go_ret
                  exact ⟨rfl, b4.trans (b7.mono b4.size)⟩
            · go_wp2_with fail
              refine (awake_any _).mono ?_
              rintro e w7 ⟨rfl, b7⟩
              go_wp2_with fail
              go_ret
              exact ⟨rfl, bq.trans (b7.mono bq.size)⟩
      · go_wp2_with fail
        refine (awake_any _).mono ?_
        rintro e w7 ⟨rfl, b7⟩
        go_wp2_with fail
        go_ret
        exact ⟨rfl, b1.trans (b7.mono b1.size)⟩
end Go.Proofs.Ytknhdojciihjlaa
