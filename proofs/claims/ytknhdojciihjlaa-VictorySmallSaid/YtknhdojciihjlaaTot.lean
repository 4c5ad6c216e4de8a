import Derived.Test.YtknhdojciihjlaaPts
import Derived.Test.YtknhdojciihjlaaWalk2
namespace Go.Proofs.Ytknhdojciihjlaa
open Go.ChangeShapes Go.WideShapes Go.ChangeAt Go.RowKit

theorem points_ok_b {A : Option Addr} {c : Nat} {xs : List Int} {m : Int} {w w1 : World} (h : Rd w w.heap.size A (ics .i64 xs)) (hb : Below w.heap.size w w1) (hk : PtsOk xs m) :
    Calls Try.prog 10 #[.slice A xs.length c, .int .i64 m] w1 fun e w' =>
      e = .returned (.tuple #[.int .i64 (xs.length + ptsN xs m), .int .i64 (xs.length - ptsN xs m), .int .i64 0]) ∧ Below w.heap.size w w' :=
  (points_ok A c xs m w1 (h.keep hb hb.size) hk).mono fun _ _ ⟨he, h'⟩ => ⟨he, hb.trans (h'.mono hb.size)⟩
theorem points_bad_b {A : Option Addr} {c : Nat} {xs : List Int} {m : Int} {w w1 : World} (h : Rd w w.heap.size A (ics .i64 xs)) (hb : Below w.heap.size w w1) (hk : RightB xs = false ∨ m < -1000000 ∨ 1000000 < m) :
    Calls Try.prog 10 #[.slice A xs.length c, .int .i64 m] w1 fun e w' =>
      e = .returned (.tuple #[.int .i64 0, .int .i64 0, .int .i64 2]) ∧ Below w.heap.size w w' :=
  (points_bad A c xs m w1 (h.keep hb hb.size) hk).mono fun _ _ ⟨he, h'⟩ => ⟨he, hb.trans (h'.mono hb.size)⟩

theorem total_wrong (A B : Option Addr) (c d : Nat) (xs ms : List Int) (w : World) (h : Rd w w.heap.size A (ics .i64 xs)) (hR : RightB xs = false) :
    Calls Try.prog 17 #[.slice A xs.length c, .slice B ms.length d] w fun e w' => e = .returned (.tuple #[.int .i64 0, .int .i64 0, .int .i64 2]) ∧ Below w.heap.size w w' := by
  have h' := Lib.hid h
  clear h
  go_enter Try.func17, Try.ntmps17
  go_wp2_with fail
  refine (right_any _ _ _ _ h'.out).mono ?_
  rintro e w' ⟨rfl, rfl⟩
  go_wp2_with fail
  go_ret3
  exact ⟨rfl, Below.refl _ _⟩

def totRes (xs ms : List Int) : Value :=
  if ms.all mOk = true then .tuple #[.int .i64 ((xs.length * ms.length : Nat) + totN xs ms), .int .i64 ((xs.length * ms.length : Nat) - totN xs ms), .int .i64 0] else .tuple #[.int .i64 0, .int .i64 0, .int .i64 2]
theorem totRes_ok {xs ms : List Int} (h : ms.all mOk = true) : totRes xs ms = .tuple #[.int .i64 ((xs.length * ms.length : Nat) + totN xs ms), .int .i64 ((xs.length * ms.length : Nat) - totN xs ms), .int .i64 0] := if_pos h
theorem totRes_bad {xs ms : List Int} (h : ¬ ms.all mOk = true) : totRes xs ms = .tuple #[.int .i64 0, .int .i64 0, .int .i64 2] := if_neg h

set_option maxHeartbeats 1000000 in
theorem total_any (A B : Option Addr) (c d : Nat) (xs ms : List Int) (w : World) (h : Rd w w.heap.size A (ics .i64 xs)) (hM : Rd w w.heap.size B (ics .i64 ms)) (hR : RightB xs = true) (hl : ms.length ≤ 1000000) :
    Calls Try.prog 17 #[.slice A xs.length c, .slice B ms.length d] w fun e w' =>
      e = .returned (totRes xs ms) ∧ Below w.heap.size w w' := by
  have H := Lib.hid h
  have HM := Lib.hid hM
  obtain ⟨l1, l2⟩ := RightB_len hR
  clear h hM
  go_enter Try.func17, Try.ntmps17
  go_wp2_with fail
  refine (right_any _ _ _ _ H.out).mono ?_
  rintro e w' ⟨rfl, rfl⟩
  go_wp2_with fail
  go_loopw [7, 8, 19] (fun a b i wr => ∃ k : Nat, k ≤ ms.length ∧ i = .int .i64 k ∧ Hid ((ms.take k).all mOk = true) ∧ a = .int .i64 ((xs.length * k : Nat) + totN xs (ms.take k)) ∧ b = .int .i64 ((xs.length * k : Nat) - totN xs (ms.take k)) ∧ Below w.heap.size w wr) (fun _ _ i _ => ms.length - (intOf i).toNat)
  case atStart => exact ⟨0, Nat.zero_le _, rfl, rfl, by simp [totN], by simp [totN], Below.refl _ _⟩
  case round =>
    obtain ⟨k, hk, rfl, hall, rfl, rfl, hb⟩ := hrel
    have hbd := totN_bd xs (ms.take k) l2
    have hln : (ms.take k).length = k := by rw [List.length_take]; omega
    rw [hln] at hbd
    have mb := mul_bd l2 (show k ≤ 1000000 by omega)
    clear hln
    by_cases hlt : k < ms.length
    · obtain ⟨b, off, rfl, hbb, hc2⟩ := HM.out.int (by omega)
      have g1 := (bcell hb b (off + k) hbb).trans (hc2 k (by omega))
      have HT := Lib.hid (show ms.take (k + 1) = ms.take k ++ [ms.getD k 0] from take_succ_getD ms k (by omega))
      have HMem := Lib.hid (show ms.getD k 0 ∈ ms by rw [List.getD_eq_getElem?_getD, List.getElem?_eq_getElem (by omega)]; simp)
      generalize ms.getD k 0 = m at *
      clear hc2
      have HN := Lib.hid (totN_snoc xs (ms.take k) m)
      have hpl := ptsN_le xs m
      have HS := Lib.hid (mul_succ_int xs.length k)
      generalize totN xs (ms.take k) = tn at *
      generalize xs.length * k = nk at *
      by_cases hok : mOk m = true
      · have hp : PtsOk xs m := by simp [mOk] at hok; exact ⟨hR, hok.1, hok.2⟩
        have HOK := Lib.hid hok
        have HP := Lib.hid hp
        clear hok hp
        go_wp2_with fail
        refine (points_ok_b H.out hb HP.out).mono ?_
        rintro e w' ⟨rfl, hb'⟩
        go_wp2_with fail
        go_roundw
        case rel =>
          refine ⟨k + 1, by omega, by go_num, ?_, ?_, ?_, hb'⟩
          · rw [Hid, HT.out, List.all_append, hall.out]; simp [HOK.out]
          · rw [HT.out, HN.out, HS.out]; congr 1; omega
          · rw [HT.out, HN.out, HS.out]; congr 1; omega
        case measure => simp [intOf]; omega
      · have hp : RightB xs = false ∨ m < -1000000 ∨ 1000000 < m := by
          simp [mOk] at hok
          right
          rcases Int.lt_or_le m (-1000000) with h | h
          · exact .inl h
          · exact .inr (hok h)
        have HA : Hid (¬ ms.all mOk = true) := by
          intro e
          rw [List.all_eq_true] at e
          exact hok (e m HMem.out)
        have HP := Lib.hid hp
        clear hok hp
        go_wp2_with fail
        refine (points_bad_b H.out hb HP.out).mono ?_
        rintro e w' ⟨rfl, hb'⟩
        go_wp2_with fail
        go_ret3
        exact ⟨by rw [totRes_bad HA.out]; rfl, hb'⟩
    · obtain rfl : k = ms.length := by omega
      rw [List.take_length] at *
      go_wp2
      go_ret3
      exact ⟨by rw [totRes_ok hall.out]; rfl, hb⟩
end Go.Proofs.Ytknhdojciihjlaa
