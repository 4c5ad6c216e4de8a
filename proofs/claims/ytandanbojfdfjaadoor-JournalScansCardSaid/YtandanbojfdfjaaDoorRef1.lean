import Derived.Test.YtandanbojfdfjaaDoorTexts
namespace Go.Proofs.YtandanbojfdfjaaDoor
open Go.ChangeShapes Go.WideShapes Go.ChangeAt Go.RowKit

/-! The reference -/
theorem all_snoc (s : ByteArray) (k : Nat) (h : k < s.size) : (s.data.toList.take (k + 1)).all okc = ((s.data.toList.take k).all okc && okc s[k]) := by
  rw [take_snoc s k h]; simp
theorem okc_iff (c : UInt8) : okc c = true ↔ 32 ≤ c.toNat ∧ c.toNat ≤ 126 := by unfold okc; simp
theorem rec_of_all {l : Bs} (h : l.all okc = true) : recB l = decide (l.length ≤ 200) := by unfold recB; rw [h, Bool.and_true]
theorem rec_not {l : Bs} {k : Nat} (h : (l.take k).all okc = false) : recB l = false := by
  unfold recB
  have : l.all okc = false := by
    rw [Bool.eq_false_iff]
    intro ht
    rw [List.all_eq_true] at ht
    rw [Bool.eq_false_iff] at h
    exact h (List.all_eq_true.2 fun c hc => ht c (List.mem_of_mem_take hc))
  rw [this, Bool.and_false]

set_option maxHeartbeats 1000000 in
theorem Rec_ref (s : ByteArray) (w : World) (hs : s.size ≤ maxLen) : Calls Tryd.prog 53 #[.string s] w fun e w' => e = .returned (.bool (recB s.data.toList)) ∧ w = w' := by
  unfold maxLen at hs
  go_enter Tryd.func53, Tryd.ntmps53
  go_wp2_with fail
  go_loopw [3] (fun i wr => ∃ k : Nat, k ≤ s.size ∧ i = .int .i64 k ∧ Hid ((s.data.toList.take k).all okc = true) ∧ wr = w) (fun i _ => s.size - (intOf i).toNat)
  case atStart => exact ⟨0, Nat.zero_le _, rfl, Lib.hid rfl, rfl⟩
  case round =>
    obtain ⟨k, hk, rfl, hA, rfl⟩ := hrel
    by_cases hlt : k < s.size
    · have HS := Lib.hid (all_snoc s k hlt)
      have hc := okc_iff s[k]
      by_cases ho : okc s[k] = true
      · obtain ⟨h1, h2⟩ := hc.1 ho
        have b1 : decide ((s[k].toNat : Int) < 32) = false := decide_eq_false (by omega)
        have b2 : decide ((s[k].toNat : Int) > 126) = false := decide_eq_false (by omega)
        have HO := Lib.hid ho
        clear hc ho h1 h2
        go_wp2_with fail
        go_roundw
        case rel => exact ⟨k + 1, by omega, by go_num, Lib.hid (by rw [HS.out, hA.out, HO.out]; rfl), trivial⟩
        case measure => simp [intOf]; omega
      · have HN : Hid (recB s.data.toList = false) := Lib.hid (rec_not (k := k + 1) (by rw [HS.out, hA.out]; simpa using ho))
        have ho' : ¬ (32 ≤ s[k].toNat ∧ s[k].toNat ≤ 126) := fun h => ho (hc.2 h)
        by_cases hl : s[k].toNat < 32
        · have b1 : decide ((s[k].toNat : Int) < 32) = true := decide_eq_true (by omega)
          clear hc ho ho'
          go_wp2_with fail
          go_ret
          exact ⟨ret_bool HN.out.symm, rfl⟩
        · have b1 : decide ((s[k].toNat : Int) < 32) = false := decide_eq_false (by omega)
          have b2 : decide ((s[k].toNat : Int) > 126) = true := decide_eq_true (by omega)
          clear hc ho ho' hl
          go_wp2_with fail
          go_ret
          exact ⟨ret_bool HN.out.symm, rfl⟩
    · obtain rfl : k = s.size := by omega
      have hall : s.data.toList.all okc = true := by
        have h := hA.out
        rwa [List.take_of_length_le (by rw [len_toList]; omega)] at h
      have HR := Lib.hid (rec_of_all hall)
      rw [len_toList] at HR
      clear hall
      go_wp2_with fail
      go_ret
      exact ⟨ret_bool (by rw [HR.out]; simp; omega), rfl⟩

theorem quo_mod (m : Nat) : (m : Int) - (m : Int) / 9973 * 9973 = ((m % 9973 : Nat) : Int) := by omega

set_option maxHeartbeats 2000000 in
theorem Chk_ref (x : Int) (s : ByteArray) (w : World) (hl : -(2^63) ≤ x) (hh : x < 2^63) (hs : s.size ≤ maxLen) :
    Calls Tryd.prog 29 #[.int .i64 x, .string s] w fun e w' => e = .returned (.tuple #[.int .i64 (chkR x s.data.toList).1, .int .i64 (chkR x s.data.toList).2]) ∧ w = w' := by
  have HR := Lib.hid (Rec_ref s w hs)
  rcases wrg_cases x s.data.toList with h2 | h422 | ⟨h0, hx0, hx1, hrc⟩
  · have hc : chkR x s.data.toList = (0, 2) := by unfold chkR; rw [h2]; rfl
    rw [hc]
    have hx : x < 0 ∨ 9973 ≤ x := by
      unfold wrg at h2
      by_cases h : x < 0 ∨ 9973 ≤ x
      · exact h
      · rw [if_neg h] at h2; split at h2 <;> simp at h2
    clear h2 hc HR
    rcases hx with hx | hx
    · have b1 : decide (x < 0) = true := decide_eq_true hx
      go_enter Tryd.func29, Tryd.ntmps29
      go_wp2_with fail
      go_ret2
      exact ⟨rfl, rfl⟩
    · have b1 : decide (x < 0) = false := decide_eq_false (by omega)
      have b2 : decide (x > 9972) = true := decide_eq_true (by omega)
      go_enter Tryd.func29, Tryd.ntmps29
      go_wp2_with fail
      go_ret2
      exact ⟨rfl, rfl⟩
  · have hc : chkR x s.data.toList = (0, 422) := by unfold chkR; rw [h422]; rfl
    rw [hc]
    have hx : 0 ≤ x ∧ x < 9973 ∧ recB s.data.toList = false := by
      unfold wrg at h422
      by_cases h : x < 0 ∨ 9973 ≤ x
      · rw [if_pos h] at h422; simp at h422
      · rw [if_neg h] at h422
        refine ⟨by omega, by omega, ?_⟩
        cases hr : recB s.data.toList with
        | false => rfl
        | true => rw [hr] at h422; simp at h422
    obtain ⟨hx0, hx1, hrc⟩ := hx
    rw [hrc] at HR
    have b1 : decide (x < 0) = false := decide_eq_false (by omega)
    have b2 : decide (x > 9972) = false := decide_eq_false (by omega)
    clear h422 hc hrc
    go_enter Tryd.func29, Tryd.ntmps29
    go_wp2_with fail
    refine HR.out.mono ?_
    rintro e w' ⟨rfl, rfl⟩
    go_wp2_with fail
    go_ret2
    exact ⟨rfl, rfl⟩
  · obtain ⟨n, rfl⟩ := Int.eq_ofNat_of_zero_le hx0
    have hc : chkR (n : Int) s.data.toList = (chk n s.data.toList, 0) := by unfold chkR; rw [if_pos h0]; rfl
    rw [hc]
    rw [hrc] at HR
    have hn : n < 9973 := by omega
    have hsz : s.size ≤ 200 := by have := recB_le hrc; rwa [len_toList] at this
    have b1 : decide ((n : Int) < 0) = false := decide_eq_false (by omega)
    have b2 : decide ((n : Int) > 9972) = false := decide_eq_false (by omega)
    clear h0 hc hx0 hx1 hrc hs hl hh
    go_enter Tryd.func29, Tryd.ntmps29
    go_wp2_with fail
    refine HR.out.mono ?_
    rintro e w' ⟨rfl, rfl⟩
    clear HR
    go_wp2_with fail
    clear b1 b2
    go_loopw [6, 7] (fun y i wr => ∃ k : Nat, k ≤ s.size ∧ i = .int .i64 k ∧ y = .int .i64 (fol n (s.data.toList.take k)) ∧ wr = w) (fun _ i _ => s.size - (intOf i).toNat)
    case atStart => exact ⟨0, Nat.zero_le _, rfl, rfl, rfl⟩
    case round =>
      obtain ⟨k, hk, rfl, rfl, rfl⟩ := hrel
      have hf := fol_lt hn (s.data.toList.take k)
      by_cases hlt : k < s.size
      · have HS : Hid (fol n (s.data.toList.take (k + 1)) = (31 * fol n (s.data.toList.take k) + (s[k]).toNat) % 9973) := by
          rw [take_snoc s k hlt, fol_snoc]; rfl
        have hb : s[k].toNat < 256 := s[k].toNat_lt
        generalize fol n (s.data.toList.take k) = y at *
        go_wp2_with fail
        go_roundw
        case rel => exact ⟨k + 1, by omega, by go_num, by rw [HS.out]; first | exact congrArg (Value.int IntKind.i64) (by omega) | (simp; omega), trivial⟩
        case measure => simp [intOf]; omega
      · have hT : s.data.toList.take k = s.data.toList := List.take_of_length_le (by simp; omega)
        rw [hT] at hf ⊢
        clear hT
        have HC := Lib.hid (show chk n s.data.toList = (31 * fol n s.data.toList + s.size) % 9973 by unfold chk; rw [len_toList])
        generalize fol n s.data.toList = y at *
        go_wp2_with fail
        go_ret2
        refine ⟨?_, rfl⟩
        rw [HC.out]
        have : ∀ a b : Int, a = b → Ending.returned (.tuple #[.int .i64 a, .int .i64 0]) = .returned (.tuple #[.int .i64 b, .int .i64 ((0 : Nat) : Int)]) := by rintro a b rfl; rfl
        exact this _ _ (by omega)
end Go.Proofs.YtandanbojfdfjaaDoor
