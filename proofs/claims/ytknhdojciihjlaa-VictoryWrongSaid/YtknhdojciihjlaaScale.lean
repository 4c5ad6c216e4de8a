import Derived.Test.YtknhdojciihjlaaWalk2
namespace Go.Proofs.Ytknhdojciihjlaa
open Go.ChangeShapes Go.WideShapes Go.ChangeAt Go.RowKit

set_option maxHeartbeats 1000000 in
theorem scale_any (A : Option Addr) (c : Nat) (xs : List Int) (w : World) (hx : Rd w w.heap.size A (ics .u8 xs)) (hc : xs.length ≤ c) (hm : c ≤ maxLen) (hbd : ∀ x ∈ xs, 0 ≤ x ∧ x ≤ 255) :
    Calls Try.prog 9 #[.slice A xs.length c] w fun e w' => ∃ v, e = .returned v ∧ Own w w' 3 1 v (scaleS xs).length (ics .i64 (scaleS xs)) := by
  unfold maxLen at hm
  have HX := Lib.hid hx
  clear hx
  by_cases h50 : xs.length ≤ 50
  · go_enter Try.func9, Try.ntmps9
    go_wp2
    go_loopw [3, 4, 14] (fun out last i wr => ∃ k : Nat, k ≤ xs.length ∧ i = .int .i64 k ∧ last = .int .i64 (lastOf 0 (xs.take k)) ∧ Own w wr 3 1 out k (ics .i64 (runs 0 (xs.take k)))) (fun _ _ i _ => xs.length - (intOf i).toNat)
    case atStart => exact ⟨0, Nat.zero_le _, rfl, rfl, Own.built w 3 0 [] (Below.refl _ _) rfl (by omega)⟩
    case round =>
      obtain ⟨k, hk, rfl, rfl, hown⟩ := hrel
      have hbd2 := lastOf_bd (xs.take k) 0 (fun x hx => hbd x (List.mem_of_mem_take hx))
      have hln : (xs.take k).length = k := by rw [List.length_take]; omega
      obtain ⟨bd1, bd2⟩ := hbd2
      rw [hln] at bd2
      have HLN := Lib.hid hln
      clear hln
      by_cases hlt : k < xs.length
      · obtain ⟨b, off, rfl, hb, hc2⟩ := HX.out.int (by omega)
        have g1 := (bcell hown.bel b (off + k) hb).trans (hc2 k (by omega))
        have gb := hbd (xs.getD k 0) (by rw [List.getD_eq_getElem?_getD, List.getElem?_eq_getElem (by omega)]; simp)
        have HT := Lib.hid (show xs.take (k + 1) = xs.take k ++ [xs.getD k 0] from take_succ_getD xs k (by omega))
        generalize xs.getD k 0 = x at *
        obtain ⟨gb1, gb2⟩ := gb
        clear hc2 hbd
        go_wp2_with (at_builtin; refine ap_one rfl (.tmp 23) (.tmp 25) 24 rfl eInt [.int .i64 (lastOf 0 (xs.take k) + (1 + x))] hown rfl rfl rfl (by simp [Value.oneCell']) (by omega) ?_; intro v' w' hown' hsz)
        go_roundw
        case rel => exact ⟨k + 1, by omega, by go_num, by rw [HT.out, lastOf_snoc], by rw [HT.out, runs_snoc, ics, List.map_append]; exact hown'⟩
        case measure => simp [intOf]; omega
      · obtain rfl : k = xs.length := by omega
        by_cases h0 : xs.length = 0
        · have ez : xs = [] := List.eq_nil_of_length_eq_zero h0
          have HS : Hid (scaleS xs = [1]) := by simp [Hid, scaleS, ez]
          have t0 : ((xs.length : Int) == 0) = true := by rw [beq_iff_eq]; omega
          obtain ⟨A', c', rfl, hc', hrd⟩ := hown.rd
          go_wp2
          go_ret
          refine ⟨_, rfl, ?_⟩
          rw [HS.out]
          exact Own.built w 3 1 [.int .i64 1] hown.bel rfl (by omega)
        · have HS : Hid (scaleS xs = runs 0 (xs.take 50)) := by
            have : xs ≠ [] := fun e => h0 (by rw [e]; rfl)
            simp [Hid, scaleS, this]
          obtain ⟨A', c', rfl, hc', hrd⟩ := hown.rd
          have t0 : ((xs.length : Int) == 0) = false := by rw [beq_eq_false_iff_ne]; omega
          go_wp2
          go_ret
          refine ⟨_, rfl, ?_⟩
          have e1 : (runs 0 (xs.take 50)).length = xs.length := by rw [runs_len, List.length_take]; omega
          rw [HS.out, e1]
          rw [List.take_of_length_le (Nat.le_refl _)] at hown
          rw [List.take_of_length_le h50]
          exact hown
  · go_enter Try.func9, Try.ntmps9
    go_wp2
    go_loopw [3, 4, 14] (fun out last i wr => ∃ k : Nat, k ≤ 50 ∧ i = .int .i64 k ∧ last = .int .i64 (lastOf 0 (xs.take k)) ∧ Own w wr 3 1 out k (ics .i64 (runs 0 (xs.take k)))) (fun _ _ i _ => 50 - (intOf i).toNat)
    case atStart => exact ⟨0, Nat.zero_le _, rfl, rfl, Own.built w 3 0 [] (Below.refl _ _) rfl (by omega)⟩
    case round =>
      obtain ⟨k, hk, rfl, rfl, hown⟩ := hrel
      have hbd2 := lastOf_bd (xs.take k) 0 (fun x hx => hbd x (List.mem_of_mem_take hx))
      have hln : (xs.take k).length = k := by rw [List.length_take]; omega
      obtain ⟨bd1, bd2⟩ := hbd2
      rw [hln] at bd2
      have HLN := Lib.hid hln
      clear hln
      by_cases hlt : k < 50
      · obtain ⟨b, off, rfl, hb, hc2⟩ := HX.out.int (by omega)
        have g1 := (bcell hown.bel b (off + k) hb).trans (hc2 k (by omega))
        have gb := hbd (xs.getD k 0) (by rw [List.getD_eq_getElem?_getD, List.getElem?_eq_getElem (by omega)]; simp)
        have HT := Lib.hid (show xs.take (k + 1) = xs.take k ++ [xs.getD k 0] from take_succ_getD xs k (by omega))
        generalize xs.getD k 0 = x at *
        obtain ⟨gb1, gb2⟩ := gb
        clear hc2 hbd
        go_wp2_with (at_builtin; refine ap_one rfl (.tmp 23) (.tmp 25) 24 rfl eInt [.int .i64 (lastOf 0 (xs.take k) + (1 + x))] hown rfl rfl rfl (by simp [Value.oneCell']) (by omega) ?_; intro v' w' hown' hsz)
        go_roundw
        case rel => exact ⟨k + 1, by omega, by go_num, by rw [HT.out, lastOf_snoc], by rw [HT.out, runs_snoc, ics, List.map_append]; exact hown'⟩
        case measure => simp [intOf]; omega
      · obtain rfl : k = 50 := by omega
        by_cases h0 : xs.length = 0
        · have ez : xs = [] := List.eq_nil_of_length_eq_zero h0
          have HS : Hid (scaleS xs = [1]) := by simp [Hid, scaleS, ez]
          omega
        · have HS : Hid (scaleS xs = runs 0 (xs.take 50)) := by
            have : xs ≠ [] := fun e => h0 (by rw [e]; rfl)
            simp [Hid, scaleS, this]
          obtain ⟨A', c', rfl, hc', hrd⟩ := hown.rd
          skip
          go_wp2
          go_ret
          refine ⟨_, rfl, ?_⟩
          have e1 : (runs 0 (xs.take 50)).length = 50 := by rw [runs_len, List.length_take]; omega
          rw [HS.out, e1]
          exact hown
end Go.Proofs.Ytknhdojciihjlaa
