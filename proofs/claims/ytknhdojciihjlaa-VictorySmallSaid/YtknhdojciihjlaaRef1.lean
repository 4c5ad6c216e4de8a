import Derived.Test.YtknhdojciihjlaaRows
import Derived.Test.YtknhdojciihjlaaPts
import Derived.Test.YtknhdojciihjlaaWalk2
import Derived.Test.YtknhdojciihjlaaLawR
namespace Go.Proofs.Ytknhdojciihjlaa
open Go.ChangeShapes Go.WideShapes Go.ChangeAt Go.RowKit

set_option maxHeartbeats 1000000 in
theorem rright_any (A : Option Addr) (c : Nat) (xs : List Int) (w : World) (h : Rd w w.heap.size A (ics .i64 xs)) (hm : xs.length ≤ 1000000) :
    Calls Try.prog 24 #[.slice A xs.length c] w fun e w' => e = .returned (.bool (RightB xs)) ∧ Qt w w' := by
  have H := Lib.hid h
  clear h
  by_cases h0 : 1 ≤ xs.length
  case neg =>
    have HS := Lib.hid (RightB_short xs h0)
    have t : ((xs.length : Int) == 0) = true := by rw [beq_iff_eq]; omega
    go_enter Try.func24, Try.ntmps24
    go_wp2
    go_ret
    exact ⟨ret_bool HS.out.symm, Qt.refl _⟩
  have t : ((xs.length : Int) == 0) = false := by rw [beq_eq_false_iff_ne]; omega
  by_cases h1 : xs.length ≤ 50
  case neg =>
    have HS := Lib.hid (RightB_long xs h1)
    go_enter Try.func24, Try.ntmps24
    go_wp2
    go_ret
    exact ⟨ret_bool HS.out.symm, Qt.refl _⟩
  obtain ⟨b, off, rfl, hb, hc⟩ := H.out.int (by omega)
  have HC := Lib.hid hc
  clear hc
  go_enter Try.func24, Try.ntmps24
  go_wp2
  go_loopw [3] (fun i wr => ∃ k : Nat, k ≤ xs.length ∧ i = .int .i64 k ∧ Hid (∀ j, j < k → PR xs j) ∧ Qt w wr) (fun i _ => xs.length - (intOf i).toNat)
  case atStart => exact ⟨0, by omega, rfl, fun j hj => by omega, Qt.refl _⟩
  case round =>
    obtain ⟨k, hk, rfl, hp, hq⟩ := hrel
    by_cases hlt : k < xs.length
    · have g := (hq.cell _).trans (HC.out k hlt)
      by_cases hx1 : xs.getD k 0 < 1
      · have HS := Lib.hid (RightB_no hlt (fun h => by have := h.1; omega))
        generalize xs.getD k 0 = x at *
        have d1 : decide (x < 1) = true := by simpa using hx1
        go_wp2
        go_quiet (fail)
        go_wp2
        go_ret
        exact ⟨ret_bool HS.out.symm, hq.drewN _⟩
      · by_cases hx2 : xs.getD k 0 ≤ 1000000
        · by_cases hk0 : k = 0
          · have HP : Hid (PR xs k) := ⟨by omega, by omega, by omega⟩
            generalize xs.getD k 0 = x at *
            have d1 : decide (x < 1) = false := by simp; omega
            have d2 : decide (1000000 < x) = false := by simp; omega
            subst hk0
            have g0 : wr.cell? ⟨b, off, none⟩ = some (.int .i64 x) := g
            clear g
            go_wp2
            go_quiet (fail)
            go_wp2
            go_roundw
            case rel => exact ⟨1, by omega, by go_num, fun j hj => by rw [show j = 0 by omega]; exact HP, hq.drewN nq⟩
            case measure => simp [intOf]; omega
          · have g' := (hq.cell _).trans (HC.out (k - 1) (by omega))
            have hk1 : 0 < k := by omega
            by_cases hlt2 : xs.getD (k - 1) 0 < xs.getD k 0
            · have HP : Hid (PR xs k) := ⟨by omega, by omega, fun _ => hlt2⟩
              generalize xs.getD k 0 = x at *
              generalize xs.getD (k - 1) 0 = y at *
              have d1 : decide (x < 1) = false := by simp; omega
              have d2 : decide (1000000 < x) = false := by simp; omega
              have d3 : decide (0 < k) = true := by simpa using hk1
              have d4 : decide (x ≤ y) = false := by simp; omega
              have e5 : IntKind.i64.wrap ((k : Int) - 1) = (k : Int) - 1 := IntWalk.i64_in _ (by omega)
              have e6 : ((k : Int) - 1).toNat = k - 1 := by omega
              have e7 : 1 ≤ k := by omega
              have e8 : k - 1 < xs.length := by omega
              go_wp2
              go_quiet (fail)
              go_wp2
              go_roundw
              case rel => exact ⟨k + 1, by omega, by go_num, (fun j hj => by
                rcases Nat.lt_or_ge j k with hjk | hjk
                · exact hp.out j hjk
                · rw [show j = k by omega]; exact HP), hq.drewN nq⟩
              case measure => simp [intOf]; omega
            · have HS := Lib.hid (RightB_no hlt (fun h => by have := h.2.2 hk1; omega))
              generalize xs.getD k 0 = x at *
              generalize xs.getD (k - 1) 0 = y at *
              have d1 : decide (x < 1) = false := by simp; omega
              have d2 : decide (1000000 < x) = false := by simp; omega
              have d3 : decide (0 < k) = true := by simpa using hk1
              have d4 : decide (x ≤ y) = true := by simp; omega
              have e5 : IntKind.i64.wrap ((k : Int) - 1) = (k : Int) - 1 := IntWalk.i64_in _ (by omega)
              have e6 : ((k : Int) - 1).toNat = k - 1 := by omega
              have e7 : 1 ≤ k := by omega
              have e8 : k - 1 < xs.length := by omega
              go_wp2
              go_quiet (fail)
              go_wp2
              go_ret
              exact ⟨ret_bool HS.out.symm, hq.drewN _⟩
        · have HS := Lib.hid (RightB_no hlt (fun h => by have := h.2.1; omega))
          generalize xs.getD k 0 = x at *
          have d1 : decide (x < 1) = false := by simp; omega
          have d2 : decide (1000000 < x) = true := by simp; omega
          go_wp2
          go_quiet (fail)
          go_wp2
          go_ret
          exact ⟨ret_bool HS.out.symm, hq.drewN _⟩
    · have HS := Lib.hid ((RightB_iff xs).2 ⟨h0, h1, fun j hj => hp.out j (by omega)⟩)
      go_wp2
      go_ret
      exact ⟨ret_bool HS.out.symm, hq⟩

set_option maxHeartbeats 1000000 in
theorem rusual_ok (n : Nat) (w : World) (h1 : 1 ≤ n) (h2 : n ≤ 128) :
    Calls Try.prog 15 #[.int .i64 n] w fun e w' => ∃ v, e = .returned (.tuple #[v, .int .i64 0]) ∧ Own w w' 3 1 v 10 (ics .i64 (us n 10)) := by
  go_enter Try.func15, Try.ntmps15
  go_wp2
  go_loopw [4, 5] (fun out k wr => ∃ j : Nat, j ≤ 10 ∧ k = .int .i64 ((j : Int) + 1) ∧ Own w wr 3 1 out j (ics .i64 (us n j)))
    (fun _ k _ => 20 - (intOf k).toNat)
  case atStart => exact ⟨0, by omega, rfl, Own.nil _ _ (Below.refl _ _)⟩
  case round =>
    obtain ⟨j, hj, rfl, hown⟩ := hrel
    by_cases hlt : j < 10
    · have hu := lst_le (tk n (j + 1))
      have hpos := lst_pos (tk n (j + 1))
      go_wp2
      obtain ⟨wo, rfl⟩ : ∃ wo : World, wo = wr := ⟨_, rfl⟩
      go_loop [6] (fun m => ∃ q : Nat, 1 ≤ q ∧ q ≤ lst (tk n (j + 1)) ∧ m = .int .i64 q) (fun m => lst (tk n (j + 1)) - (intOf m).toNat)
      case atStart => exact ⟨1, by omega, hpos, rfl⟩
      case round =>
        obtain ⟨q, hq1, hq2, rfl⟩ := hrel
        have hi := test_int hq1 hq2 h2 hlt
        obtain ⟨b1, b2⟩ := sq_int (q := q) (by omega)
        obtain ⟨b3, b4⟩ := nine_int hlt
        have b5 := tk_int n j
        have b6 := tk_le h2 (show j + 1 ≤ 10 by omega)
        have b7 : (0 : Int) ≤ 9 * ((j : Int) + 1) * ((j : Int) + 1) * n := by omega
        have b8 : (9 : Int) * ((j : Int) + 1) * ((j : Int) + 1) * n ≤ 115200 := by omega
        clear b5 b6
        by_cases hq : q < lst (tk n (j + 1))
        · have ht : (4 : Int) * q * q < 9 * ((j : Int) + 1) * ((j : Int) + 1) * n := hi.2 hq
          clear hi
          go_wp2
          go_round
          case rel => exact ⟨q + 1, by omega, by omega, by go_num⟩
          case measure => simp [intOf]; omega
        · have ht : ¬ ((4 : Int) * q * q < 9 * ((j : Int) + 1) * ((j : Int) + 1) * n) := fun h => hq (hi.1 h)
          obtain rfl : q = lst (tk n (j + 1)) := by omega
          clear hi
          go_wp2_with (at_builtin; refine ap_one rfl (.tmp 30) (.tmp 32) 24 rfl eInt [.int .i64 (lst (tk n (j + 1)))] hown rfl rfl rfl (by simp [Value.oneCell']) (by omega) ?_; intro v' w' hown' hsz)
          go_roundw
          case rel => exact ⟨j + 1, by omega, by go_num, by rw [us_succ, ics, List.map_append]; exact hown'⟩
          case measure => simp [intOf]; omega
    · obtain rfl : j = 10 := by omega
      go_wp2
      go_ret2
      exact ⟨_, rfl, hown⟩

theorem rusual_bad (n : Int) (w : World) (h : n < 1 ∨ 128 < n) :
    Calls Try.prog 15 #[.int .i64 n] w fun e w' => e = .returned (.tuple #[.slice none 0 0, .int .i64 2]) ∧ w = w' := by
  rcases h with h | h
  · go_enter Try.func15, Try.ntmps15
    go_wp2
    go_ret2
    exact ⟨rfl, rfl⟩
  · have h' : ¬ n < 1 := by omega
    go_enter Try.func15, Try.ntmps15
    go_wp2
    go_ret2
    exact ⟨rfl, rfl⟩

theorem rpoints_bad (A : Option Addr) (c : Nat) (xs : List Int) (m : Int) (w : World) (h : Rd w w.heap.size A (ics .i64 xs)) (hl : xs.length ≤ 1000000) (hk : RightB xs = false ∨ m < -1000000 ∨ 1000000 < m) :
    Calls Try.prog 23 #[.slice A xs.length c, .int .i64 m] w fun e w' =>
      e = .returned (.tuple #[.int .i64 0, .int .i64 0, .int .i64 2]) ∧ Qt w w' := by
  have h' := Lib.hid h
  clear h
  cases hR : RightB xs
  · clear hk
    go_enter Try.func23, Try.ntmps23
    go_wp2_with fail
    refine (rright_any _ _ _ _ h'.out hl).mono ?_
    rintro e w' ⟨rfl, hq⟩
    go_wp2_with fail
    go_ret3
    exact ⟨rfl, hq⟩
  · rw [hR] at hk
    by_cases h1 : m < -1000000
    · clear hk
      go_enter Try.func23, Try.ntmps23
      go_wp2_with fail
      refine (rright_any _ _ _ _ h'.out hl).mono ?_
      rintro e w' ⟨rfl, hq⟩
      go_wp2_with fail
      go_ret3
      exact ⟨rfl, hq⟩
    · have h2 : 1000000 < m := by simp at hk; omega
      clear hk
      go_enter Try.func23, Try.ntmps23
      go_wp2_with fail
      refine (rright_any _ _ _ _ h'.out hl).mono ?_
      rintro e w' ⟨rfl, hq⟩
      go_wp2_with fail
      go_ret3
      exact ⟨rfl, hq⟩

set_option maxHeartbeats 1000000 in
theorem rpoints_ok (A : Option Addr) (c : Nat) (xs : List Int) (m : Int) (w : World) (h : Rd w w.heap.size A (ics .i64 xs)) (hk : PtsOk xs m) :
    Calls Try.prog 23 #[.slice A xs.length c, .int .i64 m] w fun e w' =>
      e = .returned (.tuple #[.int .i64 (xs.length + ptsN xs m), .int .i64 (xs.length - ptsN xs m), .int .i64 0]) ∧ Qt w w' := by
  obtain ⟨hR, h1, h2⟩ := hk
  obtain ⟨l1, l2⟩ := RightB_len hR
  obtain ⟨b, off, rfl, hb, hc⟩ := h.int (by omega)
  have HC := Lib.hid hc
  have h' := Lib.hid h
  have HR := Lib.hid hR
  clear hc h
  go_enter Try.func23, Try.ntmps23
  go_wp2_with fail
  refine (rright_any _ _ _ _ h'.out (by omega)).mono ?_
  rintro e w0 ⟨rfl, hq⟩
  clear hR
  rw [HR.out]
  go_wp2_with fail
  go_loop [7, 8, 9] (fun a b i => ∃ k : Nat, k ≤ xs.length ∧ i = .int .i64 k ∧ a = .int .i64 (xs.length + ptsN (xs.take k) m) ∧ b = .int .i64 (xs.length - ptsN (xs.take k) m)) (fun _ _ i => xs.length - (intOf i).toNat)
  case atStart => exact ⟨0, by omega, rfl, by simp [ptsN, cnt], by simp [ptsN, cnt]⟩
  case round =>
    obtain ⟨k, hk, rfl, rfl, rfl⟩ := hrel
    have hpl := ptsN_le (xs.take k) m
    have hln : (xs.take k).length ≤ 50 := by rw [List.length_take]; omega
    by_cases hlt : k < xs.length
    · have g := (hq.cell _).trans (HC.out k hlt)
      have HN : Hid (ptsN (xs.take (k + 1)) m = ptsN (xs.take k) m + (if xs.getD k 0 ≤ m then 1 else 0) - (if xs.getD k 0 ≤ -m then 1 else 0)) := by
        show _ = _
        have c1 := cnt_take (fun x => decide (x ≤ m)) xs k hlt
        have c2 := cnt_take (fun x => decide (x ≤ -m)) xs k hlt
        simp only [decide_eq_true_eq] at c1 c2
        unfold ptsN
        rw [c1, c2]; omega
      generalize xs.getD k 0 = x at *
      generalize ptsN (xs.take k) m = p at *
      by_cases t1 : x ≤ m
      · by_cases t2 : x ≤ -m
        · have t3 : x ≤ 0 - m := by omega
          go_wp2_with fail
          go_round
          case rel => exact ⟨k + 1, by omega, by go_num, by rw [HN.out, if_pos t1, if_pos t2]; go_num, by rw [HN.out, if_pos t1, if_pos t2]; go_num⟩
          case measure => simp [intOf]; omega
        · have t3 : ¬ x ≤ 0 - m := by omega
          go_wp2_with fail
          go_round
          case rel => exact ⟨k + 1, by omega, by go_num, by rw [HN.out, if_pos t1, if_neg t2]; go_num, by rw [HN.out, if_pos t1, if_neg t2]; go_num⟩
          case measure => simp [intOf]; omega
      · by_cases t2 : x ≤ -m
        · have t3 : x ≤ 0 - m := by omega
          go_wp2_with fail
          go_round
          case rel => exact ⟨k + 1, by omega, by go_num, by rw [HN.out, if_neg t1, if_pos t2]; go_num, by rw [HN.out, if_neg t1, if_pos t2]; go_num⟩
          case measure => simp [intOf]; omega
        · have t3 : ¬ x ≤ 0 - m := by omega
          go_wp2_with fail
          go_round
          case rel => exact ⟨k + 1, by omega, by go_num, by rw [HN.out, if_neg t1, if_neg t2]; go_num, by rw [HN.out, if_neg t1, if_neg t2]; go_num⟩
          case measure => simp [intOf]; omega
    · obtain rfl : k = xs.length := by omega
      rw [List.take_length] at *
      go_wp2_with fail
      go_ret3
      exact ⟨rfl, hq⟩
end Go.Proofs.Ytknhdojciihjlaa
