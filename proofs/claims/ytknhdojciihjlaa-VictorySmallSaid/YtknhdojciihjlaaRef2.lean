import Derived.Test.YtknhdojciihjlaaRef1
import Derived.Test.YtknhdojciihjlaaTot
import Derived.Deep.RegionHeld3
import Derived.Deep.AppendLies
namespace Go.Proofs.Ytknhdojciihjlaa
open Go.ChangeShapes Go.WideShapes Go.ChangeAt Go.RowKit

theorem rtotal_wrong (A B : Option Addr) (c d : Nat) (xs ms : List Int) (w : World) (h : Rd w w.heap.size A (ics .i64 xs)) (hl : xs.length ≤ 1000000) (hR : RightB xs = false) :
    Calls Try.prog 26 #[.slice A xs.length c, .slice B ms.length d] w fun e w' => e = .returned (.tuple #[.int .i64 0, .int .i64 0, .int .i64 2]) ∧ Qt w w' := by
  have h' := Lib.hid h
  clear h
  go_enter Try.func26, Try.ntmps26
  go_wp2_with fail
  refine (rright_any _ _ _ _ h'.out hl).mono ?_
  rintro e w' ⟨rfl, hq⟩
  go_wp2_with fail
  go_ret3
  exact ⟨rfl, hq⟩

set_option maxHeartbeats 1000000 in
theorem rtotal_any (A B : Option Addr) (c d : Nat) (xs ms : List Int) (w : World) (h : Rd w w.heap.size A (ics .i64 xs)) (hM : Rd w w.heap.size B (ics .i64 ms)) (hR : RightB xs = true) (hl : ms.length ≤ 1000000) :
    Calls Try.prog 26 #[.slice A xs.length c, .slice B ms.length d] w fun e w' =>
      e = .returned (totRes xs ms) ∧ Qt w w' := by
  have H := Lib.hid h
  have HM := Lib.hid hM
  obtain ⟨l1, l2⟩ := RightB_len hR
  have HR := Lib.hid hR
  clear h hM hR
  go_enter Try.func26, Try.ntmps26
  go_wp2_with fail
  refine (rright_any _ _ _ _ H.out (by omega)).mono ?_
  rintro e w0 ⟨rfl, hq0⟩
  rw [HR.out]
  go_wp2_with fail
  go_loopw [7, 8, 9] (fun a b i wr => ∃ k : Nat, k ≤ ms.length ∧ i = .int .i64 k ∧ Hid ((ms.take k).all mOk = true) ∧ a = .int .i64 ((xs.length * k : Nat) + totN xs (ms.take k)) ∧ b = .int .i64 ((xs.length * k : Nat) - totN xs (ms.take k)) ∧ Qt w wr) (fun _ _ i _ => ms.length - (intOf i).toNat)
  case atStart => exact ⟨0, Nat.zero_le _, rfl, rfl, by simp [totN], by simp [totN], hq0⟩
  case round =>
    obtain ⟨k, hk, rfl, hall, rfl, rfl, hq⟩ := hrel
    have hbd := totN_bd xs (ms.take k) l2
    have hln : (ms.take k).length = k := by rw [List.length_take]; omega
    rw [hln] at hbd
    have mb := mul_bd l2 (show k ≤ 1000000 by omega)
    clear hln
    by_cases hlt : k < ms.length
    · obtain ⟨b, off, rfl, hbb, hc2⟩ := HM.out.int (by omega)
      have g1 := (hq.cell _).trans (hc2 k (by omega))
      have HT := Lib.hid (show ms.take (k + 1) = ms.take k ++ [ms.getD k 0] from take_succ_getD ms k (by omega))
      have HMem := Lib.hid (show ms.getD k 0 ∈ ms by rw [List.getD_eq_getElem?_getD, List.getElem?_eq_getElem (by omega)]; simp)
      generalize ms.getD k 0 = m at *
      clear hc2
      have HN := Lib.hid (totN_snoc xs (ms.take k) m)
      have hpl := ptsN_le xs m
      have HS := Lib.hid (mul_succ_int xs.length k)
      generalize totN xs (ms.take k) = tn at *
      generalize xs.length * k = nk at *
      by_cases hok : mOk m = true
      · have hp : PtsOk xs m := by simp [mOk] at hok; exact ⟨HR.out, hok.1, hok.2⟩
        have HOK := Lib.hid hok
        have HP := Lib.hid hp
        clear hok hp
        go_wp2_with fail
        refine (rpoints_ok _ _ _ _ _ (H.out.qtn hq) HP.out).mono ?_
        rintro e w' ⟨rfl, hq'⟩
        go_wp2_with fail
        go_roundw
        case rel =>
          refine ⟨k + 1, by omega, by go_num, ?_, ?_, ?_, hq.trans hq'⟩
          · rw [Hid, HT.out, List.all_append, hall.out]; simp [HOK.out]
          · rw [HT.out, HN.out, HS.out]; congr 1; omega
          · rw [HT.out, HN.out, HS.out]; congr 1; omega
        case measure => simp [intOf]; omega
      · have hp : RightB xs = false ∨ m < -1000000 ∨ 1000000 < m := by
          simp [mOk] at hok
          right
          rcases Int.lt_or_le m (-1000000) with h | h
          · exact .inl h
          · exact .inr (hok h)
        have HA : Hid (¬ ms.all mOk = true) := by
          intro e
          rw [List.all_eq_true] at e
          exact hok (e m HMem.out)
        have HP := Lib.hid hp
        clear hok hp
        go_wp2_with fail
        refine (rpoints_bad _ _ _ _ _ (H.out.qtn hq) (by omega) HP.out).mono ?_
        rintro e w' ⟨rfl, hq'⟩
        go_wp2_with fail
        go_ret3
        exact ⟨by rw [totRes_bad HA.out]; rfl, hq.trans hq'⟩
    · obtain rfl : k = ms.length := by omega
      rw [List.take_length] at *
      go_wp2_with fail
      go_ret3
      exact ⟨by rw [totRes_ok hall.out]; rfl, hq⟩

def marRes (xs : List Int) (p : Int) : Value :=
  if 0 ≤ p ∧ p ≤ 2 * (xs.length : Int) then .tuple #[.int .i64 (loM xs p.toNat), .int .i64 (upM xs p.toNat), .int .i64 0] else .tuple #[.int .i64 0, .int .i64 0, .int .i64 6]
theorem marRes_in {xs : List Int} {p : Int} (h0 : 0 ≤ p) (h1 : p ≤ 2 * (xs.length : Int)) : marRes xs p = .tuple #[.int .i64 (loM xs p.toNat), .int .i64 (upM xs p.toNat), .int .i64 0] := if_pos ⟨h0, h1⟩
theorem marRes_out {xs : List Int} {p : Int} (h : p < 0 ∨ 2 * (xs.length : Int) < p) : marRes xs p = .tuple #[.int .i64 0, .int .i64 0, .int .i64 6] := if_neg (by omega)
theorem ret_tup3 {a b c a' b' c' : Int} (h1 : a = a') (h2 : b = b') (h3 : c = c') :
    Ending.returned (.tuple #[.int .i64 a, .int .i64 b, .int .i64 c]) = .returned (.tuple #[.int .i64 a', .int .i64 b', .int .i64 c']) := by rw [h1, h2, h3]

set_option maxRecDepth 100000 in
set_option maxHeartbeats 4000000 in
theorem rmar_any (A : Option Addr) (c : Nat) (xs : List Int) (p : Int) (w : World) (h : Rd w w.heap.size A (ics .i64 xs)) (hR : RightB xs = true) (hp1 : -9223372036854775808 ≤ p) (hp2 : p ≤ 9223372036854775807) :
    Calls Try.prog 25 #[.slice A xs.length c, .int .i64 p] w fun e w' => e = .returned (marRes xs p) ∧ Below w.heap.size w w' := by
  have H := Lib.hid h
  obtain ⟨l1, l2⟩ := RightB_len hR
  obtain ⟨b, off, rfl, hb, hc⟩ := h.int (by omega)
  have HC := Lib.hid hc
  have HR := Lib.hid hR
  clear h hR hc
  go_enter Try.func25, Try.ntmps25
  go_wp2_with fail
  refine (rright_any _ _ _ _ H.out (by omega)).mono ?_
  rintro e w0 ⟨rfl, hq0⟩
  rw [HR.out]
  have hbw0 := hq0.below w.heap.size
  go_wp2_with fail
  go_loopw [7, 8] (fun out i wr => ∃ k : Nat, k ≤ xs.length ∧ i = .int .i64 k ∧ Own w wr 3 1 out (3 + 4 * k) (ics .i64 (tries (xs.take k)))) (fun _ i _ => xs.length - (intOf i).toNat)
  case atStart => exact ⟨0, by omega, rfl, Own.built w 3 3 (ics .i64 [0, 1000000, -1000000]) hbw0 rfl (by omega)⟩
  case round =>
    obtain ⟨k, hk, rfl, own⟩ := hrel
    by_cases hlt : k < xs.length
    · have g := (bcell own.bel b (off + k) hb).trans (HC.out k hlt)
      have gw := HC.out k hlt
      have bd := RightB_bd HR.out k hlt
      have HT := Lib.hid (tries_snoc xs k hlt)
      generalize xs.getD k 0 = x at *
      go_wp2_with fail
      have e1 : IntKind.i64.wrap (x - 1) = x - 1 := IntWalk.i64_in _ (by omega)
      have e2 : IntKind.i64.wrap (-x) = -x := IntWalk.i64_in _ (by omega)
      have e3 : IntKind.i64.wrap (1 - x) = 1 - x := IntWalk.i64_in _ (by omega)
      have i1 : (0 : Int) ≤ (k : Int) := Int.natCast_nonneg _
      have i2 : (k : Int) < (xs.length : Int) := by omega
      have hlt' : b < wr.heap.size := cell_lt g
      go_region_held3 (fun w' => w'.cell? ⟨b, off + k, none⟩ = some (.int .i64 x))
        (first
          | go_keep
          | ((exact ((bcell hown'.bel b (off + k) hb).trans gw))))
        ((refine step_ap (by rfl) _ _ _ (by rfl) eInt (some ⟨wr.heap.size, 0, none⟩) 4 4 (ics .i64 (tr x)) ((own.alloc _).drew) (by rfl) (by rfl) (by rfl) (by have := (Rd.built (w := wr) (e := 3) (ics .i64 (tr x))).drew; simpa [ics, tr] using this) (oneCells_ints _ _) (by omega) ?_; intro v' w' hown' hsz))
      go_wp2_with fail
      go_roundw
      case rel => exact ⟨k + 1, by omega, by go_num, by rw [HT.out, ics, List.map_append, show 3 + 4 * (k + 1) = 3 + 4 * k + 4 by omega]; exact hown'⟩
      case measure => simp [intOf]; omega
    · obtain rfl : k = xs.length := by omega
      obtain ⟨AT, cT, rfl, hcT, rdT⟩ := own.rd
      rw [List.take_length] at rdT
      have bT := own.bel
      have hxs := H.out.now bT
      have hTl := Lib.hid (tries_len xs)
      have hTb := Lib.hid (tries_bd HR.out)
      obtain ⟨tb, toff, rfl, htb, htc⟩ := rdT.int (by rw [tries_len]; omega)
      have HTC := Lib.hid htc
      clear own rdT htc
      obtain ⟨wo, rfl⟩ : ∃ wo : World, wo = wr := ⟨_, rfl⟩
      go_wp2_with fail
      go_loopw [9, 10, 11, 12] (fun s lo hi i wr => ∃ (k : Nat) (sv : Bool) (l h : Int), k ≤ 3 + 4 * xs.length ∧ i = .int .i64 k ∧ s = .bool sv ∧ lo = .int .i64 l ∧ hi = .int .i64 h ∧ Found (fun y => decide ((xs.length : Int) + ptsN xs y = p)) ((tries xs).take k) sv l h ∧ Qt wo wr) (fun _ _ _ i _ => 3 + 4 * xs.length - (intOf i).toNat)
      case atStart => exact ⟨0, false, 0, 0, by omega, rfl, rfl, rfl, rfl, Found.nil _ _ _, Qt.refl _⟩
      case round =>
        obtain ⟨k, sv, l, h, hk2, rfl, rfl, rfl, rfl, hF, hq⟩ := hrel
        have HF := Lib.hid hF
        clear hF
        by_cases hlt2 : k < 3 + 4 * xs.length
        · have g := (hq.cell _).trans (HTC.out k (by rw [tries_len]; exact hlt2))
          have hy := tries_bd HR.out _ (getD_mem' (xs := tries xs) (i := k) (by rw [tries_len]; exact hlt2))
          have HT := Lib.hid (take_succ_getD (tries xs) k (by rw [tries_len]; exact hlt2))
          generalize (tries xs).getD k 0 = y at *
          obtain ⟨y1, y2⟩ := hy
          have hpl := ptsN_le xs y
          go_wp2_with fail
          refine (rpoints_ok _ _ _ y _ (hxs.qtn hq) ⟨HR.out, y1, y2⟩).mono ?_
          rintro e w' ⟨rfl, hq'⟩
          have g' := (hq'.cell _).trans g
          by_cases hqy : (xs.length : Int) + ptsN xs y = p
          · have HQ := Lib.hid (show decide ((xs.length : Int) + ptsN xs y = p) = true by simpa using hqy)
            have t0 : ((xs.length : Int) + ptsN xs y != p) = false := by rw [bne_eq_false_iff_eq]; exact hqy
            have HF2 := Lib.hid (HF.out.take (y := y) HQ.out)
            clear hqy
            cases sv
            · have HF3 : Hid (Found (fun y => decide ((xs.length : Int) + ptsN xs y = p)) ((tries xs).take (k + 1)) true y y) := by
                rw [Hid, HT.out]; simpa using HF2.out
              go_wp2_with fail
              go_roundw
              case rel => exact ⟨k + 1, true, y, y, by omega, by go_num, rfl, rfl, rfl, HF3.out, hq.trans hq'⟩
              case measure => simp [intOf]; omega
            · by_cases c1 : y < l
              · by_cases c2 : h < y
                · have HF3 : Hid (Found (fun y => decide ((xs.length : Int) + ptsN xs y = p)) ((tries xs).take (k + 1)) true y y) := by
                    rw [Hid, HT.out]; simpa [c1, c2] using HF2.out
                  go_wp2_with fail
                  go_roundw
                  case rel => exact ⟨k + 1, true, y, y, by omega, by go_num, rfl, rfl, rfl, HF3.out, hq.trans hq'⟩
                  case measure => simp [intOf]; omega
                · have HF3 : Hid (Found (fun y => decide ((xs.length : Int) + ptsN xs y = p)) ((tries xs).take (k + 1)) true y h) := by
                    rw [Hid, HT.out]; simpa [c1, c2] using HF2.out
                  go_wp2_with fail
                  go_roundw
                  case rel => exact ⟨k + 1, true, y, h, by omega, by go_num, rfl, rfl, rfl, HF3.out, hq.trans hq'⟩
                  case measure => simp [intOf]; omega
              · by_cases c2 : h < y
                · have HF3 : Hid (Found (fun y => decide ((xs.length : Int) + ptsN xs y = p)) ((tries xs).take (k + 1)) true l y) := by
                    rw [Hid, HT.out]; simpa [c1, c2] using HF2.out
                  go_wp2_with fail
                  go_roundw
                  case rel => exact ⟨k + 1, true, l, y, by omega, by go_num, rfl, rfl, rfl, HF3.out, hq.trans hq'⟩
                  case measure => simp [intOf]; omega
                · have HF3 : Hid (Found (fun y => decide ((xs.length : Int) + ptsN xs y = p)) ((tries xs).take (k + 1)) true l h) := by
                    rw [Hid, HT.out]; simpa [c1, c2] using HF2.out
                  go_wp2_with fail
                  go_roundw
                  case rel => exact ⟨k + 1, true, l, h, by omega, by go_num, rfl, rfl, rfl, HF3.out, hq.trans hq'⟩
                  case measure => simp [intOf]; omega
          · have t0 : ((xs.length : Int) + ptsN xs y != p) = true := by rw [bne_iff_ne]; exact hqy
            have HF3 : Hid (Found (fun y => decide ((xs.length : Int) + ptsN xs y = p)) ((tries xs).take (k + 1)) sv l h) := by
              rw [Hid, HT.out]; exact HF.out.skip (by simpa using hqy)
            clear hqy
            go_wp2_with fail
            go_roundw
            case rel => exact ⟨k + 1, sv, l, h, by omega, by go_num, rfl, rfl, rfl, HF3.out, hq.trans hq'⟩
            case measure => simp [intOf]; omega
        · have HF3 : Found (fun y => decide ((xs.length : Int) + ptsN xs y = p)) (tries xs) sv l h := by
            have := HF.out
            rwa [List.take_of_length_le (by rw [tries_len]; omega)] at this
          have bend := bT.trans ((hq.below wo.heap.size).mono bT.size)
          by_cases hin : 0 ≤ p ∧ p ≤ 2 * (xs.length : Int)
          · obtain ⟨q, rfl⟩ := Int.eq_ofNat_of_zero_le hin.1
            obtain ⟨f1, f2, f3⟩ := found_end HR.out (p := q) (by omega) HF3
            have HM := Lib.hid (marRes_in hin.1 hin.2)
            have HF2 := Lib.hid f2
            have HF4 := Lib.hid f3
            subst f1
            clear f2 f3 HF3 hin
            go_wp2_with fail
            go_ret3
            exact ⟨by rw [HM.out]; exact ret_tup3 (by rw [HF2.out]; rfl) (by rw [HF4.out]; rfl) rfl, bend⟩
          · have f1 := found_none (by omega) HF3
            have HM := Lib.hid (marRes_out (xs := xs) (p := p) (by omega))
            subst f1
            clear HF3 hin
            go_wp2_with fail
            go_ret3
            exact ⟨by rw [HM.out]; rfl, bend⟩

theorem rmar_wrong (A : Option Addr) (c : Nat) (xs : List Int) (p : Int) (w : World) (h : Rd w w.heap.size A (ics .i64 xs)) (hl : xs.length ≤ 1000000) (hR : RightB xs = false) :
    Calls Try.prog 25 #[.slice A xs.length c, .int .i64 p] w fun e w' => e = .returned (.tuple #[.int .i64 0, .int .i64 0, .int .i64 2]) ∧ Below w.heap.size w w' := by
  have h' := Lib.hid h
  clear h
  go_enter Try.func25, Try.ntmps25
  go_wp2_with fail
  refine (rright_any _ _ _ _ h'.out hl).mono ?_
  rintro e w' ⟨rfl, hq⟩
  go_wp2_with fail
  go_ret3
  exact ⟨rfl, hq.below _⟩
end Go.Proofs.Ytknhdojciihjlaa
