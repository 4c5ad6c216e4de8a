import Derived.Test.YtandanbojfdfjaaDoorLog2
namespace Go.Proofs.YtandanbojfdfjaaDoor
open Go.ChangeShapes Go.WideShapes Go.ChangeAt Go.RowKit

theorem few_out (xs : List Bs) : Few (outT xs) := ⟨fun _ h => (outT_mem h).1, fun _ h => (outT_mem h).2, by rw [outT_len]; omega⟩
theorem endsN_get {l : List Bs} {k n : Nat} (h : k < n) : (endsN l n).getD k 0 = (lenN l (k + 1) : Int) := by
  simp [endsN, h, lenN]

set_option maxRecDepth 100000 in
set_option maxHeartbeats 4000000 in
theorem cuts_any (A : Option Addr) (c n0 at_ : Nat) (xs : List Bs) (w : World) (hr : Rd w w.heap.size A (scs xs)) (hn : xs.length = n0) (hc : n0 ≤ c) (hm : n0 ≤ maxLen) (hs : ∀ x ∈ xs, x.length ≤ maxLen) (ha : at_ < 65536) (hT : Tb w) :
    Calls Tryd.prog 4 #[.slice A n0 c, .int .u16 at_] w fun e w' => e = .returned (.bool true) ∧ Below w.heap.size w w' := by
  have HT := Lib.hid hT
  have HX := Lib.hid (texts_any A c n0 xs w hr hn hc hm hs)
  have HF := Lib.hid (few_out xs)
  clear hr hn hc hm hs hT
  generalize outT xs = l at *
  go_enter Tryd.func4, Tryd.ntmps4
  go_wp2_with fail
  refine HX.out.mono ?_
  rintro e w1 ⟨v, rfl, hrow, hb1⟩
  obtain ⟨A1, c1, rfl, hc1, hrd1, _⟩ := row_rd hrow
  have HB1 := Lib.hid hb1
  have HR1 := Lib.hid hrd1
  have hz : l.length ≤ 20 := HF.out.num
  clear HX hrow hb1 hrd1
  go_wp2_with fail
  refine (written_any A1 c1 l.length l w1 HR1.out rfl hc1 HF.out (HT.out.below HB1.out HT.out.lt)).mono ?_
  rintro e w2 ⟨vb, u, rfl, hby, hen, hb2⟩
  obtain ⟨A2, c2, rfl, hr2, hc2, _⟩ := hby.form
  obtain ⟨A3, c3, rfl, hc3, hr3, _⟩ := row_rd hen
  have HB2 := Lib.hid (HB1.out.trans (hb2.mono HB1.out.size))
  have HR2 := Lib.hid hr2
  have HR3 := Lib.hid hr3
  have HRl := Lib.hid (HR1.out.keep hb2 hb2.size)
  clear hby hen hb2 hr2 hr3 HR1 HB1
  have hlog := HF.out.log
  obtain ⟨N, hN⟩ : ∃ N, (logB 1 l).length = N := ⟨_, rfl⟩
  rw [hN] at hc2 hlog ⊢
  obtain ⟨n, hnn⟩ : ∃ n, at_ % (N + 1) = n := ⟨_, rfl⟩
  have hnN : n ≤ N := by have := Nat.mod_lt at_ (show N + 1 > 0 by omega); omega
  have hni : ((at_ : Int) % ((N : Int) + 1)) = (n : Int) := by subst hnn; simp
  have HNN := Lib.hid hN
  clear hN hnn
  go_wp2_with fail
  rw [hni]
  go_loopw [9, 10, 35] (fun u v i wr => ∃ k j : Nat, k ≤ l.length ∧ i = .int .i64 k ∧ u = .int .i64 j ∧ v = .int .i64 (lenN l j) ∧ Hid (Upto l n k j) ∧ wr = w2) (fun _ _ i _ => l.length - (intOf i).toNat)
  case atStart => exact ⟨0, 0, Nat.zero_le _, rfl, rfl, rfl, Lib.hid (Upto.zero l n), rfl⟩
  case round =>
    obtain ⟨k, j, hk, rfl, rfl, rfl, hU, rfl⟩ := hrel
    by_cases hlt : k < l.length
    · obtain ⟨b1, o1, rfl, hb1, hc1⟩ := HR3.out.int (by rw [endsN_len]; omega)
      have g1 := hc1 k (by rw [endsN_len]; omega)
      rw [endsN_get hlt] at g1
      clear hc1
      by_cases hle : lenN l (k + 1) ≤ n
      · have HU2 := Lib.hid (hU.out.take hle)
        go_wp2_with fail
        go_roundw
        case rel => exact ⟨k + 1, k + 1, by omega, by go_num, by go_num, rfl, HU2, trivial⟩
        case measure => simp [intOf]; omega
      · have HU2 := Lib.hid (hU.out.leave (by omega))
        go_wp2_with fail
        go_roundw
        case rel => exact ⟨k + 1, j, by omega, by go_num, rfl, rfl, HU2, trivial⟩
        case measure => simp [intOf]; omega
    · obtain rfl : k = l.length := by omega
      have hjl : j ≤ l.length := hU.out.1
      have HSc := Lib.hid (cut_scan HF.out.okr (by rw [HNN.out]; exact hnN) hU.out)
      have htl : ((logB 1 l).take n).length = n := by rw [List.length_take, HNN.out]; omega
      have hsz : (St.zero.adds (l.take j)).size = lenN l j := by rw [adds_size]; simp [St.zero, lenN]
      obtain ⟨tl, htl2⟩ : ∃ t : Nat, (if lenN l j = n then 0 else 1) = t := ⟨_, rfl⟩
      rw [htl2] at HSc
      have HS := Lib.hid (scan_num A2 c2 n ((logB 1 l).take n) (l.take j) (lenN l j) tl wr wr (by have := HR2.out.take n; rw [bcs_take] at this; exact this) (by omega) (by omega) htl (HT.out.below HB2.out HT.out.lt) (Below.refl _ _) (by rw [HSc.out]; exact ⟨(HF.out.take j).recs, hsz, rfl⟩))
      have hjt : (l.take j).length = j := by rw [List.length_take]; omega
      rw [hjt] at HS
      have Hq := fun (W : World) (b : Below w.heap.size w W) => Lib.hid (awake_any W (HT.out.below b HT.out.lt))
      have hsq : ((lenN l j : Nat) : Int) = n ↔ tl = 0 := by
        split at htl2 <;> omega
      have htt : tl = 0 ∨ tl = 1 := by split at htl2 <;> omega
      clear HSc htl hsz hU htl2
      have HJT := Lib.hid hjt
      clear hjt
      generalize lenN l j = q at *
      have hSame := fun (a5 : Option Addr) (c5 : Nat) (W : World) (h5 : Rd W W.heap.size a5 (scs (l.take j))) (hbl : Below wr.heap.size wr W) => Lib.hid (same_num (c := c5) (d := c1) (xs := l.take j) (ys := l.take j) (n := j) (m := j) (r := true) h5 (by have := (HRl.out.keep hbl hbl.size).take j; rwa [← List.map_take] at this) hbl HJT.out HJT.out (by omega) (by omega) (by simp))
      by_cases hqn : q = n
      · have h0 : tl = 0 := hsq.1 (by omega)
        subst h0
        subst hqn
        go_wp2_with fail
        refine HS.out.mono ?_
        rintro e w5 ⟨a5, c5, rfl, _, h5, hb5⟩
        have HSm := hSame a5 c5 w5 h5 hb5
        clear HS hSame h5
        go_wp2_with fail
        refine HSm.out.mono ?_
        rintro e w6 ⟨rfl, _, hb6⟩
        have HB6 := Lib.hid (HB2.out.trans (hb6.mono HB2.out.size))
        have HAw := Hq w6 HB6.out
        clear HSm hb5 hb6 Hq
        go_wp2_with fail
        refine HAw.out.mono ?_
        rintro e w7 ⟨rfl, hb7⟩
        have HB7 := Lib.hid (HB6.out.trans (hb7.mono HB6.out.size))
        clear hb7
        go_wp2_with fail
        go_ret
        exact ⟨rfl, HB7.out⟩
      · have h0 : tl = 1 := by
          rcases htt with h | h
          · have := hsq.2 h; omega
          · exact h
        subst h0
        go_wp2_with fail
        refine HS.out.mono ?_
        rintro e w5 ⟨a5, c5, rfl, _, h5, hb5⟩
        have HSm := hSame a5 c5 w5 h5 hb5
        clear HS hSame h5
        go_wp2_with fail
        refine HSm.out.mono ?_
        rintro e w6 ⟨rfl, _, hb6⟩
        have HB6 := Lib.hid (HB2.out.trans (hb6.mono HB2.out.size))
        have HAw := Hq w6 HB6.out
        clear HSm hb5 hb6 Hq
        go_wp2_with fail
        refine HAw.out.mono ?_
        rintro e w7 ⟨rfl, hb7⟩
        have HB7 := Lib.hid (HB6.out.trans (hb7.mono HB6.out.size))
        clear hb7
        go_wp2_with fail
        go_ret
        exact ⟨rfl, HB7.out⟩
end Go.Proofs.YtandanbojfdfjaaDoor
