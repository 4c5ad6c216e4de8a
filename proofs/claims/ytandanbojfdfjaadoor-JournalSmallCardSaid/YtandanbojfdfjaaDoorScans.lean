import Derived.Test.YtandanbojfdfjaaDoorRScan
import Derived.Test.YtandanbojfdfjaaDoorLawJ
namespace Go.Proofs.YtandanbojfdfjaaDoor
open Go.ChangeShapes Go.WideShapes Go.ChangeAt Go.RowKit

theorem conv_none (c : Nat) (w : World) : (convert 26 9 (.slice none 0 c)).run Tryd.prog w = .ok (.string ⟨#[]⟩) w := by kernel_rfl
theorem conv_zero (ad : Addr) (c : Nat) (w : World) : (convert 26 9 (.slice (some ad) 0 c)).run Tryd.prog w = .ok (.string ⟨#[]⟩) w := by kernel_rfl
/-- bytes that can be read, as a string, now or later -/
theorem Rd.convA {w w' : World} {A : Option Addr} {n c : Nat} {b : Bs} (h : Rd w w.heap.size A (bcs b)) (hn : b.length = n) (hb : Below w.heap.size w w') :
    (convert 26 9 (.slice A n c)).run Tryd.prog w' = .ok (.string ⟨b.toArray⟩) w' := by
  subst hn
  by_cases h0 : b = []
  · subst h0
    rcases A with _ | ad
    · exact conv_none c w'
    · exact conv_zero ad c w'
  · have hp := List.length_pos_iff.2 h0
    obtain ⟨k, o, rfl, _, _⟩ := h (by simpa using hp)
    exact Rd.conv (h.keep hb hb.size)

set_option maxRecDepth 100000 in
set_option maxHeartbeats 4000000 in
theorem scans_any (A : Option Addr) (n c : Nat) (b : Bs) (x : Int) (t : ByteArray) (w : World) (hr : Rd w w.heap.size A (bcs b)) (hn : b.length = n) (hc : n ≤ c) (hm : n ≤ 1000000) (hl : -(2^63) ≤ x) (hh : x < 2^63) (ht : t.size ≤ maxLen) (hT : Tb w) :
    Calls Tryd.prog 21 #[.slice A n c, .int .i64 x, .string t] w fun e w' => e = .returned (.bool true) ∧ Below w.heap.size w w' := by
  have HR := Lib.hid hr
  have HN := Lib.hid hn
  have HT := Lib.hid hT
  have HC1 := fun W => Lib.hid (Check_any x t W hl hh)
  have HC2 := fun W => Lib.hid (Chk_ref x t W hl hh ht)
  have HL1 := fun W h => Lib.hid (Line_any x t W hl hh h)
  have HL2 := fun W => Lib.hid (Lin_ref x t W hl hh ht)
  generalize chkR x t.data.toList = cr at *
  generalize linR x t.data.toList = lr at *
  obtain ⟨cr1, cr2⟩ := cr
  obtain ⟨lr1, lr2⟩ := lr
  simp only at HC1 HC2 HL1 HL2
  clear hr hn hT
  go_enter Tryd.func21, Tryd.ntmps21
  go_wp2_with (first | (at_builtin; refine ap_many rfl (.tmp 21) (.tmp 22) 26 rfl eByte A n c (bcs b) (Own.built w 5 0 [] (Below.refl _ _) rfl (by omega)) rfl rfl (by rw [Nat.mul_one, List.length_map]; exact HN.out) (HR.out.alloc _) (oneCells_bcs _) (by omega) ?_; intro v3 w3 own3 hsz3) | (at_builtin; refine ap_one rfl (.tmp 23) (.tmp 24) 26 rfl eByte [.int .u8 77] own3 rfl rfl rfl (by simp [Value.oneCell']) (by omega) ?_; intro v4 w4 own4 hsz4))
  rw [Nat.zero_add, List.nil_append] at own4
  obtain ⟨g, c4, rfl, hc4, hg1, hg2, _, _⟩ := own4.form (by omega)
  obtain ⟨A4, c5, he, _, hrd4⟩ := own4.rd
  obtain ⟨rfl, rfl⟩ : some ⟨g, 0, none⟩ = A4 ∧ c4 = c5 := by simpa using he
  have HB4 := Lib.hid own4.bel
  have HO4 := Lib.hid own4
  have hrd5 := hrd4.take n
  have HRI : Hid (Rd w4 w4.heap.size (some ⟨g, 0, none⟩) (bcs b)) := Lib.hid (by
    have e : (bcs b ++ [Value.int .u8 77]).take n = bcs b := by
      rw [← HN.out]
      exact List.take_left' (by simp)
    rw [e] at hrd5
    exact hrd5)
  have HRW : Hid (Rd w4 w4.heap.size (some ⟨g, 0, none⟩) (bcs (b ++ [77]))) := Lib.hid (by simpa [bcs] using hrd4)
  clear own4 hrd4 hrd5 he hg1 hg2
  go_wp2_with fail
  refine (HC1 w4).out.mono ?_
  rintro e w5 ⟨rfl, hb5⟩
  have HB5 := Lib.hid hb5
  clear hb5
  go_wp2_with fail
  refine (HC2 w5).out.mono ?_
  rintro e w' ⟨rfl, rfl⟩
  have hT5 := HT.out.below (HB4.out.trans (HB5.out.mono HB4.out.size)) HT.out.lt
  have HLL := HL1 w5 hT5
  clear hT5 HL1 HC1 HC2
  go_wp2_with fail
  refine HLL.out.mono ?_
  rintro e w6 ⟨rfl, hb6⟩
  have HB6 := Lib.hid (HB5.out.trans (hb6.mono HB5.out.size))
  clear hb6 HLL
  go_wp2_with fail
  refine (HL2 w6).out.mono ?_
  rintro e w7 ⟨rfl, hb7⟩
  have HB7 := Lib.hid (HB6.out.trans (hb7.mono HB6.out.size))
  clear hb7 HL2
  have HBw := Lib.hid (HB4.out.trans (HB7.out.mono HB4.out.size))
  have HSc := Lib.hid (Scan_rd (some ⟨g, 0, none⟩) c4 n b w7 (HRI.out.keep HB7.out HB7.out.size) (by have := HN.out; omega) (by have := HN.out; omega) HN.out (HT.out.below HBw.out HT.out.lt))
  go_wp2_with fail
  refine HSc.out.mono ?_
  rintro e w8 ⟨a8, c8, rfl, hrow8, hb8⟩
  have HB8 := Lib.hid (HB7.out.trans (hb8.mono HB7.out.size))
  clear hb8 HSc
  have HRf := Lib.hid (Scan_ref A b c w8 (HR.out.keep (HB4.out.trans (HB8.out.mono HB4.out.size)) (HB4.out.trans (HB8.out.mono HB4.out.size)).size) (by have := HN.out; omega) (by have := HN.out; omega))
  rw [HN.out] at HRf
  have HRow8 := Lib.hid hrow8
  clear hrow8
  have hsr := scan_recs b
  obtain ⟨s, hs⟩ : ∃ s, (scanS b).1 = s := ⟨_, rfl⟩
  obtain ⟨tl, htl⟩ : ∃ tl, (scanS b).2 = tl := ⟨_, rfl⟩
  rw [hs] at hsr
  rw [hs, htl] at HRf
  rw [hs] at HRow8
  rw [hs, htl]
  clear hs htl
  go_wp2_with fail
  refine HRf.out.mono ?_
  rintro e w9 ⟨v9, rfl, hrow9, hb9⟩
  obtain ⟨A9, c9, rfl, hc9, hrd9, _⟩ := row_rd hrow9
  obtain ⟨A8, c8', he8, hc8, hrd8, _⟩ := row_rd HRow8.out
  obtain ⟨rfl, rfl⟩ : a8 = A8 ∧ c8 = c8' := by simpa using he8
  have HB9 := Lib.hid (HB8.out.trans (hb9.mono HB8.out.size))
  have HR8 := Lib.hid (hrd8.keep hb9 hb9.size)
  have HR9 := Lib.hid hrd9
  clear hb9 HRf he8 hrd8 hrd9 hrow9
  have ha : Below w9.heap.size w9 (w9.alloc (.cells (rl (.slice A9 s.recs.length c9) s.last s.size false) 77)) := below_alloc _ _
  have HSm := Lib.hid (same_num (c := c8) (d := c9) (xs := s.recs) (ys := s.recs) (n := s.recs.length) (m := s.recs.length) (r := true) (A := a8) (B := A9) (w0 := w9) (HR8.out.keep ha ha.size) (HR9.out.keep ha ha.size) ha rfl rfl (by have := HN.out; omega) (by have := HN.out; omega) (by simp))
  go_wp2_with fail
  refine HSm.out.mono ?_
  rintro e w10 ⟨rfl, hq10, hb10⟩
  have e2 : w10.cell? ⟨w9.heap.size, 2, none⟩ = some (.int .i64 s.size) := (bcell hq10 w9.heap.size 2 (by simp)).trans ((Blk.new w9 (rl (.slice A9 s.recs.length c9) s.last s.size false) 77).cell 2 _ rfl)
  have HB10 := Lib.hid (HB9.out.trans (hb10.mono HB9.out.size))
  have HBe := Lib.hid (HB4.out.trans (HB10.out.mono HB4.out.size))
  have hci : (convert 26 9 (.slice (some ⟨g, 0, none⟩) (n + 1) c4)).run Tryd.prog w10 = .ok (.string (ByteArray.mk b.toArray ++ ⟨#[77]⟩)) w10 := by
    have h := Rd.convA (n := n + 1) (c := c4) HRW.out (by simp [HN.out]) HB10.out
    have e : (ByteArray.mk (b ++ [77]).toArray) = ByteArray.mk b.toArray ++ ⟨#[77]⟩ := by
      apply ByteArray.ext
      simp
    rw [e] at h
    exact h
  have hcb : (convert 26 9 (.slice A n c)).run Tryd.prog w10 = .ok (.string (ByteArray.mk b.toArray)) w10 := Rd.convA HR.out HN.out HBe.out
  have hXs : (ByteArray.mk b.toArray).size ≤ 1000000 := by show b.length ≤ _; rw [HN.out]; exact hm
  clear hq10 hb10 HSm ha
  generalize ByteArray.mk b.toArray = X at *
  generalize ByteArray.mk lr1.toArray = Y at *
  go_wp2_with fail
  go_ret
  exact ⟨rfl, HBe.out⟩
end Go.Proofs.YtandanbojfdfjaaDoor

namespace Go.Proofs.YtandanbojfdfjaaDoor
open Go.ChangeShapes Go.WideShapes Go.ChangeAt Go.RowKit

set_option maxHeartbeats 2000000 in
theorem jscans_any (A : Option Addr) (n c : Nat) (b : Bs) (x : Int) (t : ByteArray) (w : World) (hr : Rd w w.heap.size A (bcs b)) (hn : b.length = n) (hc : n ≤ c) (hm : n ≤ maxLen) (hl : -(2^63) ≤ x) (hh : x < 2^63) (ht : t.size ≤ maxLen) (hT : Tb w) :
    Calls Tryd.prog 6 #[.slice A n c, .int .i64 x, .string t] w fun e w' => e = .returned (.bool true) ∧ Below w.heap.size w w' := by
  have HAw := fun (W : World) (b : Below w.heap.size w W) => Lib.hid (awake_any W (hT.below b hT.lt))
  have HS := fun h => Lib.hid (scans_any A n c b x t w hr hn hc h hl hh ht hT)
  clear hr hn hT hc
  unfold maxLen at hm ht
  by_cases h1 : 3000 < n
  · have b1 : decide ((n : Int) > 3000) = true := decide_eq_true (by omega)
    clear HS
    go_enter Tryd.func6, Tryd.ntmps6
    go_wp2_with fail
    refine (HAw w (Below.refl _ _)).out.mono ?_
    rintro e w1 ⟨rfl, hb1⟩
    go_wp2_with fail
    go_ret
    exact ⟨rfl, hb1⟩
  · have b1 : decide ((n : Int) > 3000) = false := decide_eq_false (by omega)
    by_cases h2 : 300 < t.size
    · have b2 : decide ((t.size : Int) > 300) = true := decide_eq_true (by omega)
      clear HS
      go_enter Tryd.func6, Tryd.ntmps6
      go_wp2_with fail
      refine (HAw w (Below.refl _ _)).out.mono ?_
      rintro e w1 ⟨rfl, hb1⟩
      go_wp2_with fail
      go_ret
      exact ⟨rfl, hb1⟩
    · have b2 : decide ((t.size : Int) > 300) = false := decide_eq_false (by omega)
      have HS' := HS (by omega)
      clear HS
      go_enter Tryd.func6, Tryd.ntmps6
      go_wp2_with fail
      refine HS'.out.mono ?_
      rintro e w1 ⟨rfl, hb1⟩
      have HB1 := Lib.hid hb1
      clear hb1
      go_wp2_with fail
      refine (HAw w1 HB1.out).out.mono ?_
      rintro e w2 ⟨rfl, hb2⟩
      go_wp2_with fail
      go_ret
      exact ⟨rfl, HB1.out.trans (hb2.mono HB1.out.size)⟩
end Go.Proofs.YtandanbojfdfjaaDoor
