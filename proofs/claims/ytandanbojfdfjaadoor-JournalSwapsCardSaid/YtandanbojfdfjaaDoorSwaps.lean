import Derived.Test.YtandanbojfdfjaaDoorSwA
import Derived.Test.YtandanbojfdfjaaDoorSwB
import Derived.Test.YtandanbojfdfjaaDoorSwC
namespace Go.Proofs.YtandanbojfdfjaaDoor
open Go.ChangeShapes Go.WideShapes Go.ChangeAt Go.RowKit

set_option maxRecDepth 100000 in
set_option maxHeartbeats 4000000 in
theorem swaps_any (A : Option Addr) (c n0 wh at_ : Nat) (xs : List Bs) (w : World) (hr : Rd w w.heap.size A (scs xs)) (hn : xs.length = n0) (hc : n0 ≤ c) (hm : n0 ≤ maxLen) (hs : ∀ x ∈ xs, x.length ≤ maxLen) (hw : wh < 256) (ha : at_ < 256) (hT : Tb w) :
    Calls Tryd.prog 5 #[.slice A n0 c, .int .u8 wh, .int .u8 at_] w fun e w' => e = .returned (.bool true) ∧ Below w.heap.size w w' := by
  have HT := Lib.hid hT
  have HX := Lib.hid (texts_any A c n0 xs w hr hn hc hm hs)
  have HF := Lib.hid (few_out xs)
  clear hr hn hc hm hs hT
  generalize outT xs = l at *
  have HAw := fun (W : World) (b : Below w.heap.size w W) => Lib.hid (awake_any W (HT.out.below b HT.out.lt))
  go_enter Tryd.func5, Tryd.ntmps5
  go_wp2_with fail
  refine HX.out.mono ?_
  rintro e w1 ⟨v, rfl, hrow, hb1⟩
  obtain ⟨A1, c1, rfl, hc1, hrd1, _⟩ := row_rd hrow
  have HB1 := Lib.hid hb1
  have HR1 := Lib.hid hrd1
  have hz : l.length ≤ 20 := HF.out.num
  clear HX hrow hb1 hrd1
  go_wp2_with fail
  refine (written_any A1 c1 l.length l w1 HR1.out rfl hc1 HF.out (HT.out.below HB1.out HT.out.lt)).mono ?_
  rintro e w2 ⟨vb, u, rfl, hby, hen, hb2⟩
  obtain ⟨A2, c2, rfl, hr2, hc2, _⟩ := hby.form
  obtain ⟨A3, c3, rfl, hc3, hr3, _⟩ := row_rd hen
  have HB2 := Lib.hid (HB1.out.trans (hb2.mono HB1.out.size))
  have HR2 := Lib.hid hr2
  have HR3 := Lib.hid hr3
  have HBy := Lib.hid hby
  have HRl := Lib.hid (HR1.out.keep hb2 hb2.size)
  clear hby hen hb2 hr2 hr3 HR1 HB1
  have hlog := HF.out.log
  obtain ⟨N, hN⟩ : ∃ N, (logB 1 l).length = N := ⟨_, rfl⟩
  have HNN := Lib.hid hN
  have HBy2 := HBy
  rw [hN] at hc2 hlog HBy2 ⊢
  clear hN HBy
  obtain ⟨M, hM⟩ : ∃ M, l.length = M := ⟨_, rfl⟩
  have HM := Lib.hid hM
  rw [hM] at hc1 hz hc3 ⊢
  clear hM
  by_cases hM0 : M = 0
  · have hN0' : ((M : Int) == 0) = true := by rw [beq_iff_eq]; omega
    clear hM0
    go_wp2_with fail
    refine (HAw w2 HB2.out).out.mono ?_
    rintro e w3 ⟨rfl, b3⟩
    have HB3 := Lib.hid (HB2.out.trans (b3.mono HB2.out.size))
    clear b3
    go_wp2_with fail
    go_ret
    exact ⟨rfl, HB3.out⟩
  have hM0' : ((M : Int) == 0) = false := by rw [beq_eq_false_iff_ne]; omega
  obtain ⟨i, hii⟩ : ∃ i, wh % M = i := ⟨_, rfl⟩
  have hiM : i < M := by rw [← hii]; exact Nat.mod_lt _ (by omega)
  have hni : ((wh : Int) % (M : Int)) = (i : Int) := by subst hii; simp
  have hil : i < l.length := by have := HM.out; omega
  clear hii
  go_upto_if 41 with fail
  rw [hni]
  clear hni
  go_cut [11] (fun v wx => v = .int .i64 (lenN l i : Nat) ∧ wx = w2)
  case first =>
    by_cases hi0 : i = 0
    · have hi0' : ¬ 0 < i := by omega
      have HI := Lib.hid hi0
      clear hi0
      go_wp2_with fail
      go_meet
      exact ⟨by rw [HI.out]; rfl, rfl⟩
    · obtain ⟨b1, o1, rfl, hb1, hc1⟩ := HR3.out.int (by rw [endsN_len]; omega)
      have g1 := hc1 (i - 1) (by rw [endsN_len]; omega)
      rw [endsN_get (show i - 1 < l.length by omega), show i - 1 + 1 = i by omega] at g1
      have hw1 : IntKind.i64.wrap ((i : Int) - 1) = (i : Int) - 1 := IntWalk.i64_in _ (by omega)
      have ht1 : ((i : Int) - 1).toNat = i - 1 := by omega
      have hi1 : 0 < i := by omega
      have hib : decide (0 < i) = true := decide_eq_true hi1
      clear hc1 hi0
      go_wp2_with fail
      go_meet
      exact ⟨rfl, rfl⟩
  case rest =>
    obtain ⟨rfl, rfl⟩ := hcut
    obtain ⟨s, hs⟩ : ∃ s, l.getD i [] = s := ⟨_, rfl⟩
    obtain ⟨b1, o1, rfl, hb1, hc1⟩ := HRl.out.strs (by omega)
    have g1 := hc1 i hil
    rw [hs] at g1
    have hsl : s.length ≤ 60 := by rw [← hs]; exact HF.out.len _ (getD_in _ hil)
    obtain ⟨y, hy⟩ : ∃ y : ByteArray, ⟨s.toArray⟩ = y := ⟨_, rfl⟩
    have hyz : y.size = s.length := by rw [← hy]; rfl
    have HY := Lib.hid hy
    have HS := Lib.hid hs
    rw [hy] at g1
    clear hc1 hs hy
    have hsl1 : decide (1 < s.length) = decide (1 < s.length) := rfl
    clear hsl1
    go_upto_if 53 with fail
    obtain ⟨z, hz2⟩ : ∃ z, s.length = z := ⟨_, rfl⟩
    rw [hz2] at hyz hsl ⊢
    have HYZ := Lib.hid hyz
    have HZ := Lib.hid hz2
    clear hz2
    obtain ⟨q, hq⟩ : ∃ q, lenN l i = q := ⟨_, rfl⟩
    rw [hq]
    have HQ := Lib.hid hq
    clear hq
    obtain ⟨wa, rfl⟩ : ∃ wa : World, wa = wc := ⟨_, rfl⟩
    refine sw_A _ _ w wa l s y A2 b1 o1 wh at_ c1 c2 N M i z q ha HT HF hlog hc2 HNN hz hc1 HM hiM hil HY HS hsl HYZ HZ HQ HB2 HRl hb1 HR2 _ _ _ _ _ _ _ _ _ _ _ _ _ _ _ _ _ _ _ _ _ _ _ _ _ _ _ _ _ _ _ _ _ _ _ _ _ _ _ _ _ _ _ _ _ _ _ _ _ _ _ _ _ _ _ _ _ _ _ _ _ _ _ _ _ _ _ _ _ _ _ _ _ _ _ _ _ _ _ _ _ _ _ _ _ _ _ _ _ _ _ _ _ _ _ _ _ _ _ _ _ _ _ _ _ _ _ _ _ _ _ _ _ _ _ _ _ _ _ _ _ _ _ _ _ _ _ _ _ _ _ _ _ _ _ _ _ _ _ _ _ _ _ _ _ _ _ _ _ _ _ _ _ _ _ _ _ _ _ _ _ _ _ _ _ _ _ _ _ _ _ _ _ _ _ _ _ _ _ _ _ _ _ _ _ _ _ _ _ _ _ _ _ _ ?_
    intro x6 x13 x14 x15 x16 x17 x53 x54 x55 x56 x57 x58 x59 x60 x61 x62 x63 x64 x65 x66 x67 x68 x69 x70 x71 x72 x73 x74 x75 x76 x77 x78 x79 x80 x81 x82 x83 x84 x85 x86 x87 x88 x89 x90 x91 x92 x93 x94 x95 x96 x97 x98 x99 x100 x101 x102 x103 x104 x105 x106 x107 x108 x109 x110 x111 x112 x113 x114 x115 x116 x117 x118 x119 wc hcut
    have HC := hcut
    have hTa := HT.out.below HB2.out HT.out.lt
    have HTa := Lib.hid hTa
    have hMN : 6 ≤ N := by
      have h1 := lenN_succ hil
      have h2 := lenN_le l (i + 1)
      rw [HNN.out] at h2
      omega
    obtain ⟨kb, ob, rfl, hkb, hcb⟩ := HR2.out.byte (by rw [HNN.out]; omega)
    have hqN : q + z + 6 ≤ N := by
      have h1 := lenN_succ hil
      have h2 := lenN_le l (i + 1)
      rw [HS.out, HZ.out, HQ.out] at h1
      rw [HNN.out] at h2
      omega
    have hBc := HBy2.out.below HC.out
    have hpart := fun (j : Nat) (h : j < l.length) => four_at h
    have hE4 := fun (j : Nat) (h : j < l.length) (lo : Nat) (he : lenN l j = lo) (h4 : lo + 4 ≤ N) (n : Nat) => (show (convert 26 9 (.slice (some ⟨kb, ob + lo, none⟩) 4 (c2 - lo))).run Tryd.prog (wc.drewN n) = .ok (.string ⟨(four (chN l (j + 1))).toArray⟩) (wc.drewN n) from by
      rw [← four_at h, he]
      exact (By.part hBc (lo := lo) (m := 4) (c' := c2 - lo) (by rw [HNN.out]; omega) (by omega) (by omega)).conv_drewN n)
    have HE4 := Lib.hid hE4
    have HEnd := Lib.hid (HR3.out.keep HC.out HC.out.size)
    have HLl := Lib.hid (HRl.out.keep HC.out HC.out.size)
    have h4 : ∀ p r : Nat, p < 9973 → r < 9973 → p ≠ r → (!(ByteArray.mk (four p).toArray).toList == (ByteArray.mk (four r).toArray).toList) = true := fun p r hp hr h => nebB fun e => h (four_inj (by omega) (by omega) (by simpa using congrArg (fun s => s.data.toList) e))
    have H4 := Lib.hid h4
    clear hcut hcb hBc hTa hyz hpart hE4 h4
    obtain ⟨wb, rfl⟩ : ∃ wb : World, wb = wc := ⟨_, rfl⟩
    go_upto_region 19 with fail
    refine sw_B _ _ wb l s y b1 o1 kb ob wh at_ c1 c2 N M i z q HF hlog hc2 HNN hz hc1 HM hiM hil hMN hqN HQ H4 HE4 HLl _ _ _ _ _ _ _ _ _ _ _ _ _ _ _ _ _ _ _ _ _ _ _ _ _ _ _ _ _ _ _ _ _ _ _ _ _ _ _ _ _ _ _ _ _ _ _ _ _ _ _ _ _ _ _ _ _ _ _ _ _ _ _ _ _ _ _ _ _ _ _ _ _ _ _ _ _ _ _ _ _ _ _ _ _ _ _ _ _ _ _ _ _ _ _ _ _ _ _ _ _ _ _ _ _ _ _ _ _ _ _ _ _ _ _ _ _ _ _ _ _ _ _ _ _ _ _ _ _ _ _ _ _ _ _ _ _ _ _ _ _ _ _ _ _ _ _ _ _ _ _ _ _ _ _ _ _ _ _ _ _ _ _ _ _ _ _ _ _ _ _ _ _ _ _ _ _ _ _ _ _ _ _ _ _ _ _ _ _ _ _ _ _ _ _ ?_
    intro y120 y121 y122 y123 y124 y125 y126 y127 y128 y129 y130 y131 y132 y133 y134 y135 y136 y137 y138 y139 y140 y141 y142 y143 y144 y145 y146 y147 y148 y149 y150 y151 y152 y153 y154 y155 y156 y157 y158 y159 y160 y161 y162 y163 y164 y165 y166 y167 y168 wc hcut
    obtain ⟨hv, HQt⟩ := hcut
    have HBa := Lib.hid (HC.out.trans (HQt.out.below _))
    have HBc := Lib.hid (HB2.out.trans (HBa.out.mono HB2.out.size))
    rcases hv with ⟨rfl, hiM1, HNe⟩ | rfl
    · go_upto_if 168 with fail
      refine sw_C _ _ w wa wb wc l y A3 b1 o1 kb ob wh at_ c1 c2 c3 N M i z q HT HF hlog hc2 HNN hz hc1 hc3 HM hiM hil hiM1 HNe hqN HQ HB2 HC HQt HRl HR2 HEnd _ _ _ _ _ _ _ _ _ _ _ _ _ _ _ _ _ _ _ _ _ _ _ _ _ _ _ _ _ _ _ _ _ _ _ _ _ _ _ _ _ _ _ _ _ _ _ _ _ _ _ _ _ _ _ _ _ _ _ _ _ _ _ _ _ _ _ _ _ _ _ _ _ _ _ _ _ _ _ _ _ _ _ _ _ _ _ _ _ _ _ _ _ _ _ _ _ _ _ _ _ _ _ _ _ _ _ _ _ _ _ _ _ _ _ _ _ _ _ _ _ _ _ _ _ _ _ _ _ _ _ _ _ _ _ _ _ _ _ _ _ _ _ _ _ _ _ _ _ _ _ _ _ _ _ _ _ _ _ _ _ _ _ _ _ _ _ _ _ _ _ _ _ _ _ _ _ _ _ _ _ _ _ _ _ _ _ _ _ _ _ _ _ ?_
      intro z6 z18 z19 z20 z169 z170 z171 z172 z173 z174 z175 z176 z177 z178 z179 z180 z181 z182 z183 z184 z185 z186 z187 z188 z189 z190 z191 z192 z193 z194 z195 z196 z197 z198 z199 z200 wd HBd
      clear HE4 H4 HEnd HLl HR2 HR3 HBy2 HY HS HQ HC HQt HBa HRl HBc
      go_wp2_with fail
      refine (HAw wd HBd.out).out.mono ?_
      rintro e w9 ⟨rfl, b9⟩
      have HB9 := Lib.hid (HBd.out.trans (b9.mono HBd.out.size))
      clear b9
      go_wp2_with fail
      go_ret
      exact ⟨rfl, HB9.out⟩
    · clear HE4 H4 HEnd HLl HR2 HR3 HBy2 HY HS HQ HC HQt HBa HRl
      go_wp2_with fail
      refine (HAw wc HBc.out).out.mono ?_
      rintro e w9 ⟨rfl, b9⟩
      have HB9 := Lib.hid (HBc.out.trans (b9.mono HBc.out.size))
      clear b9
      go_wp2_with fail
      go_ret
      exact ⟨rfl, HB9.out⟩
end Go.Proofs.YtandanbojfdfjaaDoor
