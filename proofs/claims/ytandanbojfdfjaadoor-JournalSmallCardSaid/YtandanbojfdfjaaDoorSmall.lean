/- JournalSmall, walked whole. No condition. -/
import Derived.Test.YtandanbojfdfjaaDoorSmall1
import Derived.Great.BuildSlice
namespace Go.Proofs.YtandanbojfdfjaaDoor
open Go.ChangeShapes Go.WideShapes Go.ChangeAt Go.RowKit

set_option maxRecDepth 100000 in
set_option maxHeartbeats 4000000 in
theorem small_any (w : World) (hT : Tb w) : Calls Tryd.prog 10 #[] w fun e w' => e = .returned (.bool true) ∧ Below w.heap.size w w' := by
  have HT := Lib.hid hT
  clear hT
  go_enter Tryd.func10, Tryd.ntmps10
  go_wp2_with fail
  go_loopw [15] (fun i wr => ∃ k : Nat, k ≤ 256 ∧ i = .int .i64 k ∧ Hid (Below w.heap.size w wr)) (fun i _ => 256 - (intOf i).toNat)
  case atStart => exact ⟨0, by omega, rfl, Lib.hid (Below.refl _ _)⟩
  case round =>
    obtain ⟨k, hk, rfl, HB⟩ := hrel
    by_cases hlt : k < 256
    · obtain ⟨c, hc⟩ : ∃ c : UInt8, c.toNat = k := ⟨UInt8.ofNat k, by simp; omega⟩
      have hcv := conv_built (wr.alloc (.cells #[.int .u8 (k : Int), .int .u8 10, .int .u8 (k : Int)] 5)) [65, c] 2 (wr.heap.size + 1) #[.int .u8 65, .int .u8 (k : Int)] (by simp) (by simp [bcs, hc]) rfl
      have hrd : Rd (wr.alloc (.cells #[.int .u8 (k : Int), .int .u8 10, .int .u8 (k : Int)] 5)) (wr.alloc (.cells #[.int .u8 (k : Int), .int .u8 10, .int .u8 (k : Int)] 5)).heap.size (some ⟨wr.heap.size, 0, none⟩) (bcs [c, 10, c]) := by
        have := Rd.built (w := wr) (e := 5) (bcs [c, 10, c])
        rwa [show (bcs [c, 10, c]).toArray = #[.int .u8 (k : Int), .int .u8 10, .int .u8 (k : Int)] by simp [bcs, hc]] at this
      have hb1 := (below_alloc wr (.cells #[.int .u8 (k : Int), .int .u8 10, .int .u8 (k : Int)] 5)).trans ((below_alloc (wr.alloc (.cells #[.int .u8 (k : Int), .int .u8 10, .int .u8 (k : Int)] 5)) (.cells #[.int .u8 65, .int .u8 (k : Int)] 5)).mono (by simp))
      have hb2 := HB.out.trans (hb1.mono HB.out.size)
      have hrd2 := hrd.alloc (.cells #[.int .u8 65, .int .u8 (k : Int)] 5)
      go_wp2_with fail
      refine (scans_any _ 3 3 [c, 10, c] (40 * k) _ _ hrd2 rfl (by omega) (by omega) (by omega) (by omega) (by show 2 ≤ maxLen; decide) (HT.out.below hb2 HT.out.lt)).mono ?_
      rintro e w5 ⟨rfl, hb5⟩
      have HB5 := Lib.hid (hb2.trans (hb5.mono hb2.size))
      clear hb5 hb2 hb1 hrd hrd2 hcv HB
      generalize wr.heap.size = zr at *
      have hcv := conv_built w5 [c] 1 w5.heap.size #[.int .u8 (k : Int)] rfl (by simp [bcs, hc]) rfl
      go_wp2_with fail
      refine (does_new none 0 0 [] (-1) [(4, ⟨#[]⟩, 0), (0, ⟨#[c]⟩, 0), (4, ⟨#[]⟩, 0)] 3 _ _ _ _ rfl (by simp) rfl rfl ⟨okK 4 (by omega), okT _ (by show 1 ≤ 300; omega), okK 4 (by omega), trivial⟩ (by omega) Rd.nil rfl (by omega) (by omega) (by omega) (by omega) ?_).mono ?_
      · exact (HT.out.below HB5.out HT.out.lt).below (below_alloc w5 _) (HT.out.below HB5.out HT.out.lt).lt
      rintro e w6 ⟨rfl, hb6⟩
      have hb5 := below_alloc w5 (.cells #[.int .u8 (k : Int)] 5)
      have HB6 := Lib.hid (HB5.out.trans ((hb5.trans (hb6.mono hb5.size)).mono HB5.out.size))
      clear hb6 hb5 hcv HB5
      generalize w5.heap.size = z5 at *
      go_wp2_with fail
      go_roundw
      case rel => exact ⟨k + 1, by omega, by go_num, HB6⟩
      case measure => simp [intOf]; omega
    · have e256 : (k : Int) = 256 := by omega
      rw [e256]
      clear hk hlt e256
      go_wp2_with fail
      go_loopw [2] (fun i wq => ∃ k : Nat, 198 ≤ k ∧ k ≤ 203 ∧ i = .int .i64 k ∧ Hid (Below w.heap.size w wq)) (fun i _ => 203 - (intOf i).toNat)
      case atStart => exact ⟨198, by omega, by omega, rfl, HB⟩
      case round =>
        clear HB
        obtain ⟨k, hk0, hk, rfl, HB⟩ := hrel
        by_cases hlt : k < 203
        · go_wp2_with fail
          refine (rep_new 120 k (by omega) (by omega) wr).mono ?_
          rintro e w1 ⟨rfl, hb1⟩
          have hsx := repX_size 120 k
          generalize repX 120 k = X at *
          have hB1 := HB.out.trans (hb1.mono HB.out.size)
          clear hb1 HB
          go_wp2_with fail
          refine (scans_any none 0 0 [] 9972 X w1 Rd.nil rfl (by omega) (by omega) (by omega) (by omega) (Nat.le_trans (show X.size ≤ 300 by omega) (by decide)) (HT.out.below hB1 HT.out.lt)).mono ?_
          rintro e w2 ⟨rfl, hb2⟩
          have hB2 := hB1.trans (hb2.mono hB1.size)
          clear hb2 hB1 hsx
          go_wp2_with fail
          refine (rep_new 126 k (by omega) (by omega) w2).mono ?_
          rintro e w3 ⟨rfl, hb3⟩
          have hsx := repX_size 126 k
          generalize repX 126 k = Y at *
          have hB3 := hB2.trans (hb3.mono hB2.size)
          clear hb3 hB2
          go_wp2_with fail
          refine (does_new none 0 0 [] (-1) [(4, ⟨#[]⟩, 0), (0, Y, 0), (4, ⟨#[]⟩, 0)] 3 _ _ _ _ rfl rfl rfl rfl ⟨okK 4 (by omega), okT _ (by omega), okK 4 (by omega), trivial⟩ (by omega) Rd.nil rfl (by omega) (by omega) (by omega) (by omega) (HT.out.below hB3 HT.out.lt)).mono ?_
          rintro e w4 ⟨rfl, hb4⟩
          have HB4 := Lib.hid (hB3.trans (hb4.mono hB3.size))
          clear hb4 hB3 hsx
          generalize w3.heap.size = z3 at *
          go_wp2_with fail
          go_roundw
          case rel => exact ⟨k + 1, by omega, by omega, by go_num, HB4⟩
          case measure => simp [intOf]; omega
        · have e203 : (k : Int) = 203 := by omega
          rw [e203]
          clear hk0 hk hlt e203
          go_wp2_with fail
          have hb3 := HB.out.trans ((below_alloc wr (.cells #[.int .i64 (-1), .int .i64 0, .int .i64 1, .int .i64 9972, .int .i64 9973, .int .i64 4611686018427387904, .int .i64 (-9223372036854775808)] 3)).mono HB.out.size)
          have HS := Lib.hid (Blk.new wr #[.int .i64 (-1), .int .i64 0, .int .i64 1, .int .i64 9972, .int .i64 9973, .int .i64 4611686018427387904, .int .i64 (-9223372036854775808)] 3)
          generalize wr.alloc (.cells #[.int .i64 (-1), .int .i64 0, .int .i64 1, .int .i64 9972, .int .i64 9973, .int .i64 4611686018427387904, .int .i64 (-9223372036854775808)] 3) = w3 at *
          generalize wr.heap.size = S at *
          have HB3 := Lib.hid hb3
          clear hb3 HB wr
          go_loopw [64] (fun i wr => ∃ k : Nat, k ≤ 7 ∧ i = .int .i64 k ∧ Hid (Below w3.heap.size w3 wr)) (fun i _ => 7 - (intOf i).toNat)
          case atStart => exact ⟨0, by omega, rfl, Lib.hid (Below.refl _ _)⟩
          case round =>
            obtain ⟨k, hk, rfl, HB⟩ := hrel
            have hB := HB3.out.trans (HB.out.mono HB3.out.size)
            by_cases hlt : k < 7
            · obtain ⟨x, hx, hx1, hx2⟩ : ∃ x : Int, wr.cell? ⟨S, k, none⟩ = some (.int .i64 x) ∧ -(2^63) ≤ x ∧ x < 2^63 := by
                have h1 := HS.out.below HB.out
                rcases (show k = 0 ∨ k = 1 ∨ k = 2 ∨ k = 3 ∨ k = 4 ∨ k = 5 ∨ k = 6 by omega) with rfl | rfl | rfl | rfl | rfl | rfl | rfl
                · exact ⟨_, h1.cell 0 _ rfl, by omega, by omega⟩
                · exact ⟨_, h1.cell 1 _ rfl, by omega, by omega⟩
                · exact ⟨_, h1.cell 2 _ rfl, by omega, by omega⟩
                · exact ⟨_, h1.cell 3 _ rfl, by omega, by omega⟩
                · exact ⟨_, h1.cell 4 _ rfl, by omega, by omega⟩
                · exact ⟨_, h1.cell 5 _ rfl, by omega, by omega⟩
                · exact ⟨_, h1.cell 6 _ rfl, by omega, by omega⟩
              have hT := HT.out.below hB HT.out.lt
              clear HS hB
              go_wp2_with fail
              refine (scans_any none 0 0 [] x ⟨#[97, 98, 99]⟩ wr Rd.nil rfl (by omega) (by omega) hx1 hx2 (by decide) hT).mono ?_
              rintro e w4 ⟨rfl, hb4⟩
              have HB4 := Lib.hid (HB.out.trans (hb4.mono HB.out.size))
              clear hb4 hT HB hx
              go_wp2_with fail
              go_roundw
              case rel => exact ⟨k + 1, by omega, by go_num, HB4⟩
              case measure => simp [intOf]; omega
            · have e7 : (k : Int) = 7 := by omega
              rw [e7]
              have HB7 := Lib.hid hB
              clear hk hlt HB hB HS HB3 e7
              go_wp2_with fail
              obtain ⟨cs4, hcs4⟩ : ∃ cs4, cs4 = (#[.string ⟨#[111, 110, 101]⟩, .string ⟨#[]⟩, .string ⟨#[115, 101, 99, 111, 110, 100, 32, 114, 101, 99, 111, 114, 100]⟩, .string ⟨#[51]⟩] : Array Value) := ⟨_, rfl⟩
              rw [← hcs4]
              have hb4 := HB7.out.trans ((below_alloc wr (.cells cs4 9)).mono HB7.out.size)
              have HS := Lib.hid (Blk.new wr cs4 9)
              generalize wr.alloc (.cells cs4 9) = w4 at *
              generalize wr.heap.size = S4 at *
              have HB4 := Lib.hid hb4
              clear hb4 HB7 wr
              go_loopw [5, 6, 74] (fun v x i wr => ∃ (k n : Nat) (b : Bs) (l : Nat), k ≤ 4 ∧ i = .int .i64 k ∧ x = .int .i64 l ∧ l ≤ 10000 ∧ n ≤ 20 * k ∧ Hid (b.length = n) ∧ Hid (Own w4 wr 5 1 v n (bcs b))) (fun _ _ i _ => 4 - (intOf i).toNat)
              case atStart => exact ⟨0, 0, [], 1, by omega, rfl, rfl, by omega, by omega, Lib.hid rfl, Lib.hid (Own.nil _ _ (Below.refl _ _))⟩
              case round =>
                obtain ⟨k, n, b, l, hk, rfl, rfl, hl, hn, HN, HO⟩ := hrel
                by_cases hlt : k < 4
                · obtain ⟨t, ht, hts⟩ : ∃ t : ByteArray, wr.cell? ⟨S4, k, none⟩ = some (.string t) ∧ t.size ≤ 13 := by
                    have h1 := HS.out.below HO.out.bel
                    rw [hcs4] at h1
                    rcases (show k = 0 ∨ k = 1 ∨ k = 2 ∨ k = 3 by omega) with rfl | rfl | rfl | rfl
                    · exact ⟨_, h1.cell 0 _ rfl, by decide⟩
                    · exact ⟨_, h1.cell 1 _ rfl, by decide⟩
                    · exact ⟨_, h1.cell 2 _ rfl, by decide⟩
                    · exact ⟨_, h1.cell 3 _ rfl, by decide⟩
                  clear HS hcs4
                  have htm : t.size ≤ maxLen := Nat.le_trans hts (by decide)
                  have hll := linR_len l t.data.toList
                  have hcl := chkR_nat l t.data.toList
                  have htl : t.data.toList.length = t.size := rfl
                  have HL1 := fun W => Lib.hid (Lin_ref l t W (by omega) (by omega) htm)
                  have HC1 := fun W => Lib.hid (Chk_ref l t W (by omega) (by omega) htm)
                  generalize (linR l t.data.toList).1 = li at *
                  generalize (linR l t.data.toList).2 = le at *
                  generalize chkR l t.data.toList = cr at *
                  go_wp2_with fail
                  refine (HL1 _).out.mono ?_
                  rintro e w5 ⟨rfl, hb5⟩
                  have HO5 := Lib.hid (HO.out.later hb5)
                  clear HO hb5 HL1 ht
                  go_wp2_with fail
                  refine (HC1 _).out.mono ?_
                  rintro e w6 ⟨rfl, rfl⟩
                  have HO6 := HO5
                  clear HO5 HC1
                  have hsz : (ByteArray.mk li.toArray).size = li.length := rfl
                  go_wp2_with (at_builtin; refine ap_str rfl (.tmp 90) (.tmp 91) rfl (ByteArray.mk li.toArray) HO6.out rfl rfl (by omega) ?_; intro v7 w7 own7; have HO7 := Lib.hid own7; clear own7)
                  go_roundw
                  case rel => exact ⟨k + 1, n + li.length, b ++ li, cr.1, by omega, by go_num, rfl, hcl, by omega, Lib.hid (by rw [List.length_append, HN.out]), Lib.hid (by have := HO7.out; rwa [show bcs b ++ bcs (ByteArray.mk li.toArray).data.toList = bcs (b ++ li) by simp [bcs], hsz] at this)⟩
                  case measure => simp [intOf]; omega
                · have e4 : (k : Int) = 4 := by omega
                  rw [e4]
                  obtain ⟨A, c, rfl, hnc, hrd⟩ := HO.out.rd
                  have hB5 := HB4.out.trans (HO.out.bel.mono HB4.out.size)
                  have HTt : ∀ W, Below wr.heap.size wr W → Tb W := fun W h => HT.out.below (hB5.trans (h.mono hB5.size)) HT.out.lt
                  have HB5 := Lib.hid hB5
                  have HR5 := Lib.hid hrd
                  have hn80 : n ≤ 80 := by omega
                  clear hrd hB5 HO HB4 HS hcs4 hlt e4 hn hk hl
                  go_wp2_with fail
                  generalize wr = w5 at *
                  go_loopw [11] (fun i wr => ∃ k : Nat, k ≤ n + 1 ∧ i = .int .i64 k ∧ Hid (Below w5.heap.size w5 wr)) (fun i _ => n + 1 - (intOf i).toNat)
                  case atStart => exact ⟨0, by omega, rfl, Lib.hid (Below.refl _ _)⟩
                  case round =>
                    obtain ⟨k, hk, rfl, HB⟩ := hrel
                    by_cases hlt : k ≤ n
                    · go_wp2_with fail
                      obtain ⟨cs8, hcs8⟩ : ∃ cs8, cs8 = (#[.int .u8 0, .int .u8 10, .int .u8 32, .int .u8 48, .int .u8 57, .int .u8 65, .int .u8 127, .int .u8 255] : Array Value) := ⟨_, rfl⟩
                      rw [← hcs8]
                      have hb6 := HB.out.trans ((below_alloc wr (.cells cs8 5)).mono HB.out.size)
                      have HC := Lib.hid (Blk.new wr cs8 5)
                      generalize wr.alloc (.cells cs8 5) = w6 at *
                      generalize wr.heap.size = S6 at *
                      have HB6 := Lib.hid hb6
                      clear hb6 HB wr
                      go_loopw [102] (fun i wr => ∃ j : Nat, j ≤ 8 ∧ i = .int .i64 j ∧ Hid (Below w6.heap.size w6 wr)) (fun i _ => 8 - (intOf i).toNat)
                      case atStart => exact ⟨0, by omega, rfl, Lib.hid (Below.refl _ _)⟩
                      case round =>
                        obtain ⟨j, hj, rfl, HBj⟩ := hrel
                        have hB7 := HB6.out.trans (HBj.out.mono HB6.out.size)
                        by_cases hjt : j < 8
                        · obtain ⟨ch, hch⟩ : ∃ ch : UInt8, wr.cell? ⟨S6, j, none⟩ = some (.int .u8 (ch.toNat : Int)) := by
                            have h1 := HC.out.below HBj.out
                            rw [hcs8] at h1
                            rcases (show j = 0 ∨ j = 1 ∨ j = 2 ∨ j = 3 ∨ j = 4 ∨ j = 5 ∨ j = 6 ∨ j = 7 by omega) with rfl | rfl | rfl | rfl | rfl | rfl | rfl | rfl
                            · exact ⟨0, h1.cell 0 _ rfl⟩
                            · exact ⟨10, h1.cell 1 _ rfl⟩
                            · exact ⟨32, h1.cell 2 _ rfl⟩
                            · exact ⟨48, h1.cell 3 _ rfl⟩
                            · exact ⟨57, h1.cell 4 _ rfl⟩
                            · exact ⟨65, h1.cell 5 _ rfl⟩
                            · exact ⟨127, h1.cell 6 _ rfl⟩
                            · exact ⟨255, h1.cell 7 _ rfl⟩
                          have hch2 : ch.toNat < 256 := ch.toNat_lt
                          clear hcs8 HC
                          have HR7 := Lib.hid (HR5.out.now hB7)
                          have HR6 := Lib.hid (HR5.out.now HB6.out)
                          have HTt6 : ∀ W, Below w6.heap.size w6 W → Tb W := fun W h => HTt W (HB6.out.trans (h.mono HB6.out.size))
                          go_upto_region 34 with (at_builtin; refine ap_many rfl (.tmp 106) (.tmp 107) 26 rfl eByte A n c (bcs b) (Own.built wr 5 0 [] (Below.refl _ _) rfl (by omega)) rfl rfl (by rw [Nat.mul_one, List.length_map]; exact HN.out) (HR7.out.alloc _) (oneCells_bcs _) (by omega) ?_; intro v7 w7 own7 hsz7; rw [Nat.zero_add, List.nil_append] at own7; have HO7 := Lib.hid own7; clear own7 hsz7)
                          by_cases hkn : k < n
                          · obtain ⟨g, cx, u, rfl, hcu, hfu, hncx, hset⟩ := own_set HO7.out HN.out k hkn
                            have HSet := Lib.hid (hset ch)
                            clear hset HO7 hch
                            go_upto_region 36 with fail
                            obtain ⟨b2, hb2e⟩ : ∃ b2, b.set k ch = b2 := ⟨_, rfl⟩
                            have hb2 : b2.length = n := by rw [← hb2e, List.length_set]; exact HN.out
                            have HRx := Lib.hid HSet.out.2
                            have HBy := Lib.hid (HBj.out.trans (HSet.out.1.mono HBj.out.size))
                            rw [hb2e] at HRx
                            clear HSet hcu hfu hb2e HR7
                            generalize w7.setCell ⟨g, k, none⟩ (.int .u8 (ch.toNat : Int)) = wy at *
                            go_wp2_with fail
                            refine (scans_any _ n _ b2 1 ⟨#[]⟩ _ HRx.out hb2 (by omega) (by omega) (by omega) (by omega) (by decide) (HTt6 _ HBy.out)).mono ?_
                            rintro e w8 ⟨rfl, hb8⟩
                            have HB8 := Lib.hid (HBy.out.trans (hb8.mono HBy.out.size))
                            have HR8 := Lib.hid (HRx.out.now hb8)
                            clear HBy HRx hb8
                            go_wp2_with fail
                            refine (scans_any A k c (b.take k) 1 ⟨#[]⟩ w8 (by have := (HR6.out.now HB8.out).take k; rwa [bcs_take] at this) (by rw [List.length_take, HN.out]; omega) (by omega) (by omega) (by omega) (by omega) (by decide) (HTt6 _ HB8.out)).mono ?_
                            rintro e w9 ⟨rfl, hb9⟩
                            have HB9 := Lib.hid (HB8.out.trans (hb9.mono HB8.out.size))
                            have HR9 := Lib.hid (HR8.out.now hb9)
                            clear HB8 HR8 hb9
                            go_wp2_with fail
                            refine (does_new _ n _ b2 _ [(4, ⟨#[]⟩, 0), (0, ⟨#[65]⟩, 0), (5, ⟨#[]⟩, 0), (4, ⟨#[]⟩, 0), (0, ⟨#[66]⟩, 0)] 5 _ _ _ _ rfl rfl rfl rfl ⟨okK 4 (by omega), okT _ (by decide), okK 5 (by omega), okK 4 (by omega), okT _ (by decide), trivial⟩ (by omega) HR9.out hb2 (by omega) (by omega) (by omega) (by omega) (HTt6 _ HB9.out)).mono ?_
                            rintro e wz ⟨rfl, hbz⟩
                            have HBz := Lib.hid (HB9.out.trans (hbz.mono HB9.out.size))
                            clear HB9 HR9 hbz
                            generalize w9.heap.size = z9 at *
                            go_wp2_with fail
                            go_roundw
                            case rel => exact ⟨j + 1, by omega, by go_num, HBz⟩
                            case measure => simp [intOf]; omega
                          · obtain ⟨A7, cx, rfl, hncx, hrx⟩ := HO7.out.rd
                            have HBy := Lib.hid (HBj.out.trans (HO7.out.bel.mono HBj.out.size))
                            have HRx := Lib.hid hrx
                            have hb2 := HN.out
                            obtain ⟨b2, hb2e⟩ : ∃ b2, b = b2 := ⟨_, rfl⟩
                            rw [hb2e] at HRx hb2
                            clear HO7 hch HR7 hrx hb2e
                            go_wp2_with fail
                            refine (scans_any _ n _ b2 1 ⟨#[]⟩ _ HRx.out hb2 (by omega) (by omega) (by omega) (by omega) (by decide) (HTt6 _ HBy.out)).mono ?_
                            rintro e w8 ⟨rfl, hb8⟩
                            have HB8 := Lib.hid (HBy.out.trans (hb8.mono HBy.out.size))
                            have HR8 := Lib.hid (HRx.out.now hb8)
                            clear HBy HRx hb8
                            go_wp2_with fail
                            refine (scans_any A k c (b.take k) 1 ⟨#[]⟩ w8 (by have := (HR6.out.now HB8.out).take k; rwa [bcs_take] at this) (by rw [List.length_take, HN.out]; omega) (by omega) (by omega) (by omega) (by omega) (by decide) (HTt6 _ HB8.out)).mono ?_
                            rintro e w9 ⟨rfl, hb9⟩
                            have HB9 := Lib.hid (HB8.out.trans (hb9.mono HB8.out.size))
                            have HR9 := Lib.hid (HR8.out.now hb9)
                            clear HB8 HR8 hb9
                            go_wp2_with fail
                            refine (does_new _ n _ b2 _ [(4, ⟨#[]⟩, 0), (0, ⟨#[65]⟩, 0), (5, ⟨#[]⟩, 0), (4, ⟨#[]⟩, 0), (0, ⟨#[66]⟩, 0)] 5 _ _ _ _ rfl rfl rfl rfl ⟨okK 4 (by omega), okT _ (by decide), okK 5 (by omega), okK 4 (by omega), okT _ (by decide), trivial⟩ (by omega) HR9.out hb2 (by omega) (by omega) (by omega) (by omega) (HTt6 _ HB9.out)).mono ?_
                            rintro e wz ⟨rfl, hbz⟩
                            have HBz := Lib.hid (HB9.out.trans (hbz.mono HB9.out.size))
                            clear HB9 HR9 hbz
                            generalize w9.heap.size = z9 at *
                            go_wp2_with fail
                            go_roundw
                            case rel => exact ⟨j + 1, by omega, by go_num, HBz⟩
                            case measure => simp [intOf]; omega
                        · have e8 : (j : Int) = 8 := by omega
                          have HB7 := Lib.hid hB7
                          clear hB7 HBj HC hcs8 hjt hj HR5
                          go_wp2_with fail
                          refine (does_new none 0 0 [] k [(4, ⟨#[]⟩, 0), (0, ⟨#[111, 110, 101]⟩, 0), (0, ⟨#[]⟩, 0), (0, ⟨#[115, 101, 99, 111, 110, 100, 32, 114, 101, 99, 111, 114, 100]⟩, 0), (0, ⟨#[51]⟩, 0), (6, ⟨#[]⟩, 1), (4, ⟨#[]⟩, 0), (0, ⟨#[120]⟩, 0), (6, ⟨#[]⟩, -1), (4, ⟨#[]⟩, 0), (0, ⟨#[121]⟩, 0)] 11 wr _ _ _ rfl rfl rfl rfl ⟨okK 4 (by omega), okT _ (by decide), okK 0 (by omega), okT _ (by decide), okT _ (by decide), okN 1 (by omega) (by omega), okK 4 (by omega), okT _ (by decide), okN (-1) (by omega) (by omega), okK 4 (by omega), okT _ (by decide), trivial⟩ (by omega) Rd.nil rfl (by omega) (by omega) (by omega) (by omega) (HTt _ HB7.out)).mono ?_
                          rintro e w8 ⟨rfl, hb8⟩
                          have HB8 := Lib.hid (HB7.out.trans (hb8.mono HB7.out.size))
                          clear HB7 hb8
                          generalize wr.heap.size = z8 at *
                          go_wp2_with fail
                          go_roundw
                          case rel => exact ⟨k + 1, by omega, by go_num, HB8⟩
                          case measure => simp [intOf]; omega
                    · have ek : k = n + 1 := by omega
                      clear hk HR5 HN
                      go_wp2_with fail
                      refine (full_any wr (HTt _ HB.out)).mono ?_
                      rintro e w6 ⟨rfl, hb6⟩
                      have HB6 := Lib.hid (HB.out.trans (hb6.mono HB.out.size))
                      clear HB hb6
                      go_wp2_with fail
                      refine (none_any w6).mono ?_
                      rintro e w7 ⟨rfl, hb7⟩
                      have HB7 := Lib.hid (HB6.out.trans (hb7.mono HB6.out.size))
                      clear HB6 hb7
                      go_wp2_with fail
                      refine (awake_any w7 (HTt _ HB7.out)).mono ?_
                      rintro e w8 ⟨rfl, hb8⟩
                      have HB8 := Lib.hid (HB7.out.trans (hb8.mono HB7.out.size))
                      clear HB7 hb8
                      go_wp2_with fail
                      go_ret
                      exact ⟨rfl, HB5.out.trans (HB8.out.mono HB5.out.size)⟩
end Go.Proofs.YtandanbojfdfjaaDoor
