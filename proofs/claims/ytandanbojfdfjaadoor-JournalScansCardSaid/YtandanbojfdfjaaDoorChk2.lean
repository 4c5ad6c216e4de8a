import Derived.Test.YtandanbojfdfjaaDoorChk1
namespace Go.Proofs.YtandanbojfdfjaaDoor
open Go.ChangeShapes Go.WideShapes Go.ChangeAt Go.RowKit

theorem bcs_len' (b : Bs) : (bcs b).length = b.length := by simp
theorem pcs_snoc (s : ByteArray) (k : Nat) (h : k < s.size) : (s.data.toList.take (k + 1)).map pc = (s.data.toList.take k).map pc ++ [pc s[k]] := by
  rw [take_snoc s k h]; simp
theorem min_id {a b m : Nat} (h : min a b = m) : min (a : Int) (b : Int) = (m : Int) := by omega

set_option maxRecDepth 100000 in
set_option maxHeartbeats 4000000 in
theorem checks_any (a b : Nat) (s : ByteArray) (w : World) (ha : a < 65536) (hb : b < 65536) (hs : s.size ≤ maxLen) (hT : Tb w) :
    Calls Tryd.prog 7 #[.int .u16 a, .int .u16 b, .string s] w fun e w' => e = .returned (.bool true) ∧ Below w.heap.size w w' := by
  unfold maxLen at hs
  have HT := Lib.hid hT
  clear hT
  obtain ⟨m, hm⟩ : ∃ m, min s.size 200 = m := ⟨_, rfl⟩
  have hmz := min_id hm
  have hm1 : m ≤ s.size := by omega
  have hm2 : m ≤ 200 := by omega
  have HX := Lib.hid hmz
  clear hm hmz
  go_enter Tryd.func7, Tryd.ntmps7
  go_wp2_with ((with_reducible refine min_step _ _ .i64 s.size 200 m ?_ ?_ ?_ ?_); (exact rfl); (exact rfl); (exact HX.out))
  go_loopw [9, 31] (fun v i wr => ∃ k : Nat, k ≤ m ∧ i = .int .i64 k ∧ Own w wr 5 1 v k (bcs ((s.data.toList.take k).map pc))) (fun _ i _ => m - (intOf i).toNat)
  case atStart => exact ⟨0, Nat.zero_le _, rfl, by simpa [bcs] using Own.nil 5 1 (Below.refl _ _)⟩
  case round =>
    obtain ⟨k, hk, rfl, own⟩ := hrel
    by_cases hlt : k < m
    · have hks : k < s.size := by omega
      have HN := Lib.hid (pcs_snoc s k hks)
      have HP := Lib.hid (pc_nat s[k])
      have hlb : s[k].toNat < 256 := s[k].toNat_lt
      have HO := Lib.hid own
      clear own
      go_wp2_with (at_builtin; refine ap_one rfl (.tmp 34) (.tmp 40) 26 rfl eByte [.int .u8 (32 + (s[k].toNat : Int) % 95)] HO.out rfl rfl rfl (by simp [Value.oneCell']) (by omega) ?_; intro v' w' hown' hsz)
      go_roundw
      case rel => exact ⟨k + 1, by omega, by go_num, by
        have e : bcs ((s.data.toList.take (k + 1)).map pc) = bcs ((s.data.toList.take k).map pc) ++ [.int .u8 (32 + (s[k].toNat : Int) % 95)] := by
          rw [HN.out]; simp [bcs, HP.out]
        rw [e]; exact hown'⟩
      case measure => simp [intOf]; omega
    · obtain rfl : k = m := by omega
      have hrec := txt_rec k hm2 s.data.toList
      have htl : ((s.data.toList.take k).map pc).length = k := by simp; omega
      generalize (s.data.toList.take k).map pc = t at *
      have hby : By wr _ t := By.row (base := w.heap.size) (by rw [htl]; exact own.row)
      have hcv := hby.conv
      have HB := Lib.hid own.bel
      clear own hby
      go_wp2_with fail
      have hx : a % 9973 < 9973 := Nat.mod_lt _ (by omega)
      have hy : b % 9973 < 9973 := Nat.mod_lt _ (by omega)
      have ex : ((a : Int) % 9973) = ((a % 9973 : Nat) : Int) := by omega
      have ey : ((b : Int) % 9973) = ((b % 9973 : Nat) : Int) := by omega
      rw [ex, ey]
      have HIJ := Lib.hid (show chk (a % 9973) t = chk (b % 9973) t ↔ a % 9973 = b % 9973 from ⟨chk_inj hx hy t, fun h => by rw [h]⟩)
      generalize a % 9973 = x at *
      generalize b % 9973 = y at *
      have HCx := fun W => Lib.hid (Check_n x x ⟨t.toArray⟩ W rfl hx hrec)
      have HCy := fun W => Lib.hid (Check_n y y ⟨t.toArray⟩ W rfl hy hrec)
      have HLx := fun W h => Lib.hid (Line_n x x ⟨t.toArray⟩ W rfl hx hrec h)
      have HC1 := fun W => Lib.hid (Check_n 1 1 ⟨t.toArray⟩ W rfl (by omega) hrec)
      simp only at HCx HCy HLx HC1
      have hpx := chk_lt x t
      have hpy := chk_lt y t
      have HLN := Lib.hid (show lin x t = four (chk x t) ++ [32] ++ t ++ [10] from rfl)
      have hll := lin_len x t
      clear ex ey hx hy hcv
      generalize chk x t = p at *
      generalize chk y t = q at *
      generalize lin x t = li at *
      refine (HCx wr).out.mono ?_
      rintro e w1 ⟨rfl, b1⟩
      have B1 := Lib.hid (HB.out.trans (b1.mono HB.out.size))
      clear b1
      go_wp2_with fail
      refine (HCy w1).out.mono ?_
      rintro e w2 ⟨rfl, b1⟩
      have B2 := Lib.hid (B1.out.trans (b1.mono B1.out.size))
      clear b1
      have HL2 := HLx w2 (HT.out.below B2.out HT.out.lt)
      go_wp2_with fail
      refine HL2.out.mono ?_
      rintro e w3 ⟨rfl, b1⟩
      have B3 := Lib.hid (B2.out.trans (b1.mono B2.out.size))
      clear b1 HL2 HLx HCx HCy B1 B2
      have hlz : li.length = t.length + 6 := hll
      have e1 := eqbB (ext5 li t p HLN.out).2
      have hcv5 := conv5 w3 p hpx
      obtain ⟨u5, hu5⟩ : ∃ u5 : List UInt8, four p ++ [32] = u5 := ⟨_, rfl⟩
      rw [hu5] at hcv5
      have e2 : (!((ByteArray.mk li.toArray).extract 0 5).toList == u5) = false := by
        have h := eqbB (ext5 li t p HLN.out).1
        rw [hu5, show (ByteArray.mk u5.toArray).toList = u5 from ByteArray.toList_mk u5] at h
        exact h
      clear hu5
      clear hll
      have HLZ := Lib.hid hlz
      have hlz2 : (li.length : Int) = (t.length : Int) + 6 := by omega
      have HTL := Lib.hid htl
      have ht2 : t.length ≤ 200 := by omega
      clear hlz htl
      have f1 : ((p : Int) == (q : Int)) = decide (x = y) := by
        rw [Bool.eq_iff_iff, beq_iff_eq, decide_eq_true_eq, ← HIJ.out]; omega
      have f2 : ((x : Int) == (y : Int)) = decide (x = y) := by
        rw [Bool.eq_iff_iff, beq_iff_eq, decide_eq_true_eq]; omega
      generalize decide (x = y) = d at *
      go_wp2_with fail
      go_region
      have b4 : Below w3.heap.size w3 (w3.alloc (.cells #[Value.int .u8 (48 + (p : Int) / 1000), .int .u8 (48 + (p : Int) / 100 % 10), .int .u8 (48 + (p : Int) / 10 % 10), .int .u8 (48 + (p : Int) % 10), .int .u8 32] 5)).drew := (below_alloc _ _).drew
      have B4 := Lib.hid (B3.out.trans (b4.mono B3.out.size))
      clear b4 hcv5
      generalize (w3.alloc (.cells #[Value.int .u8 (48 + (p : Int) / 1000), .int .u8 (48 + (p : Int) / 100 % 10), .int .u8 (48 + (p : Int) / 10 % 10), .int .u8 (48 + (p : Int) % 10), .int .u8 32] 5)).drew = w4 at *
      go_wp2_with fail
      clear e1 e2 f1 f2
      have HO : Hid _ := Lib.hid (open_any w4.heap.size [] (-1) (w4.alloc (.cells #[.slice none 0 0, .int .i64 (-1)] 28)) ⟨.slice none 0 0, Blk.new _ _ _, By.nil _⟩ (by decide) (by decide) (by decide) (HT.out.below (B4.out.trans ((below_alloc _ _).mono B4.out.size)) HT.out.lt))
      rw [open_new] at HO
      refine HO.out.mono ?_
      intro e w5 ho
      obtain ⟨L, rfl, h1, _⟩ := Sys.of_open (B4.out.trans ((below_alloc _ _).mono B4.out.size)) B4.out.size ho
      have H1 := Lib.hid h1
      have HA := Lib.hid (app_num h1 HT.out ⟨t.toArray⟩ (by decide) (by decide) (by decide) (by decide) (by decide) (by decide) (app_free hrec (by simp; omega)))
      have HL : Hid (Calls Tryd.prog 24 #[.pointer (some ⟨L, 0, none⟩)] w5 fun e w' => e = .returned (.int .i64 1) ∧ w5 = w') := Lib.hid h1.last
      clear h1 ho HO
      go_wp2_with fail
      refine HL.out.mono ?_
      rintro e w6 ⟨rfl, rfl⟩
      go_wp2_with fail
      refine HA.out.mono ?_
      rintro e w6 ⟨rfl, h2, _⟩
      have H2 := Lib.hid h2
      have HL2 : ∀ W, Below w6.heap.size w6 W → Hid (Calls Tryd.prog 24 #[.pointer (some ⟨L, 0, none⟩)] W fun e w' => e = .returned (.int .i64 (chk 1 t : Nat)) ∧ W = w') := fun W hb => Lib.hid (h2.below (w' := W) hb).last
      have HS2 : ∀ W, Below w6.heap.size w6 W → Hid (Calls Tryd.prog 17 #[.pointer (some ⟨L, 0, none⟩)] W fun e w' => e = .returned (.int .i64 ((t.length : Int) + 6)) ∧ W = w') := fun W hb => Lib.hid (by
        have h := (h2.below (w' := W) hb).size
        rw [show ((St.zero.add t).size : Int) = (t.length : Int) + 6 by simp [St.add, St.zero]] at h
        exact h)
      clear h2 HA HL H1
      go_wp2_with fail
      refine (HC1 w6).out.mono ?_
      rintro e w7 ⟨rfl, b7⟩
      have HL3 := HL2 w7 b7
      have HS3 := HS2 w7 b7
      have B7 := Lib.hid (H2.out.bel.trans (b7.mono H2.out.bel.size))
      clear b7 HL2 HS2 HC1
      go_wp2_with fail
      refine HL3.out.mono ?_
      rintro e w8 ⟨rfl, rfl⟩
      go_wp2_with fail
      refine HS3.out.mono ?_
      rintro e w8 ⟨rfl, rfl⟩
      go_wp2_with fail
      refine (awake_any w7 (HT.out.below B7.out HT.out.lt)).mono ?_
      rintro e w8 ⟨rfl, b8⟩
      have B8 := Lib.hid (B7.out.trans (b8.mono B7.out.size))
      clear b8
      go_wp2_with fail
      go_ret
      exact ⟨rfl, B8.out⟩
end Go.Proofs.YtandanbojfdfjaaDoor
