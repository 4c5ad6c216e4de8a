import Derived.Test.YtandanbojfdfjaaDoorAwake
namespace Go.Proofs.YtandanbojfdfjaaDoor
open Go.ChangeShapes Go.WideShapes Go.ChangeAt Go.RowKit

/-! The law JournalChecks: plain facts -/

/-- a byte made one of a record -/
def pc (c : UInt8) : UInt8 := UInt8.ofNat (32 + c.toNat % 95)
theorem pc_nat (c : UInt8) : (pc c).toNat = 32 + c.toNat % 95 := by
  unfold pc
  rw [UInt8.toNat_ofNat_of_lt']
  show _ < 256
  have := Nat.mod_lt c.toNat (show 95 > 0 by omega)
  omega
theorem pc_ok (c : UInt8) : okc (pc c) = true := by
  have h := pc_nat c
  have := Nat.mod_lt c.toNat (show 95 > 0 by omega)
  unfold okc
  simp
  omega
theorem txt_rec (n : Nat) (hn : n ≤ 200) (l : Bs) : recB ((l.take n).map pc) = true := by
  unfold recB
  simp only [Bool.and_eq_true, decide_eq_true_eq, List.all_eq_true]
  refine ⟨by simp; omega, fun c hc => ?_⟩
  obtain ⟨d, _, rfl⟩ := List.mem_map.1 hc
  exact pc_ok d
theorem stp_inj {x y : Nat} (hx : x < 9973) (hy : y < 9973) (c : UInt8) (h : stp x c = stp y c) : x = y := by
  unfold stp at h
  omega
theorem fol_inj : ∀ (l : Bs) {x y : Nat}, x < 9973 → y < 9973 → fol x l = fol y l → x = y
  | [], _, _, _, _, h => h
  | c :: r, x, y, hx, hy, h => stp_inj hx hy c (fol_inj r (stp_lt x c) (stp_lt y c) h)
theorem chk_inj {x y : Nat} (hx : x < 9973) (hy : y < 9973) (l : Bs) (h : chk x l = chk y l) : x = y := by
  have h1 := fol_lt hx l
  have h2 := fol_lt hy l
  refine fol_inj l hx hy ?_
  unfold chk at h
  omega
theorem linR_ok {x : Nat} {l : Bs} (hx : x < 9973) (hl : recB l = true) : linR x l = (lin x l, 0) := by
  have : wrg x l = 0 := by unfold wrg; rw [if_neg (by omega), if_pos hl]
  unfold linR; rw [if_pos this]; rfl
theorem chkR_ok {x : Nat} {l : Bs} (hx : x < 9973) (hl : recB l = true) : chkR x l = (chk x l, 0) := by
  have : wrg x l = 0 := by unfold wrg; rw [if_neg (by omega), if_pos hl]
  unfold chkR; rw [if_pos this]; rfl

theorem Check_n (xi : Int) (x : Nat) (s : ByteArray) (w : World) (hi : xi = x) (hx : x < 9973) (hr : recB s.data.toList = true) :
    Calls Tryd.prog 22 #[.int .i64 xi, .string s] w fun e w' => e = .returned (.tuple #[.int .i64 (chk x s.data.toList), .int .i64 0]) ∧ Below w.heap.size w w' := by
  subst hi
  have := Check_any x s w (by omega) (by omega)
  rw [chkR_ok hx hr] at this
  exact this
theorem Line_n (xi : Int) (x : Nat) (s : ByteArray) (w : World) (hi : xi = x) (hx : x < 9973) (hr : recB s.data.toList = true) (hT : Tb w) :
    Calls Tryd.prog 23 #[.int .i64 xi, .string s] w fun e w' => e = .returned (.tuple #[.string ⟨(lin x s.data.toList).toArray⟩, .int .i64 0]) ∧ Below w.heap.size w w' := by
  subst hi
  have := Line_any x s w (by omega) (by omega) hT
  rw [linR_ok hx hr] at this
  exact this

theorem By.conv {w : World} {v : Value} {b : Bs} (h : By w v b) : (convert 26 9 v).run Tryd.prog w = .ok (.string ⟨b.toArray⟩) w := by
  rcases h with ⟨rfl, rfl⟩ | ⟨g, o, c', cs, rfl, hb, hc', hcs, _⟩
  · exact conv_nil w
  · have := Lib.run_convert_whole (P := Tryd.prog) w 26 5 9 (by kernel_rfl) (by kernel_rfl) (by kernel_rfl) g o ⟨b.toArray⟩ (fun i hi => by
      have := hb.cell (o + i) _ (hcs i _ (by rw [List.getElem?_map, List.getElem?_eq_getElem (show i < b.length from hi)]; rfl))
      exact this) c'
    exact this
/-- Append with no end of power -/
theorem app_free {b : Bs} {s : St} {t : Bs} (hr : recB t = true) (hl : b.length + (t.length + 6) ≤ 1048576) : appR b (-1) s false t = (0, b ++ lin s.last t, -1, s.add t, false) := by
  unfold appR
  rw [if_neg (by decide), if_neg (by rw [hr]; decide), if_neg (by omega)]
  have h1 : useR (-1) (t.length + 6) = t.length + 6 := by unfold useR; rw [if_pos (by decide)]
  have h2 : useL (-1) (t.length + 6) = -1 := by unfold useL; rw [if_pos (by decide)]
  rw [h1, h2, if_neg (by omega)]
theorem open_new (p : Int) : openR [] p = (some .zero, 0, [], p) := by
  unfold openR
  rw [if_neg (by decide), scanS_nil]
  rfl
theorem dig_nat (n : Nat) : (dig n).toNat = 48 + n % 10 := by
  unfold dig
  rw [UInt8.toNat_ofNat_of_lt']
  show _ < 256
  have := Nat.mod_lt n (show 10 > 0 by omega)
  omega
theorem four_cells (p : Nat) (hp : p < 9973) : (bcs (four p ++ [32])).toArray = #[Value.int .u8 (48 + (p : Int) / 1000), .int .u8 (48 + (p : Int) / 100 % 10), .int .u8 (48 + (p : Int) / 10 % 10), .int .u8 (48 + (p : Int) % 10), .int .u8 32] := by
  have h1 : ((dig (p / 1000)).toNat : Int) = 48 + (p : Int) / 1000 := by rw [dig_nat]; omega
  have h2 : ((dig (p / 100)).toNat : Int) = 48 + (p : Int) / 100 % 10 := by rw [dig_nat]; omega
  have h3 : ((dig (p / 10)).toNat : Int) = 48 + (p : Int) / 10 % 10 := by rw [dig_nat]; omega
  have h4 : ((dig p).toNat : Int) = 48 + (p : Int) % 10 := by rw [dig_nat]; omega
  simp [bcs, four, h1, h2, h3, h4]
theorem conv5 (w : World) (p : Nat) (hp : p < 9973) :
    (convert 26 9 (.slice (some ⟨w.heap.size, 0, none⟩) 5 5)).run Tryd.prog (w.alloc (.cells #[Value.int .u8 (48 + (p : Int) / 1000), .int .u8 (48 + (p : Int) / 100 % 10), .int .u8 (48 + (p : Int) / 10 % 10), .int .u8 (48 + (p : Int) % 10), .int .u8 32] 5)).drew =
      .ok (.string ⟨(four p ++ [32]).toArray⟩) (w.alloc (.cells #[Value.int .u8 (48 + (p : Int) / 1000), .int .u8 (48 + (p : Int) / 100 % 10), .int .u8 (48 + (p : Int) / 10 % 10), .int .u8 (48 + (p : Int) % 10), .int .u8 32] 5)).drew := by
  rw [← four_cells p hp]
  refine By.conv (.inr ⟨w.heap.size, 0, 5, (bcs (four p ++ [32])).toArray, rfl, Blk.new _ _ _, Nat.le_refl _, fun j u hu => ?_, by simp [four]⟩)
  rw [Nat.zero_add]
  simpa using hu
theorem ext5 (li t : Bs) (p : Nat) (h : li = four p ++ [32] ++ t ++ [10]) : (ByteArray.mk li.toArray).extract 0 5 = ⟨(four p ++ [32]).toArray⟩ ∧ (ByteArray.mk li.toArray).extract 5 li.length = ByteArray.mk t.toArray ++ ⟨#[10]⟩ := by
  subst h
  constructor
  · rw [ByteArray.extract_mk]
    simp [four]
  · rw [ByteArray.extract_mk]
    apply ByteArray.ext
    simp [four]
    exact List.take_of_length_le (by simp)
end Go.Proofs.YtandanbojfdfjaaDoor

namespace Go.Proofs.YtandanbojfdfjaaDoor
open Go.ChangeShapes Go.WideShapes Go.ChangeAt Go.RowKit

theorem bcs_len' (b : Bs) : (bcs b).length = b.length := by simp
theorem pcs_snoc (s : ByteArray) (k : Nat) (h : k < s.size) : (s.data.toList.take (k + 1)).map pc = (s.data.toList.take k).map pc ++ [pc s[k]] := by
  rw [take_snoc s k h]; simp
theorem min_id {a b m : Nat} (h : min a b = m) : min (a : Int) (b : Int) = (m : Int) := by omega

set_option maxRecDepth 100000 in
set_option maxHeartbeats 4000000 in
theorem checks_any (a b : Nat) (s : ByteArray) (w : World) (ha : a < 65536) (hb : b < 65536) (hs : s.size ≤ maxLen) (hT : Tb w) :
    Calls Tryd.prog 7 #[.int .u16 a, .int .u16 b, .string s] w fun e w' => e = .returned (.bool true) ∧ Below w.heap.size w w' := by
  unfold maxLen at hs
  have HT := Lib.hid hT
  clear hT
  obtain ⟨m, hm⟩ : ∃ m, min s.size 200 = m := ⟨_, rfl⟩
  have hmz := min_id hm
  have hm1 : m ≤ s.size := by omega
  have hm2 : m ≤ 200 := by omega
  have HX := Lib.hid hmz
  clear hm hmz
  go_enter Tryd.func7, Tryd.ntmps7
  go_wp2_with ((with_reducible refine min_step _ _ .i64 s.size 200 m ?_ ?_ ?_ ?_); (exact rfl); (exact rfl); (exact HX.out))
  go_loopw [9, 31] (fun v i wr => ∃ k : Nat, k ≤ m ∧ i = .int .i64 k ∧ Own w wr 5 1 v k (bcs ((s.data.toList.take k).map pc))) (fun _ i _ => m - (intOf i).toNat)
  case atStart => exact ⟨0, Nat.zero_le _, rfl, by simpa [bcs] using Own.nil 5 1 (Below.refl _ _)⟩
  case round =>
    obtain ⟨k, hk, rfl, own⟩ := hrel
    by_cases hlt : k < m
    · have hks : k < s.size := by omega
      have HN := Lib.hid (pcs_snoc s k hks)
      have HP := Lib.hid (pc_nat s[k])
      have hlb : s[k].toNat < 256 := s[k].toNat_lt
      have HO := Lib.hid own
      clear own
      go_wp2_with (at_builtin; refine ap_one rfl (.tmp 34) (.tmp 40) 26 rfl eByte [.int .u8 (32 + (s[k].toNat : Int) % 95)] HO.out rfl rfl rfl (by simp [Value.oneCell']) (by omega) ?_; intro v' w' hown' hsz)
      go_roundw
      case rel => exact ⟨k + 1, by omega, by go_num, by
        have e : bcs ((s.data.toList.take (k + 1)).map pc) = bcs ((s.data.toList.take k).map pc) ++ [.int .u8 (32 + (s[k].toNat : Int) % 95)] := by
          rw [HN.out]; simp [bcs, HP.out]
        rw [e]; exact hown'⟩
      case measure => simp [intOf]; omega
    · obtain rfl : k = m := by omega
      have hrec := txt_rec k hm2 s.data.toList
      have htl : ((s.data.toList.take k).map pc).length = k := by simp; omega
      generalize (s.data.toList.take k).map pc = t at *
      have hby : By wr _ t := By.row (base := w.heap.size) (by rw [htl]; exact own.row)
      have hcv := hby.conv
      have HB := Lib.hid own.bel
      clear own hby
      go_wp2_with fail
      have hx : a % 9973 < 9973 := Nat.mod_lt _ (by omega)
      have hy : b % 9973 < 9973 := Nat.mod_lt _ (by omega)
      have ex : ((a : Int) % 9973) = ((a % 9973 : Nat) : Int) := by omega
      have ey : ((b : Int) % 9973) = ((b % 9973 : Nat) : Int) := by omega
      rw [ex, ey]
      have HIJ := Lib.hid (show chk (a % 9973) t = chk (b % 9973) t ↔ a % 9973 = b % 9973 from ⟨chk_inj hx hy t, fun h => by rw [h]⟩)
      generalize a % 9973 = x at *
      generalize b % 9973 = y at *
      have HCx := fun W => Lib.hid (Check_n x x ⟨t.toArray⟩ W rfl hx hrec)
      have HCy := fun W => Lib.hid (Check_n y y ⟨t.toArray⟩ W rfl hy hrec)
      have HLx := fun W h => Lib.hid (Line_n x x ⟨t.toArray⟩ W rfl hx hrec h)
      have HC1 := fun W => Lib.hid (Check_n 1 1 ⟨t.toArray⟩ W rfl (by omega) hrec)
      simp only at HCx HCy HLx HC1
      have hpx := chk_lt x t
      have hpy := chk_lt y t
      have HLN := Lib.hid (show lin x t = four (chk x t) ++ [32] ++ t ++ [10] from rfl)
      have hll := lin_len x t
      clear ex ey hx hy hcv
      generalize chk x t = p at *
      generalize chk y t = q at *
      generalize lin x t = li at *
      refine (HCx wr).out.mono ?_
      rintro e w1 ⟨rfl, b1⟩
      have B1 := Lib.hid (HB.out.trans (b1.mono HB.out.size))
      clear b1
      go_wp2_with fail
      refine (HCy w1).out.mono ?_
      rintro e w2 ⟨rfl, b1⟩
      have B2 := Lib.hid (B1.out.trans (b1.mono B1.out.size))
      clear b1
      have HL2 := HLx w2 (HT.out.below B2.out HT.out.lt)
      go_wp2_with fail
      refine HL2.out.mono ?_
      rintro e w3 ⟨rfl, b1⟩
      have B3 := Lib.hid (B2.out.trans (b1.mono B2.out.size))
      clear b1 HL2 HLx HCx HCy B1 B2
      have hlz : li.length = t.length + 6 := hll
      have e1 := eqbB (ext5 li t p HLN.out).2
      have hcv5 := conv5 w3 p hpx
      obtain ⟨u5, hu5⟩ : ∃ u5 : List UInt8, four p ++ [32] = u5 := ⟨_, rfl⟩
      rw [hu5] at hcv5
      have e2 : (!((ByteArray.mk li.toArray).extract 0 5).toList == u5) = false := by
        have h := eqbB (ext5 li t p HLN.out).1
        rw [hu5, show (ByteArray.mk u5.toArray).toList = u5 from ByteArray.toList_mk u5] at h
        exact h
      clear hu5
      clear hll
      have HLZ := Lib.hid hlz
      have hlz2 : (li.length : Int) = (t.length : Int) + 6 := by omega
      have HTL := Lib.hid htl
      have ht2 : t.length ≤ 200 := by omega
      clear hlz htl
      have f1 : ((p : Int) == (q : Int)) = decide (x = y) := by
        rw [Bool.eq_iff_iff, beq_iff_eq, decide_eq_true_eq, ← HIJ.out]; omega
      have f2 : ((x : Int) == (y : Int)) = decide (x = y) := by
        rw [Bool.eq_iff_iff, beq_iff_eq, decide_eq_true_eq]; omega
      generalize decide (x = y) = d at *
      go_wp2_with fail
      go_region
      have b4 : Below w3.heap.size w3 (w3.alloc (.cells #[Value.int .u8 (48 + (p : Int) / 1000), .int .u8 (48 + (p : Int) / 100 % 10), .int .u8 (48 + (p : Int) / 10 % 10), .int .u8 (48 + (p : Int) % 10), .int .u8 32] 5)).drew := (below_alloc _ _).drew
      have B4 := Lib.hid (B3.out.trans (b4.mono B3.out.size))
      clear b4 hcv5
      generalize (w3.alloc (.cells #[Value.int .u8 (48 + (p : Int) / 1000), .int .u8 (48 + (p : Int) / 100 % 10), .int .u8 (48 + (p : Int) / 10 % 10), .int .u8 (48 + (p : Int) % 10), .int .u8 32] 5)).drew = w4 at *
      go_wp2_with fail
      clear e1 e2 f1 f2
      have HO : Hid _ := Lib.hid (open_any w4.heap.size [] (-1) (w4.alloc (.cells #[.slice none 0 0, .int .i64 (-1)] 28)) ⟨.slice none 0 0, Blk.new _ _ _, By.nil _⟩ (by decide) (by decide) (by decide) (HT.out.below (B4.out.trans ((below_alloc _ _).mono B4.out.size)) HT.out.lt))
      rw [open_new] at HO
      refine HO.out.mono ?_
      intro e w5 ho
      obtain ⟨L, rfl, h1, _⟩ := Sys.of_open (B4.out.trans ((below_alloc _ _).mono B4.out.size)) B4.out.size ho
      have H1 := Lib.hid h1
      have HA := Lib.hid (app_num h1 HT.out ⟨t.toArray⟩ (by decide) (by decide) (by decide) (by decide) (by decide) (by decide) (app_free hrec (by simp; omega)))
      have HL : Hid (Calls Tryd.prog 24 #[.pointer (some ⟨L, 0, none⟩)] w5 fun e w' => e = .returned (.int .i64 1) ∧ w5 = w') := Lib.hid h1.last
      clear h1 ho HO
      go_wp2_with fail
      refine HL.out.mono ?_
      rintro e w6 ⟨rfl, rfl⟩
      go_wp2_with fail
      refine HA.out.mono ?_
      rintro e w6 ⟨rfl, h2, _⟩
      have H2 := Lib.hid h2
      have HL2 : ∀ W, Below w6.heap.size w6 W → Hid (Calls Tryd.prog 24 #[.pointer (some ⟨L, 0, none⟩)] W fun e w' => e = .returned (.int .i64 (chk 1 t : Nat)) ∧ W = w') := fun W hb => Lib.hid (h2.below (w' := W) hb).last
      have HS2 : ∀ W, Below w6.heap.size w6 W → Hid (Calls Tryd.prog 17 #[.pointer (some ⟨L, 0, none⟩)] W fun e w' => e = .returned (.int .i64 ((t.length : Int) + 6)) ∧ W = w') := fun W hb => Lib.hid (by
        have h := (h2.below (w' := W) hb).size
        rw [show ((St.zero.add t).size : Int) = (t.length : Int) + 6 by simp [St.add, St.zero]] at h
        exact h)
      clear h2 HA HL H1
      go_wp2_with fail
      refine (HC1 w6).out.mono ?_
      rintro e w7 ⟨rfl, b7⟩
      have HL3 := HL2 w7 b7
      have HS3 := HS2 w7 b7
      have B7 := Lib.hid (H2.out.bel.trans (b7.mono H2.out.bel.size))
      clear b7 HL2 HS2 HC1
      go_wp2_with fail
      refine HL3.out.mono ?_
      rintro e w8 ⟨rfl, rfl⟩
      go_wp2_with fail
      refine HS3.out.mono ?_
      rintro e w8 ⟨rfl, rfl⟩
      go_wp2_with fail
      refine (awake_any w7 (HT.out.below B7.out HT.out.lt)).mono ?_
      rintro e w8 ⟨rfl, b8⟩
      have B8 := Lib.hid (B7.out.trans (b8.mono B7.out.size))
      clear b8
      go_wp2_with fail
      go_ret
      exact ⟨rfl, B8.out⟩
end Go.Proofs.YtandanbojfdfjaaDoor
