import Derived.Test.YtandanbojfdfjaaDoorApp1
namespace Go.Proofs.YtandanbojfdfjaaDoor
open Go.ChangeShapes Go.WideShapes Go.ChangeAt Go.RowKit

set_option maxHeartbeats 4000000 in
theorem app_short (base L D : Nat) (r : Option Nat) (s : St) (b : Bs) (p : Int) (t : ByteArray) (w : World) (hLog : LogAt w base L D r s false) (hDisk : DiskAt w D b p) (hr : recB t.data.toList = true)
    (hx : s.last < 9973) (hn : b.length + (t.size + 6) ≤ 1048576) (hl : -(2^63) ≤ p) (hh : p < 2^63) (hT : Tb w) (hD2 : 2 ≤ D)
    (hsh : useR p (t.size + 6) < t.size + 6) :
    Calls Tryd.prog 14 #[.pointer (some ⟨L, 0, none⟩), .string t] w fun e w' => AppP w base L D r (appR b p s false t.data.toList) e w' ∧ ∃ v, Blk w' D 28 (dsk v (appR b p s false t.data.toList).2.2.1) ∧ By w' v (appR b p s false t.data.toList).2.1 ∧ ∀ k, v.ownBlock = some k → w.heap.size ≤ k := by
  have HRes := Lib.hid (show appR b p s false t.data.toList = if useR p (lin s.last t.data.toList).length < (lin s.last t.data.toList).length then (420, b ++ (lin s.last t.data.toList).take (useR p (lin s.last t.data.toList).length), useL p (lin s.last t.data.toList).length, s, true)
      else (0, b ++ lin s.last t.data.toList, useL p (lin s.last t.data.toList).length, s.add t.data.toList, false) by
    unfold appR
    rw [lin_len, if_neg (by decide), if_neg (by rw [hr]; decide), if_neg (by rw [len_toList]; omega)])
  obtain ⟨v, hv, hL, hrow⟩ := hLog
  obtain ⟨v0, hD, hB⟩ := hDisk
  obtain ⟨A, c, rfl, hrd, hcap, hA, hA2, hrD⟩ := hB.form
  have c0 := hL.cell 0 (.pointer (some ⟨D, 0, none⟩)) rfl
  have c2 := hL.cell 2 (.int .i64 s.last) rfl
  have c4 := hL.cell 4 (.bool false) rfl
  have e0 := hD.cell 0 _ rfl
  have hs := recB_le hr
  rw [len_toList] at hs
  have HR := Lib.hid (rec_any t w)
  rw [hr] at HR
  have HLn := fun W h => Lib.hid (line_any s.last t W hx (by omega) h)
  have hll := lin_len s.last t.data.toList
  rw [len_toList] at hll
  have hLlt := hL.lt
  have hDlt := hD.lt
  have hts : t.size ≤ 1000000 := by omega
  have hne : L ≠ D := by rintro rfl; exact absurd (blk_ne hL hD) (by decide)
  have HT := Lib.hid hT
  have HL := Lib.hid hL
  have HD := Lib.hid hD
  have HB := Lib.hid hB
  have HRow := Lib.hid hrow
  have HV := Lib.hid hv
  generalize lin s.last t.data.toList = li at *
  clear hL hr hD hT hB hA hA2 hrD hrd hrow hv
  have HU := fun (W : World) (h : Blk W D 28 (dsk (.slice A b.length c) p)) => Lib.hid (use_any D (.slice A b.length c) p li.length W h hl hh (by omega))
  go_enter Tryd.func14, Tryd.ntmps14
  go_wp2_with fail
  refine HR.out.mono ?_
  rintro e w1 ⟨rfl, hb⟩
  have d0 := (bcell hb L 0 hLlt).trans c0
  have d2 := (bcell hb L 2 hLlt).trans c2
  have HL1 := HLn w1 (HT.out.below hb HT.out.lt)
  have hs1 := hb.size
  have f0 := (bcell hb D 0 hDlt).trans e0
  clear HLn HR c0 c2 c4 e0
  go_wp2_with fail
  refine HL1.out.mono ?_
  rintro e w2 ⟨rfl, hb2⟩
  have g0 := (bcell hb2 L 0 (by omega)).trans d0
  have k0 := (bcell hb2 D 0 (by omega)).trans f0
  have HB2 := Lib.hid (hb.trans (hb2.mono hb.size))
  have HU2 := HU w2 ((HB2.out.block D hDlt).trans HD.out)
  have h1 : b.length + li.length ≤ 1048576 := by omega
  have HLL := Lib.hid hll
  have HSh := Lib.hid (show useR p li.length < li.length by rw [hll]; exact hsh)
  clear hsh
  clear d0 d2 f0 hb hb2 HU HL1 hll hn hs
  go_wp2_with fail
  refine HU2.out.mono ?_
  rintro e w3 ⟨rfl, hD3, hk3⟩
  have hL3 : Blk w3 L 68 _ := hk3.blk ((HB2.out.block L hLlt).trans HL.out) hne
  have d0 := hL3.cell 0 (.pointer (some ⟨D, 0, none⟩)) rfl
  have f0 := Blk.cell hD3 0 _ rfl
  have z0 := Blk.frozen hD3 0
  have HD3 := Lib.hid hD3
  have HL3 := Lib.hid hL3
  have HK3 := Lib.hid hk3
  have hn' : useR p li.length ≤ li.length := useR_le _ _
  have hDl : D < w3.heap.size := Blk.lt hD3
  have HBy3 := Lib.hid ((HB.out.below HB2.out).kp1 hk3 ((HB2.out.block D hDlt).trans HD.out) (by decide))
  clear hD3 hL3 hk3 g0 k0 HU2
  generalize useR p li.length = n at *
  generalize useL p li.length = p' at *
  have HC := Lib.hid (show Calls Tryd.prog 37 #[.slice A b.length c] w3.drew fun e w' => ∃ v, e = .returned v ∧ (w'.ownsRow w3.heap.size 5 1 v b.length (bcs b) ∧ Below w3.heap.size w3 w') from by
    obtain ⟨A', c', e, hrd, _, hA, hA2, _⟩ := HBy3.out.form
    obtain ⟨rfl, rfl⟩ : A = A' ∧ c = c' := by simpa using e
    exact (cloneB_any A b c w3.drew hrd hA hA2 (by omega)).mono fun e w' ⟨v, he, h1, h2⟩ => ⟨v, he, h1, ((Below.refl _ _).drew).trans h2⟩)
  have HSZ := Lib.hid (show (ByteArray.mk (li.take n).toArray).size = n by show (li.take n).toArray.size = _; simp; omega)
  go_wp2_with fail
  go_region_law (first
    | (refine step_fn 37 (.tmp 61) _ rfl rfl en37 _ HC.out ?_; rintro v4 w4 ⟨hr4, hb4⟩; have z4 := (bfrozen hb4 D 0 hDl).trans z0; have q4 := (bcell hb4 L 0 (Blk.lt HL3.out)).trans d0)
    | (refine step_aps rfl (.tmp 62) (.tmp 65) 26 9 rfl w3.heap.size 5 (by kernel_rfl) (by kernel_rfl) infoByte v4 b.length (bcs b) rfl hr4 ⟨(li.take n).toArray⟩ (by simp [Act.eval, ext_take]) (by show _ + (li.take n).toArray.size ≤ _; simp; omega) hb4.size ?_; intro v5 w5 hr5 hg5; rw [HSZ.out] at hr5; obtain ⟨a5, cp5, rfl⟩ := row_slice hr5; have y5 := (app_mid HD3.out hb4 hr4 hr5 hg5); have y6 := app_keep hb4 hr4 hg5; have z5 := Blk.cell (y6 D 28 _ HD3.out) 0 _ rfl; have z6 := Blk.frozen (y6 D 28 _ HD3.out) 0; have q5 := Blk.cell (y6 L 68 _ HL3.out) 0 _ rfl; clear y6; have H5 := Lib.hid y5; clear y5))
  all_goals
    have HK6 := Lib.hid ((Kp.of_below HB2.out (fun k => k = D)).trans (HK3.out.trans H5.out.2.2))
    have hL6 : Blk _ L 68 _ := H5.out.2.2.blk HL3.out hne
    have HD6 : Hid (DiskAt _ D (b ++ li.take n) p') := Lib.hid ⟨_, H5.out.1, H5.out.2.1⟩
    have HDk := Lib.hid H5.out.1
    have HDb := Lib.hid H5.out.2.1
    have HFr := Lib.hid (row_ge hr5)
    have HS3 := Lib.hid (Nat.le_trans HB2.out.size HK3.out.size)
    clear q5 z5 z6 hr5 hg5 hb4 hr4 z4 q4 H5 d0 f0 z0 HC
    generalize w5.setCell ⟨D, 0, none⟩ (.slice a5 (b.length + n) cp5) = w6 at *
    have HR6 := Lib.hid (HK6.out.row HRow.out fun k hk e => row_ne HD.out HRow.out (show (9 : TypeId) ≠ 28 by decide) (e ▸ hk))
    have HL6 := Lib.hid hL6
    have f4 := hL6.frozen 4
    have c4 := hL6.cell 4 _ rfl
    have HP : Hid (AppP w base L D r (appR b p s false t.data.toList) (.returned (.int .i64 420)) (w6.setCell ⟨L, 4, none⟩ (.bool true)) ∧ ∃ v, Blk (w6.setCell ⟨L, 4, none⟩ (.bool true)) D 28 (dsk v (appR b p s false t.data.toList).2.2.1) ∧ By (w6.setCell ⟨L, 4, none⟩ (.bool true)) v (appR b p s false t.data.toList).2.1 ∧ ∀ k, v.ownBlock = some k → w.heap.size ≤ k) := Lib.hid (by
      rw [HRes.out, if_pos HSh.out]
      refine ⟨app_end1 HK6.out HL6.out HR6.out HD6.out HV.out hne, _, (Kp.set w6 L 4 (.bool true)).blk HDk.out (fun e => hne e.symm), HDb.out.kp1 (Kp.set w6 L 4 (.bool true)) HL6.out (by decide), fun k hk => ?_⟩
      have := HFr.out k hk
      have := HS3.out
      omega)
    clear hL6
    go_wp2_with fail
    go_ret
    exact HP.out

end Go.Proofs.YtandanbojfdfjaaDoor
