import Derived.Test.YtandanbojfdfjaaDoorOpen
import Derived.Test.YtandanbojfdfjaaDoorStep
namespace Go.Proofs.YtandanbojfdfjaaDoor
open Go.ChangeShapes Go.WideShapes Go.ChangeAt Go.RowKit

theorem app_nil (t : ByteArray) (w : World) : Calls Tryd.prog 14 #[.pointer none, .string t] w fun e w' => e = .returned (.int .i64 1) ∧ w = w' := by
  go_enter Tryd.func14, Tryd.ntmps14
  go_wp2_with fail
  go_ret
  exact ⟨rfl, rfl⟩
theorem app_nodisk (L : Nat) (a b c d : Value) (t : ByteArray) (w : World) (hL : Blk w L 68 #[.pointer none, a, b, c, d]) : Calls Tryd.prog 14 #[.pointer (some ⟨L, 0, none⟩), .string t] w fun e w' => e = .returned (.int .i64 1) ∧ w = w' := by
  have c0 := hL.cell 0 (.pointer none) rfl
  clear hL
  go_enter Tryd.func14, Tryd.ntmps14
  go_wp2_with fail
  go_ret
  exact ⟨rfl, rfl⟩
theorem app_closed (L D : Nat) (v : Value) (last size : Nat) (t : ByteArray) (w : World) (hL : Blk w L 68 (lg (.pointer (some ⟨D, 0, none⟩)) v last size true)) :
    Calls Tryd.prog 14 #[.pointer (some ⟨L, 0, none⟩), .string t] w fun e w' => e = .returned (.int .i64 423) ∧ w = w' := by
  have c0 := hL.cell 0 (.pointer (some ⟨D, 0, none⟩)) rfl
  have c4 := hL.cell 4 (.bool true) rfl
  clear hL
  go_enter Tryd.func14, Tryd.ntmps14
  go_wp2_with fail
  go_ret
  exact ⟨rfl, rfl⟩
theorem app_text (L D : Nat) (v : Value) (last size : Nat) (t : ByteArray) (w : World) (hL : Blk w L 68 (lg (.pointer (some ⟨D, 0, none⟩)) v last size false)) (hr : recB t.data.toList = false) :
    Calls Tryd.prog 14 #[.pointer (some ⟨L, 0, none⟩), .string t] w fun e w' => e = .returned (.int .i64 422) ∧ Below w.heap.size w w' := by
  have c0 := hL.cell 0 (.pointer (some ⟨D, 0, none⟩)) rfl
  have c4 := hL.cell 4 (.bool false) rfl
  have HR := Lib.hid (rec_any t w)
  rw [hr] at HR
  clear hL hr
  go_enter Tryd.func14, Tryd.ntmps14
  go_wp2_with fail
  refine HR.out.mono ?_
  rintro e w' ⟨rfl, hb⟩
  go_wp2_with fail
  go_ret
  exact ⟨rfl, hb⟩
theorem app_full (L D : Nat) (v : Value) (last size : Nat) (A : Option Addr) (n c : Nat) (p : Int) (t : ByteArray) (w : World) (hL : Blk w L 68 (lg (.pointer (some ⟨D, 0, none⟩)) v last size false)) (hD : Blk w D 28 (dsk (.slice A n c) p)) (hr : recB t.data.toList = true)
    (hx : last < 9973) (hn : 1048576 < n + (t.size + 6)) (hn2 : n ≤ 2000000) (hT : Tb w) :
    Calls Tryd.prog 14 #[.pointer (some ⟨L, 0, none⟩), .string t] w fun e w' => e = .returned (.int .i64 4) ∧ Below w.heap.size w w' := by
  have c0 := hL.cell 0 (.pointer (some ⟨D, 0, none⟩)) rfl
  have c2 := hL.cell 2 (.int .i64 last) rfl
  have c4 := hL.cell 4 (.bool false) rfl
  have e0 := hD.cell 0 _ rfl
  have hs := recB_le hr
  rw [len_toList] at hs
  have HR := Lib.hid (rec_any t w)
  rw [hr] at HR
  have HLn := fun W h => Lib.hid (line_any last t W hx (by omega) h)
  have hll := lin_len last t.data.toList
  rw [len_toList] at hll
  have hLlt := hL.lt
  have hDlt := hD.lt
  have HT := Lib.hid hT
  generalize lin last t.data.toList = li at *
  clear hL hr hD hT
  go_enter Tryd.func14, Tryd.ntmps14
  go_wp2_with fail
  refine HR.out.mono ?_
  rintro e w1 ⟨rfl, hb⟩
  have d0 := (bcell hb L 0 hLlt).trans c0
  have d2 := (bcell hb L 2 hLlt).trans c2
  have HL1 := HLn w1 (HT.out.below hb HT.out.lt)
  have hs1 := hb.size
  have f0 := (bcell hb D 0 hDlt).trans e0
  clear HLn HR c0 c2 c4 e0
  go_wp2_with fail
  refine HL1.out.mono ?_
  rintro e w2 ⟨rfl, hb2⟩
  have g0 := (bcell hb2 L 0 (by omega)).trans d0
  have k0 := (bcell hb2 D 0 (by omega)).trans f0
  have hz : (ByteArray.mk li.toArray).size = t.size + 6 := by show li.toArray.size = _; simpa using hll
  clear hz d0 d2 f0
  have HB : Hid _ := Lib.hid (hb.trans (hb2.mono hb.size))
  have h1 : 1048576 < n + li.length := by omega
  have h2 : n + li.length ≤ 9000000 := by omega
  clear hb hb2 hll hn hn2 hs
  go_wp2_with fail
  go_ret
  exact ⟨rfl, HB.out⟩
end Go.Proofs.YtandanbojfdfjaaDoor

namespace Go.Proofs.YtandanbojfdfjaaDoor
open Go.ChangeShapes Go.WideShapes Go.ChangeAt Go.RowKit

theorem en37 : Enters Tryd.prog 37 := enters_of Tryd.func37 (by kernel_rfl) (by kernel_rfl)
theorem infoByte : (Tryd.prog.info? 5).map (fun i => (i.zero, i.size, i.bytes)) = some (some (.int .u8 0), 1, 1) := by kernel_rfl
theorem strCells_bcs (l : Bs) : Lib.strCells ⟨l.toArray⟩ = bcs l := rfl

theorem ext_take (li : Bs) (n : Nat) : (ByteArray.mk li.toArray).extract 0 n = ⟨(li.take n).toArray⟩ := by
  rw [ByteArray.extract_mk]
  simp

/-- what Append returns and leaves -/
def appR (b : Bs) (p : Int) (s : St) (cl : Bool) (t : Bs) : Nat × Bs × Int × St × Bool :=
  if cl = true then (423, b, p, s, cl) else if recB t = false then (422, b, p, s, cl) else if 1048576 < b.length + (t.length + 6) then (4, b, p, s, cl)
  else if useR p (t.length + 6) < t.length + 6 then (420, b ++ (lin s.last t).take (useR p (t.length + 6)), useL p (t.length + 6), s, true)
  else (0, b ++ lin s.last t, useL p (t.length + 6), s.add t, false)
def AppP (w : World) (base L D : Nat) (r : Option Nat) (res : Nat × Bs × Int × St × Bool) (e : Ending) (w' : World) : Prop :=
  e = .returned (.int .i64 res.1) ∧ DiskAt w' D res.2.1 res.2.2.1 ∧ (∃ r', LogAt w' base L D r' res.2.2.2.1 res.2.2.2.2 ∧ (r' = r ∨ ∃ k, r' = some k ∧ w.heap.size ≤ k)) ∧ Kp w w' (fun k => k = D ∨ k = L ∨ r = some k) ∧ NewB w w' D

theorem useR_le (p : Int) (n : Nat) : useR p n ≤ n := by unfold useR; split <;> omega

theorem app_mid {w3 w4 w5 : World} {D : Nat} {v4 V5 u0 : Value} {p' : Int} {b li : Bs} {n m : Nat} (hD3 : Blk w3 D 28 (dsk u0 p')) (hb4 : Below w3.heap.size w3 w4) (hr4 : w4.ownsRow w3.heap.size 5 1 v4 b.length (bcs b))
    (hr5 : w5.ownsRow w3.heap.size 5 1 V5 m (bcs b ++ Lib.strCells ⟨(li.take n).toArray⟩)) (hg5 : w4.grownBy w5 v4.ownBlock) :
    Blk (w5.setCell ⟨D, 0, none⟩ V5) D 28 (dsk V5 p') ∧ By (w5.setCell ⟨D, 0, none⟩ V5) V5 (b ++ li.take n) ∧ Kp w3 (w5.setCell ⟨D, 0, none⟩ V5) (fun k => k = D) := by
  have hk5 : Kp w3 w5 (fun k => k = D) := by
    refine ⟨hg5.os.trans hb4.os, hg5.tape.trans hb4.tape, hg5.output.trans hb4.output, Nat.le_trans hb4.size hg5.size, fun k hk hn => ?_⟩
    refine (hg5.block k (Nat.lt_of_lt_of_le hk hb4.size) fun e => ?_).trans (hb4.block k hk)
    have := row_ge hr4 k e.symm
    omega
  have hD5 : Blk w5 D 28 (dsk u0 p') := by
    refine (hg5.block D (Nat.lt_of_lt_of_le hD3.lt hb4.size) fun e => ?_).trans ((hb4.block D hD3.lt).trans hD3)
    have := row_ge hr4 D e.symm
    have := hD3.lt
    omega
  refine ⟨hD5.set 0 V5, ?_, hk5.trans (Kp.set w5 D 0 V5)⟩
  refine By.kp1 (By.row (base := w3.heap.size) ?_) (Kp.set w5 D 0 V5) hD5 (by decide)
  have e : bcs b ++ Lib.strCells ⟨(li.take n).toArray⟩ = bcs (b ++ li.take n) := by rw [strCells_bcs]; simp [bcs]
  rw [e] at hr5
  have hm := hr5.1
  simp only [List.length_map, Nat.mul_one] at hm
  rw [hm]
  exact hr5

theorem app_keep {w3 w4 w5 : World} {v4 : Value} {n : Nat} {xs : List Value} (hb4 : Below w3.heap.size w3 w4) (hr4 : w4.ownsRow w3.heap.size 5 1 v4 n xs) (hg5 : w4.grownBy w5 v4.ownBlock) (k t : Nat) (cs : Array Value) (h : Blk w3 k t cs) : Blk w5 k t cs := by
  refine (hg5.block k (Nat.lt_of_lt_of_le h.lt hb4.size) fun e => ?_).trans ((hb4.block k h.lt).trans h)
  have := row_ge hr4 k e.symm
  have := h.lt
  omega

theorem World.cell?_setCell_other6 (w : World) (L D i : Nat) (u : Value) (h : L ≠ D) : (w.setCell ⟨L, i, none⟩ u).cell? ⟨D, 0, none⟩ = w.cell? ⟨D, 0, none⟩ :=
  World.cell?_of_block (a := ⟨D, 0, none⟩) (heap_setCell_other w ⟨L, i, none⟩ D u (fun e => h e.symm))
theorem app_end1 {w w6 : World} {base L D : Nat} {r : Option Nat} {s : St} {v : Value} {b' : Bs} {p' : Int} (hk6 : Kp w w6 (fun k => k = D)) (hL6 : Blk w6 L 68 (lg (.pointer (some ⟨D, 0, none⟩)) v s.last s.size false))
    (hr6 : w6.ownsRow base 9 1 v s.recs.length (scs s.recs)) (hD6 : DiskAt w6 D b' p') (hv : v.ownBlock = r) (hne : L ≠ D) (hN : NewB w w6 D) :
    AppP w base L D r (420, b', p', s, true) (.returned (.int .i64 420)) (w6.setCell ⟨L, 4, none⟩ (.bool true)) := by
  have ks := Kp.set w6 L 4 (.bool true)
  refine ⟨rfl, hD6.kp ks (fun e => hne e.symm) (fun k cs h e => by subst e; exact absurd (blk_ne h hL6) (by decide)), ⟨r, ⟨v, hv, hL6.set 4 _, ks.row hr6 fun k hk e => ?_⟩, .inl rfl⟩, (hk6.mono fun k _ h => .inl h).trans (ks.mono fun k _ h => .inr (.inl h)), hN.cell (World.cell?_setCell_other6 _ _ _ _ _ hne)⟩
  subst e
  obtain ⟨cs, h⟩ := row_blk hr6 hk
  exact absurd (blk_ne h hL6) (by decide)
theorem app_end2 {w w6 w7 : World} {base L D : Nat} {r : Option Nat} {s : St} {v v7 : Value} {b' t : Bs} {p' : Int} {size' : Nat} (hk6 : Kp w w6 (fun k => k = D)) (hL6 : Blk w6 L 68 (lg (.pointer (some ⟨D, 0, none⟩)) v s.last s.size false))
    (hr6 : w6.ownsRow base 9 1 v s.recs.length (scs s.recs)) (hD6 : DiskAt w6 D b' p') (hv : v.ownBlock = r) (hne : L ≠ D) (hN : NewB w w6 D)
    (hL7 : Blk w7 L 68 (lg (.pointer (some ⟨D, 0, none⟩)) v7 (chk s.last t) size' false)) (hsz : size' = s.size + t.length + 6) (hr7 : w7.ownsRow base 9 1 v7 (s.recs.length + 1) (scs (s.recs ++ [t])))
    (hk7 : Kp w6 w7 (fun k => k = L ∨ v.ownBlock = some k)) (hv7 : ∀ k, v7.ownBlock = some k → v.ownBlock = some k ∨ w6.heap.size ≤ k) :
    AppP w base L D r (0, b', p', s.add t, false) (.returned (.int .i64 0)) w7 := by
  subst hsz hv
  obtain ⟨csD, hDb⟩ := hD6.blk
  refine ⟨rfl, hD6.kp hk7 ?_ ?_, ⟨v7.ownBlock, ⟨v7, rfl, hL7, ?_⟩, ?_⟩, (hk6.mono fun k _ h => .inl h).trans (hk7.mono fun k _ h => .inr h), hN.cell (World.cell?_of_block (a := ⟨D, 0, none⟩) (hk7.block D hDb.lt (by
    rintro (e | e)
    · exact hne e.symm
    · obtain ⟨cs, h⟩ := row_blk hr6 e
      exact absurd (blk_ne h hDb) (by decide))))⟩
  · rintro (e | e)
    · exact hne e.symm
    · obtain ⟨cs, h⟩ := row_blk hr6 e
      exact absurd (blk_ne h hDb) (by decide)
  · rintro k cs h (e | e)
    · subst e
      exact absurd (blk_ne h hL6) (by decide)
    · obtain ⟨cs', h'⟩ := row_blk hr6 e
      exact absurd (blk_ne h h') (by decide)
  · have : (s.add t).recs.length = s.recs.length + 1 := by simp [St.add]
    rw [this]; exact hr7
  · cases hq : v7.ownBlock with
    | none => 
      exact absurd hq (by
        obtain ⟨g, c, rfl⟩ := row_form hr7
        simp [Value.ownBlock])
    | some k =>
      rcases hv7 k hq with h | h
      · exact .inl h.symm
      · exact .inr ⟨k, rfl, Nat.le_trans hk6.size h⟩

set_option maxHeartbeats 4000000 in
theorem app_go (base L D : Nat) (r : Option Nat) (s : St) (b : Bs) (p : Int) (t : ByteArray) (w : World) (hLog : LogAt w base L D r s false) (hDisk : DiskAt w D b p) (hr : recB t.data.toList = true)
    (hx : s.last < 9973) (hn : b.length + (t.size + 6) ≤ 1048576) (hl : -(2^63) ≤ p) (hh : p < 2^63) (hT : Tb w) (hD2 : 2 ≤ D) (hL2 : 2 ≤ L) (hb2 : 2 ≤ base) (hbase : base ≤ w.heap.size) (hss : s.size ≤ 1000000000) (hrl : s.recs.length ≤ 1000000000) :
    Calls Tryd.prog 14 #[.pointer (some ⟨L, 0, none⟩), .string t] w (AppP w base L D r (appR b p s false t.data.toList)) := by
  have HRes := Lib.hid (show appR b p s false t.data.toList = if useR p (lin s.last t.data.toList).length < (lin s.last t.data.toList).length then (420, b ++ (lin s.last t.data.toList).take (useR p (lin s.last t.data.toList).length), useL p (lin s.last t.data.toList).length, s, true)
      else (0, b ++ lin s.last t.data.toList, useL p (lin s.last t.data.toList).length, s.add t.data.toList, false) by
    unfold appR
    rw [lin_len, if_neg (by decide), if_neg (by rw [hr]; decide), if_neg (by rw [len_toList]; omega)])
  obtain ⟨v, hv, hL, hrow⟩ := hLog
  obtain ⟨v0, hD, hB⟩ := hDisk
  obtain ⟨A, c, rfl, hrd, hcap, hA, hA2, hrD⟩ := hB.form
  have c0 := hL.cell 0 (.pointer (some ⟨D, 0, none⟩)) rfl
  have c2 := hL.cell 2 (.int .i64 s.last) rfl
  have c4 := hL.cell 4 (.bool false) rfl
  have e0 := hD.cell 0 _ rfl
  have hs := recB_le hr
  rw [len_toList] at hs
  have HR := Lib.hid (rec_any t w)
  rw [hr] at HR
  have HLn := fun W h => Lib.hid (line_any s.last t W hx (by omega) h)
  have hll := lin_len s.last t.data.toList
  rw [len_toList] at hll
  have hLlt := hL.lt
  have hDlt := hD.lt
  have hts : t.size ≤ 1000000 := by omega
  have hne : L ≠ D := by rintro rfl; exact absurd (blk_ne hL hD) (by decide)
  have HT := Lib.hid hT
  have HL := Lib.hid hL
  have HD := Lib.hid hD
  have HB := Lib.hid hB
  have HRow := Lib.hid hrow
  have HV := Lib.hid hv
  generalize lin s.last t.data.toList = li at *
  clear hL hr hD hT hB hA hA2 hrD hrd hrow hv
  have HU := fun (W : World) (h : Blk W D 28 (dsk (.slice A b.length c) p)) => Lib.hid (use_any D (.slice A b.length c) p li.length W h hl hh (by omega))
  go_enter Tryd.func14, Tryd.ntmps14
  go_wp2_with fail
  refine HR.out.mono ?_
  rintro e w1 ⟨rfl, hb⟩
  have d0 := (bcell hb L 0 hLlt).trans c0
  have d2 := (bcell hb L 2 hLlt).trans c2
  have HL1 := HLn w1 (HT.out.below hb HT.out.lt)
  have hs1 := hb.size
  have f0 := (bcell hb D 0 hDlt).trans e0
  clear HLn HR c0 c2 c4 e0
  go_wp2_with fail
  refine HL1.out.mono ?_
  rintro e w2 ⟨rfl, hb2⟩
  have g0 := (bcell hb2 L 0 (by omega)).trans d0
  have k0 := (bcell hb2 D 0 (by omega)).trans f0
  have HB2 := Lib.hid (hb.trans (hb2.mono hb.size))
  have HU2 := HU w2 ((HB2.out.block D hDlt).trans HD.out)
  have h1 : b.length + li.length ≤ 1048576 := by omega
  have HLL := Lib.hid hll
  clear d0 d2 f0 hb hb2 HU HL1 hll hn hs
  go_wp2_with fail
  refine HU2.out.mono ?_
  rintro e w3 ⟨rfl, hD3, hk3⟩
  have hL3 : Blk w3 L 68 _ := hk3.blk ((HB2.out.block L hLlt).trans HL.out) hne
  have d0 := hL3.cell 0 (.pointer (some ⟨D, 0, none⟩)) rfl
  have f0 := Blk.cell hD3 0 _ rfl
  have z0 := Blk.frozen hD3 0
  have HD3 := Lib.hid hD3
  have HL3 := Lib.hid hL3
  have HK3 := Lib.hid hk3
  have hn' : useR p li.length ≤ li.length := useR_le _ _
  have hDl : D < w3.heap.size := Blk.lt hD3
  have HBy3 := Lib.hid ((HB.out.below HB2.out).kp1 hk3 ((HB2.out.block D hDlt).trans HD.out) (by decide))
  clear hD3 hL3 hk3 g0 k0 HU2
  generalize useR p li.length = n at *
  generalize useL p li.length = p' at *
  have HC := Lib.hid (show Calls Tryd.prog 37 #[.slice A b.length c] w3.drew fun e w' => ∃ v, e = .returned v ∧ (w'.ownsRow w3.heap.size 5 1 v b.length (bcs b) ∧ Below w3.heap.size w3 w') from by
    obtain ⟨A', c', e, hrd, _, hA, hA2, _⟩ := HBy3.out.form
    obtain ⟨rfl, rfl⟩ : A = A' ∧ c = c' := by simpa using e
    exact (cloneB_any A b c w3.drew hrd hA hA2 (by omega)).mono fun e w' ⟨v, he, h1, h2⟩ => ⟨v, he, h1, ((Below.refl _ _).drew).trans h2⟩)
  have HSZ := Lib.hid (show (ByteArray.mk (li.take n).toArray).size = n by show (li.take n).toArray.size = _; simp; omega)
  go_wp2_with fail
  go_region_law (first
    | (refine step_fn 37 (.tmp 61) _ rfl rfl en37 _ HC.out ?_; rintro v4 w4 ⟨hr4, hb4⟩; have z4 := (bfrozen hb4 D 0 hDl).trans z0; have q4 := (bcell hb4 L 0 (Blk.lt HL3.out)).trans d0)
    | (refine step_aps rfl (.tmp 62) (.tmp 65) 26 9 rfl w3.heap.size 5 (by kernel_rfl) (by kernel_rfl) infoByte v4 b.length (bcs b) rfl hr4 ⟨(li.take n).toArray⟩ (by simp [Act.eval, ext_take]) (by show _ + (li.take n).toArray.size ≤ _; simp; omega) hb4.size ?_; intro v5 w5 hr5 hg5; rw [HSZ.out] at hr5; obtain ⟨a5, cp5, rfl⟩ := row_slice hr5; have y5 := (app_mid HD3.out hb4 hr4 hr5 hg5); have y6 := app_keep hb4 hr4 hg5; have z5 := Blk.cell (y6 D 28 _ HD3.out) 0 _ rfl; have z6 := Blk.frozen (y6 D 28 _ HD3.out) 0; have q5 := Blk.cell (y6 L 68 _ HL3.out) 0 _ rfl; clear y6; have H5 := Lib.hid y5; clear y5))
  all_goals
    have HK6 := Lib.hid ((Kp.of_below HB2.out (fun k => k = D)).trans (HK3.out.trans H5.out.2.2))
    have hL6 : Blk _ L 68 _ := H5.out.2.2.blk HL3.out hne
    have HD6 : Hid (DiskAt _ D (b ++ li.take n) p') := Lib.hid ⟨_, H5.out.1, H5.out.2.1⟩
    have HN6 : Hid (NewB w _ D) := Lib.hid (NewB.of_blk (w := w) H5.out.1 (.inr fun k hk => Nat.le_trans (Nat.le_trans HB2.out.size HK3.out.size) (row_ge hr5 k hk)))
    clear q5 z5 z6 hr5 hg5 hb4 hr4 z4 q4 H5 d0 f0 z0 HC
    generalize w5.setCell ⟨D, 0, none⟩ (.slice a5 (b.length + n) cp5) = w6 at *
    have HR6 := Lib.hid (HK6.out.row HRow.out fun k hk e => row_ne HD.out HRow.out (show (9 : TypeId) ≠ 28 by decide) (e ▸ hk))
    have HL6 := Lib.hid hL6
    by_cases hlt : n < li.length
    · have f4 := hL6.frozen 4
      have c4 := hL6.cell 4 _ rfl
      have HP : Hid (AppP w base L D r (appR b p s false t.data.toList) (.returned (.int .i64 420)) (w6.setCell ⟨L, 4, none⟩ (.bool true))) := Lib.hid (by
        rw [HRes.out, if_pos hlt]
        exact app_end1 HK6.out HL6.out HR6.out HD6.out HV.out hne HN6.out)
      clear hL6
      go_wp2_with fail
      go_ret
      exact HP.out
    · have hnl : n = li.length := by omega
      have HD7 := Lib.hid (show DiskAt w6 D (b ++ li) p' by have h := HD6.out; rw [hnl, List.take_length] at h; exact h)
      have HQ := Lib.hid (show appR b p s false t.data.toList = (0, b ++ li, p', s.add t.data.toList, false) by rw [HRes.out, if_neg hlt])
      have HA := Lib.hid (add_any base L (.pointer (some ⟨D, 0, none⟩)) v s.recs s.last s.size false t w6 hL6 HR6.out (Nat.le_trans hbase HK6.out.size) hb2 hL2 (HT.out.kp HK6.out (fun k e => by omega)) hx hts hss hrl)
      clear hL6 HD6 HRes HSZ hnl
      go_wp2_with fail
      refine HA.out.mono ?_
      rintro e w7 ⟨⟨u, rfl⟩, v7, hL7, hr7, hk7, hv7⟩
      have HP := Lib.hid (app_end2 HK6.out HL6.out HR6.out HD7.out HV.out hne HN6.out hL7 (by rw [len_toList]) hr7 hk7 hv7)
      rw [← HQ.out] at HP
      clear hL7 hr7 hk7 hv7
      go_wp2_with fail
      go_ret
      exact HP.out

theorem app_any (base L D : Nat) (r : Option Nat) (s : St) (cl : Bool) (b : Bs) (p : Int) (t : ByteArray) (w : World) (hLog : LogAt w base L D r s cl) (hDisk : DiskAt w D b p)
    (hx : s.last < 9973) (hn : b.length ≤ 2000000) (hl : -(2^63) ≤ p) (hh : p < 2^63) (hT : Tb w) (hD2 : 2 ≤ D) (hL2 : 2 ≤ L) (hb2 : 2 ≤ base) (hbase : base ≤ w.heap.size) (hss : s.size ≤ 1000000000) (hrl : s.recs.length ≤ 1000000000) :
    Calls Tryd.prog 14 #[.pointer (some ⟨L, 0, none⟩), .string t] w (AppP w base L D r (appR b p s cl t.data.toList)) := by
  cases cl with
  | true =>
    obtain ⟨v, hv, hL, hrow⟩ := hLog
    refine (app_closed L D v s.last s.size t w hL).mono ?_
    rintro e w' ⟨rfl, rfl⟩
    exact ⟨rfl, hDisk, ⟨r, ⟨v, hv, hL, hrow⟩, .inl rfl⟩, Kp.refl _ _, NewB.refl _ _⟩
  | false =>
    cases hr : recB t.data.toList with
    | false =>
      have hLog' := hLog
      obtain ⟨v, hv, hL, hrow⟩ := hLog
      refine (app_text L D v s.last s.size t w hL hr).mono ?_
      rintro e w' ⟨rfl, hb⟩
      unfold appR
      rw [if_neg (by decide), if_pos hr]
      exact ⟨rfl, hDisk.below hb, ⟨r, hLog'.below hb, .inl rfl⟩, Kp.of_below hb _, NewB.below hb hDisk.lt⟩
    | true =>
      by_cases hf : 1048576 < b.length + (t.size + 6)
      · have hLog' := hLog
        have hDisk' := hDisk
        obtain ⟨v, hv, hL, hrow⟩ := hLog
        obtain ⟨v0, hD, hB⟩ := hDisk
        obtain ⟨A, c, rfl, _⟩ := hB.form
        refine (app_full L D v s.last s.size A b.length c p t w hL hD hr hx hf hn hT).mono ?_
        rintro e w' ⟨rfl, hb⟩
        unfold appR
        rw [if_neg (by decide), if_neg (by rw [hr]; decide), if_pos (by rw [len_toList]; exact hf)]
        exact ⟨rfl, hDisk'.below hb, ⟨r, hLog'.below hb, .inl rfl⟩, Kp.of_below hb _, NewB.below hb hDisk'.lt⟩
      · exact app_go base L D r s b p t w hLog hDisk hr hx (by omega) hl hh hT hD2 hL2 hb2 hbase hss hrl
end Go.Proofs.YtandanbojfdfjaaDoor
