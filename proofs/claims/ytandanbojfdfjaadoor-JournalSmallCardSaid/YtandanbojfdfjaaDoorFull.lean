/- Disks and logs that are none (none), and disks about their limit (full). No condition. -/
import Derived.Test.YtandanbojfdfjaaDoorScans
import Derived.Test.YtandanbojfdfjaaDoorDoes
import Derived.Great.BuildSlice
namespace Go.Proofs.YtandanbojfdfjaaDoor
open Go.ChangeShapes Go.WideShapes Go.ChangeAt Go.RowKit

/-- the calls of a round, for a log that is none or that has no disk -/
structure NoneC (w0 : World) (l : Value) : Prop where
  app : ∀ W, Below w0.heap.size w0 W → Calls Tryd.prog 14 #[l, .string ⟨#[65]⟩] W fun e w' => e = .returned (.int .i64 1) ∧ W = w'
  rcs : ∀ W, Below w0.heap.size w0 W → Calls Tryd.prog 16 #[l] W fun e w' => ∃ a c, e = .returned (.slice a 0 c) ∧ Below W.heap.size W w'
  last : ∀ W, Below w0.heap.size w0 W → Calls Tryd.prog 24 #[l] W fun e w' => e = .returned (.int .i64 0) ∧ W = w'
  size : ∀ W, Below w0.heap.size w0 W → Calls Tryd.prog 17 #[l] W fun e w' => e = .returned (.int .i64 0) ∧ W = w'

theorem noneC_nil (w0 : World) : NoneC w0 (.pointer none) :=
  ⟨fun W _ => app_nil _ W, fun W _ => (records_nil W).mono (by rintro e w' ⟨rfl, rfl⟩; exact ⟨none, 0, rfl, Below.refl _ _⟩), fun W _ => last_nil W, fun W _ => size_nil W⟩

set_option maxRecDepth 100000 in
theorem records_zero (L : Nat) (a b c d : Value) (w : World) (hL : Blk w L 68 #[a, .slice none 0 0, b, c, d]) :
    Calls Tryd.prog 16 #[.pointer (some ⟨L, 0, none⟩)] w fun e w' => ∃ a c, e = .returned (.slice a 0 c) ∧ Below w.heap.size w w' := by
  have c1 := hL.cell 1 _ rfl
  clear hL
  go_enter Tryd.func16, Tryd.ntmps16
  go_wp2_with fail
  refine (cloneS_any none [] 0 w Rd.nil (fun _ => rfl) (fun _ => rfl) (by simp)).mono ?_
  rintro e w' ⟨v, rfl, hr, hb⟩
  obtain ⟨a3, c3, rfl⟩ := row_slice hr
  go_wp2_with fail
  go_ret
  exact ⟨_, _, rfl, hb⟩

theorem noneC_zero (w0 : World) (L : Nat) (hL : Blk w0 L 68 #[.pointer none, .slice none 0 0, .int .i64 0, .int .i64 0, .bool false]) : NoneC w0 (.pointer (some ⟨L, 0, none⟩)) :=
  ⟨fun W h => app_nodisk L _ _ _ _ _ W (hL.below h), fun W h => records_zero L _ _ _ _ W (hL.below h), fun W h => last_any L _ _ 0 0 false W (hL.below h), fun W h => size_any L _ _ 0 0 false W (hL.below h)⟩

set_option maxRecDepth 100000 in
set_option maxHeartbeats 4000000 in
theorem none_any (w : World) : Calls Tryd.prog 31 #[] w fun e w' => e = .returned (.bool true) ∧ Below w.heap.size w w' := by
  go_enter Tryd.func31, Tryd.ntmps31
  go_wp2_with fail
  refine (Open_nil w).mono ?_
  rintro e w' ⟨rfl, rfl⟩
  go_wp2_with fail
  refine (Repair_nil w).mono ?_
  rintro e w' ⟨rfl, rfl⟩
  go_wp2_with fail
  have hb0 : Below w.heap.size w ((w.alloc (.cells #[.pointer none, .slice none 0 0, .int .i64 0, .int .i64 0, .bool false] 68)).alloc (.cells #[.pointer none, .pointer (some ⟨w.heap.size, 0, none⟩)] 29)) :=
    (below_alloc w _).trans ((below_alloc _ _).mono (by simp))
  have hL : Blk ((w.alloc (.cells #[.pointer none, .slice none 0 0, .int .i64 0, .int .i64 0, .bool false] 68)).alloc (.cells #[.pointer none, .pointer (some ⟨w.heap.size, 0, none⟩)] 29)) w.heap.size 68 #[.pointer none, .slice none 0 0, .int .i64 0, .int .i64 0, .bool false] := (Blk.new w _ 68).alloc _
  have hS : Blk ((w.alloc (.cells #[.pointer none, .slice none 0 0, .int .i64 0, .int .i64 0, .bool false] 68)).alloc (.cells #[.pointer none, .pointer (some ⟨w.heap.size, 0, none⟩)] 29)) (w.heap.size + 1) 29 #[.pointer none, .pointer (some ⟨w.heap.size, 0, none⟩)] := by
    have := Blk.new (w.alloc (.cells #[.pointer none, .slice none 0 0, .int .i64 0, .int .i64 0, .bool false] 68)) #[.pointer none, .pointer (some ⟨w.heap.size, 0, none⟩)] 29
    rwa [show (w.alloc (.cells #[.pointer none, .slice none 0 0, .int .i64 0, .int .i64 0, .bool false] 68)).heap.size = w.heap.size + 1 by simp] at this
  generalize (w.alloc (.cells #[.pointer none, .slice none 0 0, .int .i64 0, .int .i64 0, .bool false] 68)).alloc (.cells #[.pointer none, .pointer (some ⟨w.heap.size, 0, none⟩)] 29) = w0 at *
  have HB0 := Lib.hid hb0
  have HL := Lib.hid hL
  have HS := Lib.hid hS
  clear hb0 hL hS
  generalize w.heap.size + 1 = S at *
  generalize hLL : w.heap.size = L at HL HS ⊢
  go_loopw [33] (fun i wr => ∃ k : Nat, k ≤ 2 ∧ i = .int .i64 k ∧ Hid (Below w0.heap.size w0 wr)) (fun i _ => 2 - (intOf i).toNat)
  case atStart => exact ⟨0, by omega, rfl, Lib.hid (Below.refl _ _)⟩
  case round =>
    obtain ⟨k, hk, rfl, HB⟩ := hrel
    by_cases hlt : k < 2
    · obtain ⟨l, hl, hN⟩ : ∃ l, wr.cell? ⟨S, k, none⟩ = some l ∧ NoneC w0 l := by
        have h1 := HS.out.below HB.out
        rcases (show k = 0 ∨ k = 1 by omega) with rfl | rfl
        · exact ⟨_, h1.cell 0 _ rfl, noneC_nil _⟩
        · exact ⟨_, h1.cell 1 _ rfl, noneC_zero _ _ HL.out⟩
      have HN := Lib.hid hN
      clear hN HS HL
      go_wp2_with fail
      refine (HN.out.app wr HB.out).mono ?_
      rintro e w' ⟨rfl, rfl⟩
      go_wp2_with fail
      refine (HN.out.rcs wr HB.out).mono ?_
      rintro e w1 ⟨a1, c1, rfl, hb1⟩
      have HB1 := Lib.hid (HB.out.trans (hb1.mono HB.out.size))
      clear hb1 hl HB
      go_wp2_with fail
      refine (HN.out.last w1 HB1.out).mono ?_
      rintro e w' ⟨rfl, rfl⟩
      go_wp2_with fail
      refine (HN.out.size w1 HB1.out).mono ?_
      rintro e w' ⟨rfl, rfl⟩
      go_wp2_with fail
      go_roundw
      case rel => exact ⟨k + 1, by omega, by go_num, HB1⟩
      case measure => simp [intOf]; omega
    · obtain rfl : k = 2 := by omega
      go_wp2_with fail
      go_ret
      exact ⟨rfl, HB0.out.trans (HB.out.mono HB0.out.size)⟩
end Go.Proofs.YtandanbojfdfjaaDoor

namespace Go.Proofs.YtandanbojfdfjaaDoor
open Go.ChangeShapes Go.WideShapes Go.ChangeAt Go.RowKit

/-- n bytes 0 -/
def zb (n : Nat) : Bs := List.replicate n 0
theorem zb_len (n : Nat) : (zb n).length = n := by simp [zb]
theorem zb_take (n k : Nat) (h : k ≤ n) : (zb n).take k = zb k := by simp [zb, List.take_replicate, Nat.min_eq_left h]
theorem zb_scan (n : Nat) (h : 0 < n) : scanS (zb n) = (St.zero, 1) := by
  refine sgo_part (fun h0 => ?_) (fun h0 => ?_)
  · have := zb_len n
    rw [h0] at this
    simp at this; omega
  · have := List.eq_of_mem_replicate h0
    exact absurd this (by decide)
theorem zb_open (n : Nat) (h : 0 < n) (h2 : n ≤ 1048576) : openR (zb n) (-1) = (some St.zero, 0, [], -1) := by
  unfold openR
  rw [if_neg (by rw [zb_len]; omega), zb_scan n h]
  rfl
theorem zb_openL (n : Nat) (h2 : 1048576 < n) : openR (zb n) (-1) = (none, 3, zb n, -1) := by
  unfold openR
  rw [if_pos (by rw [zb_len]; omega)]
theorem zb_repair (n : Nat) (h : 0 < n) (h2 : n ≤ 1048576) : repairR (zb n) 1 = (n, 0, [], 0) := by
  unfold repairR
  rw [if_neg (by rw [zb_len]; omega), zb_scan n h, zb_len]
  rfl
theorem zb_repairL (n : Nat) (h2 : 1048576 < n) : repairR (zb n) 1 = (0, 3, zb n, 1) := by
  unfold repairR
  rw [if_pos (by rw [zb_len]; omega)]
theorem zb_full (n : Nat) (t : Bs) (h : recB t = true) (hl : t.length = 200) (h2 : 1048370 < n) : appR (zb n) (-1) St.zero false t = (4, zb n, -1, St.zero, false) := by
  unfold appR
  rw [if_neg (by simp), if_neg (by simp [h]), if_pos (by rw [zb_len, hl]; omega)]
theorem zb_fits (t : Bs) (h : recB t = true) (hl : t.length = 200) : ∃ b, b.length = 1048576 ∧ appR (zb 1048370) (-1) St.zero false t = (0, b, -1, St.zero.add t, false) := by
  refine ⟨zb 1048370 ++ lin 1 t, ?_, ?_⟩
  · rw [List.length_append, zb_len, lin_eq, List.length_append, lin0_len, hl]; rfl
  · unfold appR
    rw [if_neg (by simp), if_neg (by simp [h]), if_neg (by rw [zb_len, hl]; omega), hl, if_neg (by decide)]
    rfl

theorem mk26 (n : Nat) (hn : n ≤ 2000000) (W : World) : (Instr.makeSlice 26 (.int .i64 (n : Int)) (.int .i64 (n : Int))).run Tryd.prog W = .ok (.slice (some ⟨W.heap.size, 0, none⟩) n n) (W.alloc (.cells (bcs (zb n)).toArray 5)) := by
  obtain ⟨i, hi⟩ : ∃ i, Tryd.prog.info? 5 = some i := Option.isSome_iff_exists.1 (by kernel_rfl)
  have hb : (Tryd.prog.info? 5).map (·.bytes) = some 1 := by kernel_rfl
  have hs : (Tryd.prog.info? 5).map (·.size) = some 1 := by kernel_rfl
  have hz : (Tryd.prog.info? 5).map (·.zero) = some (some (.int .u8 0)) := by kernel_rfl
  rw [hi, Option.map_some] at hb hs hz
  have hb := Option.some.inj hb
  have hs := Option.some.inj hs
  have hr := run_make (P := Tryd.prog) W 26 5 i (.int .u8 0) (by kernel_rfl) hi (Option.some.inj hz) .i64 .i64 (n : Int) (n : Int) (by omega) (by omega) (by rw [hb]; omega) (by omega)
  rw [hr, hs]
  have : madeCells (Value.int .u8 0).cells (((n : Int).toNat) * 1) = (bcs (zb n)).toArray := by
    apply Array.ext
    · simp [size_madeCells, zb_len]
    · intro k h1 h2
      simp [madeCells, Value.cells, zb, Nat.mod_one]
  rw [this]
  simp

/-- a disk of n bytes 0 that is made -/
theorem new_disk (w : World) (n : Nat) (p : Int) :
    DiskAt ((w.alloc (.cells (bcs (zb n)).toArray 5)).alloc (.cells #[.slice (some ⟨w.heap.size, 0, none⟩) n n, .int .i64 p] 28)) (w.heap.size + 1) (zb n) p ∧
      Below w.heap.size w ((w.alloc (.cells (bcs (zb n)).toArray 5)).alloc (.cells #[.slice (some ⟨w.heap.size, 0, none⟩) n n, .int .i64 p] 28)) := by
  refine ⟨⟨.slice (some ⟨w.heap.size, 0, none⟩) n n, ?_, .inr ⟨w.heap.size, 0, n, (bcs (zb n)).toArray, by rw [zb_len], (Blk.new w _ 5).alloc _, by rw [zb_len]; omega, fun j u h => ?_, by simp [zb_len]⟩⟩, (below_alloc w _).trans ((below_alloc _ _).mono (by simp))⟩
  · have := Blk.new (w.alloc (.cells (bcs (zb n)).toArray 5)) (dsk (.slice (some ⟨w.heap.size, 0, none⟩) n n) p) 28
    rwa [show (w.alloc (.cells (bcs (zb n)).toArray 5)).heap.size = w.heap.size + 1 by simp] at this
  · rw [Nat.zero_add]
    simpa using h

/-- the disk's bytes are made anew -/
theorem DiskAt.fill {w : World} {D : Nat} {b : Bs} {p : Int} (h : DiskAt w D b p) (n : Nat) :
    DiskAt ((w.alloc (.cells (bcs (zb n)).toArray 5)).setCell ⟨D, 0, none⟩ (.slice (some ⟨w.heap.size, 0, none⟩) n n)) D (zb n) p := by
  obtain ⟨v, hD, hB⟩ := h
  have hlt := hD.lt
  have h1 := (hD.alloc (.cells (bcs (zb n)).toArray 5)).set 0 (.slice (some ⟨w.heap.size, 0, none⟩) n n)
  refine ⟨_, h1, .inr ⟨w.heap.size, 0, n, (bcs (zb n)).toArray, by rw [zb_len], ?_, by rw [zb_len]; omega, fun j u h => by rw [Nat.zero_add]; simpa using h, by simp [zb_len]⟩⟩
  exact (Kp.set _ D 0 _).blk (Blk.new w _ 5) (by omega)

/-- what a change of the disk's first cell leaves of the log -/
theorem Sys.set0 {w0 w : World} {base L D : Nat} {b b' : Bs} {p : Int} {s : St} {cl : Bool} (h : Sys w0 w base L D b p s cl) (v : Value) (hd : DiskAt (w.setCell ⟨D, 0, none⟩ v) D b' p) :
    Sys w0 (w.setCell ⟨D, 0, none⟩ v) base L D b' p s cl := by
  obtain ⟨r, hl⟩ := h.log
  obtain ⟨c1, hD⟩ := h.disk.blk
  obtain ⟨c2, hL⟩ := hl.blk
  have hk := Kp.set w D 0 v
  refine ⟨hd, ⟨r, hl.kp hk (fun e => ?_) (fun k e1 e2 => ?_)⟩, hk.below h.bel (fun k e => by subst e; exact h.D0), h.base0, h.D0, h.L0, Nat.le_trans h.base1 hk.size⟩
  · subst e
    exact absurd (blk_ne hD hL) (by decide)
  · subst e2
    obtain ⟨cs, hB⟩ := hl.rblk _ e1
    exact absurd (blk_ne hD hB) (by decide)
theorem Sys.fill {w0 w : World} {base L D : Nat} {b : Bs} {p : Int} {s : St} {cl : Bool} (h : Sys w0 w base L D b p s cl) (n : Nat) :
    Sys w0 ((w.alloc (.cells (bcs (zb n)).toArray 5)).setCell ⟨D, 0, none⟩ (.slice (some ⟨w.heap.size, 0, none⟩) n n)) base L D (zb n) p s cl :=
  (h.below (below_alloc w _)).set0 _ (h.disk.fill n)
/-- the disk's cell, and it cut -/
theorem Sys.dcell {w0 w : World} {base L D : Nat} {b : Bs} {p : Int} {s : St} {cl : Bool} (h : Sys w0 w base L D b p s cl) :
    ∃ A c, w.cell? ⟨D, 0, none⟩ = some (.slice A b.length c) ∧ w.frozen? ⟨D, 0, none⟩ = false ∧ b.length ≤ c ∧ ∀ k, k ≤ b.length → Sys w0 (w.setCell ⟨D, 0, none⟩ (.slice A k c)) base L D (b.take k) p s cl := by
  obtain ⟨v, hD, hB⟩ := h.disk
  obtain ⟨A, c, rfl, _, hc, _⟩ := hB.form
  refine ⟨A, c, hD.cell 0 _ rfl, hD.frozen 0, hc, fun k hk => h.set0 _ ⟨_, hD.set 0 _, ?_⟩⟩
  exact (hB.take k hk).kp1 (Kp.set w D 0 _) hD (by decide)
/-- another disk is written -/
theorem Sys.other {w0 w w' : World} {base L D D2 : Nat} {cs : Array Value} {b : Bs} {p : Int} {s : St} {cl : Bool} (h : Sys w0 w base L D b p s cl) (hk : Kp w w' (fun k => k = D2)) (h2 : Blk w D2 28 cs) (hne : D ≠ D2) (hD2 : w0.heap.size ≤ D2) :
    Sys w0 w' base L D b p s cl := by
  obtain ⟨r, hl⟩ := h.log
  obtain ⟨c2, hL⟩ := hl.blk
  refine ⟨h.disk.kp hk hne (fun k cs hB e => ?_), ⟨r, hl.kp hk (fun e => ?_) (fun k e1 e2 => ?_)⟩, hk.below h.bel (fun k e => by subst e; exact hD2), h.base0, h.D0, h.L0, Nat.le_trans h.base1 hk.size⟩
  · subst e
    exact absurd (blk_ne h2 hB) (by decide)
  · subst e
    exact absurd (blk_ne h2 hL) (by decide)
  · subst e2
    obtain ⟨cs, hB⟩ := hl.rblk _ e1
    exact absurd (blk_ne h2 hB) (by decide)
end Go.Proofs.YtandanbojfdfjaaDoor

namespace Go.Proofs.YtandanbojfdfjaaDoor
open Go.ChangeShapes Go.WideShapes Go.ChangeAt Go.RowKit

/-- what is long, as a string -/
def zzz : ByteArray := ⟨(Lib.repeatL [122] 200).toArray⟩
theorem zzz_rec : recB zzz.data.toList = true := by decide +kernel
theorem zzz_len : zzz.data.toList.length = 200 := by decide +kernel
theorem zzz_size : zzz.size = 200 := by decide +kernel
theorem zzz_lin : ((linR 1 zzz.data.toList).1).length = 206 := by decide +kernel
theorem rep_zzz (W : World) : Calls Tryd.prog 27 #[.string ⟨#[122]⟩, .int .i64 200] W fun e w' => e = .returned (.string zzz) ∧ Below W.heap.size W w' :=
  Tryd.strings_Repeat_main ⟨#[122]⟩ 200 W (by omega) (by omega) (by decide) (by decide)

set_option maxRecDepth 100000 in
set_option maxHeartbeats 4000000 in
theorem full_any (w : World) (hT : Tb w) : Calls Tryd.prog 30 #[] w fun e w' => e = .returned (.bool true) ∧ Below w.heap.size w w' := by
  have HT := Lib.hid hT
  clear hT
  have HR := fun W => Lib.hid (rep_zzz W)
  have HL := fun W => Lib.hid (Lin_ref 1 zzz W (by omega) (by omega) (by rw [zzz_size]; decide))
  have hls := zzz_lin
  have hzr := zzz_rec
  have hzl := zzz_len
  generalize (linR 1 zzz.data.toList).1 = li at *
  generalize (linR 1 zzz.data.toList).2 = en at *
  generalize zzz = Z at *
  have hls2 : (ByteArray.mk li.toArray).size = 206 := hls
  generalize ByteArray.mk li.toArray = LI at *
  have HZR := Lib.hid hzr
  have HZL := Lib.hid hzl
  clear hzr hzl hls
  go_enter Tryd.func30, Tryd.ntmps30
  go_wp2_with fail
  refine (HR _).out.mono ?_
  rintro e w1 ⟨rfl, hb1⟩
  go_wp2_with fail
  refine (HL _).out.mono ?_
  rintro e w2 ⟨rfl, hb2⟩
  go_wp2_with fail
  have hb3 : Below w.heap.size w (w2.alloc (.cells #[.int .i64 1048371, .int .i64 1048576, .int .i64 1048577] 3)) :=
    ((hb1.trans (hb2.mono hb1.size))).trans ((below_alloc w2 _).mono (Nat.le_trans hb1.size hb2.size))
  have HS := Lib.hid (Blk.new w2 #[.int .i64 1048371, .int .i64 1048576, .int .i64 1048577] 3)
  generalize w2.alloc (.cells #[.int .i64 1048371, .int .i64 1048576, .int .i64 1048577] 3) = w3 at *
  generalize w2.heap.size = S at *
  have HT3 := Lib.hid (HT.out.below hb3 HT.out.lt)
  have HB3 := Lib.hid hb3
  clear hb1 hb2 hb3 HL w1 w2 HT
  go_loopw [21] (fun i wr => ∃ k : Nat, k ≤ 3 ∧ i = .int .i64 k ∧ Hid (Below w3.heap.size w3 wr)) (fun i _ => 3 - (intOf i).toNat)
  case atStart => exact ⟨0, by omega, rfl, Lib.hid (Below.refl _ _)⟩
  case round =>
    obtain ⟨k, hk, rfl, HB⟩ := hrel
    by_cases hlt : k < 3
    · obtain ⟨n, hn, hnn⟩ : ∃ n : Nat, wr.cell? ⟨S, k, none⟩ = some (.int .i64 (n : Int)) ∧ (n = 1048371 ∨ n = 1048576 ∨ n = 1048577) := by
        have h1 := HS.out.below HB.out
        rcases (show k = 0 ∨ k = 1 ∨ k = 2 by omega) with rfl | rfl | rfl
        · exact ⟨_, h1.cell 0 (.int .i64 ((1048371 : Nat) : Int)) rfl, .inl rfl⟩
        · exact ⟨_, h1.cell 1 (.int .i64 ((1048576 : Nat) : Int)) rfl, .inr (.inl rfl)⟩
        · exact ⟨_, h1.cell 2 (.int .i64 ((1048577 : Nat) : Int)) rfl, .inr (.inr rfl)⟩
      have hn1 : 1048370 < n ∧ n ≤ 1048577 := by omega
      clear hnn HS
      have hmk := mk26 n (by omega)
      go_wp2_with fail
      obtain ⟨hd, hbd⟩ := new_disk wr n (-1)
      have hD : ∃ D, wr.heap.size + 1 = D ∧ wr.heap.size < D := ⟨_, rfl, by omega⟩
      obtain ⟨D, hD, hDlt⟩ := hD
      rw [hD] at hd ⊢
      generalize (wr.alloc (.cells (bcs (zb n)).toArray 5)).alloc (.cells #[.slice (some ⟨wr.heap.size, 0, none⟩) n n, .int .i64 (-1)] 28) = wd at *
      have hB0 := HB.out.trans (hbd.mono HB.out.size)
      have hDw : w3.heap.size ≤ D := Nat.le_trans HB.out.size (Nat.le_of_lt hDlt)
      have hTd := HT3.out.below hB0 HT3.out.lt
      clear hbd hn HB hD hDlt
      by_cases hlong : 1048576 < n
      · refine (open_any D (zb n) (-1) wd hd (by rw [zb_len]; omega) (by omega) (by omega) hTd).mono ?_
        rw [zb_openL n hlong]
        rintro e w4 ⟨hd4, ⟨hk4, _⟩, rfl⟩
        have HB4 := Lib.hid (hk4.below hB0 (fun k e => by omega))
        clear hB0 hTd hd hk4 hd4
        generalize wr.heap.size = zz at *
        go_wp2_with fail
        obtain ⟨hd2, hbd2⟩ := new_disk w4 n 1
        obtain ⟨D2, hD2, hlt2⟩ : ∃ D2, w4.heap.size + 1 = D2 ∧ w4.heap.size < D2 := ⟨_, rfl, by omega⟩
        rw [hD2] at hd2 ⊢
        clear hD2
        generalize (w4.alloc (.cells (bcs (zb n)).toArray 5)).alloc (.cells #[.slice (some ⟨w4.heap.size, 0, none⟩) n n, .int .i64 1] 28) = we at *
        have hB5 := HB4.out.trans (hbd2.mono HB4.out.size)
        have hTe := HT3.out.below hB5 HT3.out.lt
        have hDw2 : w3.heap.size ≤ D2 := Nat.le_trans HB4.out.size (Nat.le_of_lt hlt2)
        clear hlt2 HB4
        refine (repair_any D2 (zb n) 1 we hd2 (by rw [zb_len]; omega) (by omega) (by omega) hTe).mono ?_
        rw [zb_repairL n hlong]
        rintro e w5 ⟨rfl, _, hk5, _⟩
        have HB5 := Lib.hid (hk5.below hB5 (fun k e => by omega))
        clear hB5 hTe hd2 hk5 hbd2 HR
        generalize w4.heap.size = z4 at *
        have hd1 : decide ((n : Int) > 1048576) = true := decide_eq_true (by omega)
        have hd1' : decide (1048576 < (n : Int)) = true := decide_eq_true (by omega)
        go_wp2_with fail
        go_roundw
        case rel => exact ⟨k + 1, by omega, by go_num, HB5⟩
        case measure => simp [intOf]; omega
      · have hn2 : n ≤ 1048576 := by omega
        refine (open_any D (zb n) (-1) wd hd (by rw [zb_len]; omega) (by omega) (by omega) hTd).mono ?_
        rw [zb_open n (by omega) hn2]
        intro e w4 hO
        obtain ⟨L, rfl, hS4, _⟩ := Sys.of_open hB0 hDw hO
        clear hB0 hTd hd hO
        generalize wr.heap.size = zz at *
        generalize wd.heap.size = base at *
        go_wp2_with fail
        obtain ⟨hd2, hbd2⟩ := new_disk w4 n 1
        obtain ⟨D2, hD2, hlt2⟩ : ∃ D2, w4.heap.size + 1 = D2 ∧ w4.heap.size < D2 := ⟨_, rfl, by omega⟩
        rw [hD2] at hd2 ⊢
        clear hD2
        generalize (w4.alloc (.cells (bcs (zb n)).toArray 5)).alloc (.cells #[.slice (some ⟨w4.heap.size, 0, none⟩) n n, .int .i64 1] 28) = we at *
        have hS5 := hS4.below hbd2
        have hne : D ≠ D2 := by have := hS4.disk.lt; omega
        have hTe := HT3.out.below hS5.bel HT3.out.lt
        have hDw2 : w3.heap.size ≤ D2 := Nat.le_trans hS4.bel.size (Nat.le_of_lt hlt2)
        obtain ⟨cs2, hcs2⟩ := hd2.blk
        clear hlt2 hbd2 hS4
        refine (repair_any D2 (zb n) 1 we hd2 (by rw [zb_len]; omega) (by omega) (by omega) hTe).mono ?_
        rw [zb_repair n (by omega) hn2]
        rintro e w5 ⟨rfl, _, hk5, _⟩
        have hS6 := hS5.other hk5 hcs2 hne hDw2
        clear hS5 hk5 hcs2 hTe hd2
        generalize w4.heap.size = z4 at *
        obtain ⟨A6, c6, hc6, hf6, hl6, _⟩ := hS6.dcell
        have HS6 := Lib.hid hS6
        clear hS6
        go_upto_region 8 with fail
        have hd1 : decide ((n : Int) > 1048576) = false := decide_eq_false (by omega)
        have hd1' : decide (1048576 < (n : Int)) = false := decide_eq_false (by omega)
        go_upto_region 13 with fail
        obtain ⟨A7, c7, hc7, hf7, _⟩ := (HS6.out.below (below_alloc w5 (.cells (bcs (zb n)).toArray 5))).dcell
        clear hc6 hf6 hl6
        go_wp2_with fail
        have hS8 := HS6.out.fill n
        clear HS6 hc7 hf7
        generalize (w5.alloc (.cells (bcs (zb n)).toArray 5)).setCell ⟨D, 0, none⟩ (.slice (some ⟨w5.heap.size, 0, none⟩) n n) = w8 at *
        generalize w5.heap.size = z5 at *
        refine (HR w8).out.mono ?_
        rintro e w9 ⟨rfl, hb9⟩
        have hS9 := hS8.below hb9
        clear hS8 hb9
        go_wp2_with fail
        refine (hS9.app HT3.out Z (by decide) (by rw [zb_len]; omega) (by omega) (by omega) (by decide) (by decide)).mono ?_
        rw [zb_full n _ HZR.out HZL.out hn1.1]
        rintro e w10 ⟨rfl, hS10, _⟩
        clear hS9
        obtain ⟨A10, c10, hc10, hf10, hl10, ht10⟩ := hS10.dcell
        rw [zb_len] at hc10 hl10
        have hT11 := ht10 1048370 (by rw [zb_len]; omega)
        rw [zb_take n 1048370 (by omega)] at hT11
        have HT11 := Lib.hid hT11
        clear ht10 hT11
        have HS10 := Lib.hid hS10
        clear hS10
        go_wp2_with fail
        refine HS10.out.size.mono ?_
        rintro e w' ⟨rfl, rfl⟩
        go_wp2_with fail
        clear HS10 hc10 hf10
        refine (HR _).out.mono ?_
        rintro e w12 ⟨rfl, hb12⟩
        have hS12 := HT11.out.below hb12
        clear HT11 hb12
        go_wp2_with fail
        obtain ⟨bb, hbb, happ⟩ := zb_fits Z.data.toList HZR.out HZL.out
        refine (hS12.app HT3.out Z (by decide) (by rw [zb_len]; omega) (by omega) (by omega) (by decide) (by decide)).mono ?_
        rw [happ]
        rintro e w13 ⟨rfl, hS13, _⟩
        obtain ⟨A13, c13, hc13, hf13, hl13, _⟩ := hS13.dcell
        have hbb2 : bb.length = 1048576 := hbb
        rw [hbb2] at hc13
        have HB13 := Lib.hid hS13.bel
        clear hS12 hS13 hl13 happ hbb hbb2
        go_wp2_with fail
        go_roundw
        case rel => exact ⟨k + 1, by omega, by go_num, HB13⟩
        case measure => simp [intOf]; omega
    · obtain rfl : k = 3 := by omega
      go_wp2_with fail
      go_ret
      exact ⟨rfl, HB3.out.trans (HB.out.mono HB3.out.size)⟩
end Go.Proofs.YtandanbojfdfjaaDoor
