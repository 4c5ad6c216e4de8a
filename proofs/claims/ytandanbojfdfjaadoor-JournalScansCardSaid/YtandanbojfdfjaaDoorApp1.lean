import Derived.Test.YtandanbojfdfjaaDoorOpen2
namespace Go.Proofs.YtandanbojfdfjaaDoor
open Go.ChangeShapes Go.WideShapes Go.ChangeAt Go.RowKit

theorem app_nil (t : ByteArray) (w : World) : Calls Tryd.prog 14 #[.pointer none, .string t] w fun e w' => e = .returned (.int .i64 1) ∧ w = w' := by
  go_enter Tryd.func14, Tryd.ntmps14
  go_wp2_with fail
  go_ret
  exact ⟨rfl, rfl⟩
theorem app_nodisk (L : Nat) (a b c d : Value) (t : ByteArray) (w : World) (hL : Blk w L 68 #[.pointer none, a, b, c, d]) : Calls Tryd.prog 14 #[.pointer (some ⟨L, 0, none⟩), .string t] w fun e w' => e = .returned (.int .i64 1) ∧ w = w' := by
  have c0 := hL.cell 0 (.pointer none) rfl
  clear hL
  go_enter Tryd.func14, Tryd.ntmps14
  go_wp2_with fail
  go_ret
  exact ⟨rfl, rfl⟩
theorem app_closed (L D : Nat) (v : Value) (last size : Nat) (t : ByteArray) (w : World) (hL : Blk w L 68 (lg (.pointer (some ⟨D, 0, none⟩)) v last size true)) :
    Calls Tryd.prog 14 #[.pointer (some ⟨L, 0, none⟩), .string t] w fun e w' => e = .returned (.int .i64 423) ∧ w = w' := by
  have c0 := hL.cell 0 (.pointer (some ⟨D, 0, none⟩)) rfl
  have c4 := hL.cell 4 (.bool true) rfl
  clear hL
  go_enter Tryd.func14, Tryd.ntmps14
  go_wp2_with fail
  go_ret
  exact ⟨rfl, rfl⟩
theorem app_text (L D : Nat) (v : Value) (last size : Nat) (t : ByteArray) (w : World) (hL : Blk w L 68 (lg (.pointer (some ⟨D, 0, none⟩)) v last size false)) (hr : recB t.data.toList = false) :
    Calls Tryd.prog 14 #[.pointer (some ⟨L, 0, none⟩), .string t] w fun e w' => e = .returned (.int .i64 422) ∧ Below w.heap.size w w' := by
  have c0 := hL.cell 0 (.pointer (some ⟨D, 0, none⟩)) rfl
  have c4 := hL.cell 4 (.bool false) rfl
  have HR := Lib.hid (rec_any t w)
  rw [hr] at HR
  clear hL hr
  go_enter Tryd.func14, Tryd.ntmps14
  go_wp2_with fail
  refine HR.out.mono ?_
  rintro e w' ⟨rfl, hb⟩
  go_wp2_with fail
  go_ret
  exact ⟨rfl, hb⟩
theorem app_full (L D : Nat) (v : Value) (last size : Nat) (A : Option Addr) (n c : Nat) (p : Int) (t : ByteArray) (w : World) (hL : Blk w L 68 (lg (.pointer (some ⟨D, 0, none⟩)) v last size false)) (hD : Blk w D 28 (dsk (.slice A n c) p)) (hr : recB t.data.toList = true)
    (hx : last < 9973) (hn : 1048576 < n + (t.size + 6)) (hn2 : n ≤ 2000000) (hT : Tb w) :
    Calls Tryd.prog 14 #[.pointer (some ⟨L, 0, none⟩), .string t] w fun e w' => e = .returned (.int .i64 4) ∧ Below w.heap.size w w' := by
  have c0 := hL.cell 0 (.pointer (some ⟨D, 0, none⟩)) rfl
  have c2 := hL.cell 2 (.int .i64 last) rfl
  have c4 := hL.cell 4 (.bool false) rfl
  have e0 := hD.cell 0 _ rfl
  have hs := recB_le hr
  rw [len_toList] at hs
  have HR := Lib.hid (rec_any t w)
  rw [hr] at HR
  have HLn := fun W h => Lib.hid (line_any last t W hx (by omega) h)
  have hll := lin_len last t.data.toList
  rw [len_toList] at hll
  have hLlt := hL.lt
  have hDlt := hD.lt
  have HT := Lib.hid hT
  generalize lin last t.data.toList = li at *
  clear hL hr hD hT
  go_enter Tryd.func14, Tryd.ntmps14
  go_wp2_with fail
  refine HR.out.mono ?_
  rintro e w1 ⟨rfl, hb⟩
  have d0 := (bcell hb L 0 hLlt).trans c0
  have d2 := (bcell hb L 2 hLlt).trans c2
  have HL1 := HLn w1 (HT.out.below hb HT.out.lt)
  have hs1 := hb.size
  have f0 := (bcell hb D 0 hDlt).trans e0
  clear HLn HR c0 c2 c4 e0
  go_wp2_with fail
  refine HL1.out.mono ?_
  rintro e w2 ⟨rfl, hb2⟩
  have g0 := (bcell hb2 L 0 (by omega)).trans d0
  have k0 := (bcell hb2 D 0 (by omega)).trans f0
  have hz : (ByteArray.mk li.toArray).size = t.size + 6 := by show li.toArray.size = _; simpa using hll
  clear hz d0 d2 f0
  have HB : Hid _ := Lib.hid (hb.trans (hb2.mono hb.size))
  have h1 : 1048576 < n + li.length := by omega
  have h2 : n + li.length ≤ 9000000 := by omega
  clear hb hb2 hll hn hn2 hs
  go_wp2_with fail
  go_ret
  exact ⟨rfl, HB.out⟩
end Go.Proofs.YtandanbojfdfjaaDoor
