import Derived.Test.YtandanbojfdfjaaDoorW1
import Derived.Test.YtandanbojfdfjaaDoorDig
import Derived.Test.YtandanbojfdfjaaDoorShelf
import Derived.WalkSmall
namespace Go.Proofs.YtandanbojfdfjaaDoor
open Go.ChangeShapes Go.WideShapes Go.ChangeAt Go.RowKit

theorem en55 : ∀ (args : Array Value) (w : World), (callFunc 55 args).run Tryd.prog w = .ok (.enter 55 args) w := enters_of Tryd.func55 (by kernel_rfl) (by kernel_rfl)

theorem rec_any (s : ByteArray) (w : World) : Calls Tryd.prog 34 #[.string s] w fun e w' => e = .returned (.bool (recB s.data.toList)) ∧ Below w.heap.size w w' := by
  have HC := Lib.hid (Tryd.strings_ContainsFunc 55 #[] en55 bad s w (bad_pays w))
  rw [idx_rec] at HC
  have HR := Lib.hid (show recB s.data.toList = (decide (s.size ≤ 200) && s.data.toList.all okc) by unfold recB; rw [len_toList])
  generalize s.data.toList.all okc = b at *
  by_cases h : s.size ≤ 200
  · go_enter Tryd.func34, Tryd.ntmps34
    go_wp2_with fail
    refine HC.out.mono ?_
    rintro e w' ⟨rfl, hb⟩
    go_wp2_with fail
    go_ret
    exact ⟨ret_bool (by rw [HR.out]; simp [h]), hb⟩
  · go_enter Tryd.func34, Tryd.ntmps34
    go_wp2_with fail
    go_ret
    exact ⟨ret_bool (by rw [HR.out]; simp; omega), Below.refl _ _⟩

theorem below_grow (w : World) (k : Nat) (os : Array Obj) : Below w.heap.size w (Sort.grow (w.drewN k) os) :=
  ⟨rfl, rfl, rfl, by show w.heap.size ≤ (w.heap ++ os).size; rw [Array.size_append]; omega, fun _ hj => Sort.heap_grow_old (w.drewN k) os hj⟩

/-- the table that strconv reads -/
def Tb (w : World) : Prop := Lib.TabIs Tryd.prog w "internal/strconv.uint64pow10" .u64 Lib.pow10Tab

theorem Tb.lt {w : World} (h : Tb w) : 1 < w.heap.size := by
  unfold Tb Lib.TabIs World.var? at h
  rw [show Tryd.prog.globalNamed "internal/strconv.uint64pow10" = some 1 by kernel_rfl] at h
  rcases Nat.lt_or_ge 1 w.heap.size with hl | hl
  · exact hl
  · simp [Array.getElem?_eq_none hl] at h
theorem Tb.below {w w' : World} {B : Nat} (h : Tb w) (hb : Below B w w') (hB : 1 < B) : Tb w' :=
  var?_below hb (by kernel_rfl) hB h

set_option maxHeartbeats 1000000 in
theorem line_any (x : Nat) (s : ByteArray) (w : World) (hx : x < 9973) (hs : s.size ≤ 1000000) (hT : Tb w) :
    Calls Tryd.prog 35 #[.int .i64 x, .string s] w fun e w' => e = .returned (.string ⟨(lin x s.data.toList).toArray⟩) ∧ Below w.heap.size w w' := by
  have hc := chk_lt x s.data.toList
  obtain ⟨d1, d2, d3⟩ := itoa_four (n := chk x s.data.toList) (by omega)
  have HI := Lib.hid (Tryd.strconv_Itoa (chk x s.data.toList) (by omega) (by omega) w hT)
  have HL := Lib.hid (show lin x s.data.toList = four (chk x s.data.toList) ++ [32] ++ s.data.toList ++ [10] from rfl)
  have HF := Lib.hid d3
  clear d3
  generalize hg : chk x s.data.toList = c at *
  have HG := Lib.hid hg
  clear hg
  generalize Lib.itoa (c : Int) = d at *
  go_enter Tryd.func35, Tryd.ntmps35
  go_wp2_with fail
  refine (check_any x s w hx hs).mono ?_
  rw [HG.out]
  rintro e w' ⟨rfl, rfl⟩
  go_wp2_with fail
  refine HI.out.mono ?_
  rintro e w1 ⟨rfl, k, os, rfl⟩
  have hb1 : Below w.heap.size w (Sort.grow (w.drewN k) os) := below_grow w k os
  generalize Sort.grow (w.drewN k) os = w1 at *
  go_wp2_with fail
  rw [show (4 : Int) - (d.length : Int) = ((4 - d.length : Nat) : Int) by omega]
  refine (Tryd.strings_Repeat ⟨#[48]⟩ (4 - d.length) w1 (by omega) (by show 1 * _ ≤ _; omega)).mono ?_
  rintro e w2 ⟨rfl, hb2⟩
  have HF2 : Hid (Lib.repeatL (ByteArray.mk #[48]).data.toList (4 - d.length) ++ d = four c) := HF.out
  generalize Lib.repeatL (ByteArray.mk #[48]).data.toList (4 - d.length) = r at *
  clear HF
  have hr : r.length + d.length = 4 := by
    have := congrArg List.length HF2.out
    rw [List.length_append] at this
    rw [this]; rfl
  go_wp2_with fail
  go_ret
  refine ⟨?_, hb1.trans (hb2.mono hb1.size)⟩
  rw [HL.out, ← HF2.out]
  congr 1
end Go.Proofs.YtandanbojfdfjaaDoor
