import Derived.Test.YtandanbojfdfjaaDoorW2
import Derived.Deep.RegionWith
import Derived.WalkSpells
import Derived.Deep.RegionHeld3
namespace Go.Proofs.YtandanbojfdfjaaDoor
open Go.ChangeShapes Go.WideShapes Go.ChangeAt Go.RowKit

/-- the record of a line -/
def mid (l : Bs) : Bs := (l.drop 5).take (l.length - 6)
theorem mid_len {l : Bs} (h : 6 ≤ l.length) : (mid l).length = l.length - 6 := by unfold mid; simp; omega
theorem mid_size {s : ByteArray} (h : 6 ≤ s.size) : (s.extract 5 (s.size - 1)).data.toList = mid s.data.toList := by
  unfold mid
  rw [ByteArray.data_extract, Array.toList_extract, len_toList]
  simp
  omega
/-- a line is that of a record -/
def goodB (x : Nat) (l : Bs) : Bool := decide (6 ≤ l.length) && (recB (mid l) && (lin x (mid l) == l))

theorem good1_any (b : Nat) (s : ByteArray) (w : World) (hc : w.cell? ⟨b, 0, none⟩ = some (.string s)) :
    Calls Tryd.prog 71 #[.pointer (some ⟨b, 0, none⟩)] w fun e w' => e = .returned (.bool (decide (6 ≤ s.data.toList.length))) ∧ w = w' := by
  rw [len_toList]
  go_enter Tryd.func71, Tryd.ntmps71
  go_wp2_with fail
  go_ret
  exact ⟨ret_bool (by simp; omega), rfl⟩

theorem good2_any (b : Nat) (s : ByteArray) (w : World) (h6 : 6 ≤ s.size) (hs : s.size ≤ 2000000) (hc : w.cell? ⟨b, 0, none⟩ = some (.string s)) :
    Calls Tryd.prog 72 #[.pointer (some ⟨b, 0, none⟩)] w fun e w' => e = .returned (.bool (recB (mid s.data.toList))) ∧ Below w.heap.size w w' := by
  have HR := Lib.hid (rec_any (s.extract 5 (s.size - 1)) w)
  rw [mid_size h6] at HR
  generalize recB (mid s.data.toList) = r at *
  have h7 : 5 ≤ s.size - 1 := by omega
  go_enter Tryd.func72, Tryd.ntmps72
  go_wp2_with fail
  refine HR.out.mono ?_
  rintro e w' ⟨rfl, hb⟩
  go_wp2_with fail
  go_ret
  exact ⟨rfl, hb⟩

set_option maxHeartbeats 4000000 in
theorem good3_any (bx b : Nat) (x : Nat) (s : ByteArray) (w : World) (h6 : 6 ≤ s.size) (hs : s.size ≤ 1000000) (hx : x < 9973) (hT : Tb w)
    (hcx : w.cell? ⟨bx, 0, none⟩ = some (.int .i64 x)) (hc : w.cell? ⟨b, 0, none⟩ = some (.string s)) :
    Calls Tryd.prog 73 #[.pointer (some ⟨bx, 0, none⟩), .pointer (some ⟨b, 0, none⟩)] w fun e w' => e = .returned (.bool (lin x (mid s.data.toList) == s.data.toList)) ∧ Below w.heap.size w w' := by
  have hlt := cell_lt hc
  have hltx := cell_lt hcx
  have HR := fun w1 (hb : Below w.heap.size w w1) => Lib.hid (line_any x (s.extract 5 (s.size - 1)) w1 hx (by simp; omega) (hT.below hb hT.lt))
  rw [mid_size h6] at HR
  have HE : Hid (((⟨(lin x (mid s.data.toList)).toArray⟩ : ByteArray).toList == s.toList) = (lin x (mid s.data.toList) == s.data.toList)) := Lib.hid (by
    rw [ByteArray.toList_mk, ByteArray.toList_eq])
  generalize (lin x (mid s.data.toList) == s.data.toList) = r at *
  generalize (⟨(lin x (mid s.data.toList)).toArray⟩ : ByteArray) = t at *
  have h7 : 5 ≤ s.size - 1 := by omega
  go_enter Tryd.func73, Tryd.ntmps73
  go_wp2_with fail
  have hC : (5 : Int) ≤ (s.size : Int) - 1 := by omega
  have hD : (s.size : Int) - 1 ≤ (s.size : Int) := by omega
  have hw : IntKind.i64.wrap ((s.size : Int) - 1) = (s.size : Int) - 1 := IntWalk.i64_in _ (by omega)
  have HR1 := HR w.drew (Below.refl _ _).drew
  clear HR
  go_region_held3 (fun w' => w'.cell? ⟨bx, 0, none⟩ = some (.int .i64 x) ∧ w'.cell? ⟨b, 0, none⟩ = some (.string s))
    (first
      | go_keep
      | ((exact ⟨(bcell hb bx 0 hltx).trans hcx, (bcell hb b 0 hlt).trans hc⟩)))
    ((refine HR1.out.mono ?_; rintro e w' ⟨rfl, hb⟩))
  go_wp2_with fail
  go_ret
  exact ⟨ret_bool HE.out, ((Below.refl _ _).drew).trans hb⟩

end Go.Proofs.YtandanbojfdfjaaDoor
