import Derived.Test.YtandanbojfdfjaaDoorLine
namespace Go.Proofs.YtandanbojfdfjaaDoor
open Go.ChangeShapes Go.WideShapes Go.ChangeAt Go.RowKit

/-- the error of a check before a record, and the record -/
def wrg (x : Int) (l : Bs) : Nat := if x < 0 ∨ 9973 ≤ x then 2 else if recB l then 0 else 422
def chkR (x : Int) (l : Bs) : Nat × Nat := if wrg x l = 0 then (chk x.toNat l, 0) else (0, wrg x l)
def linR (x : Int) (l : Bs) : Bs × Nat := if wrg x l = 0 then (lin x.toNat l, 0) else ([], wrg x l)

theorem recB_le {l : Bs} (h : recB l = true) : l.length ≤ 200 := by unfold recB at h; simp at h; exact h.1

theorem wrong_any (x : Int) (s : ByteArray) (w : World) (hl : -(2^63) ≤ x) (hh : x < 2^63) :
    Calls Tryd.prog 42 #[.int .i64 x, .string s] w fun e w' => e = .returned (.int .i64 (wrg x s.data.toList)) ∧ Below w.heap.size w w' := by
  have HR := Lib.hid (rec_any s w)
  have HW := Lib.hid (show wrg x s.data.toList = if x < 0 ∨ 9973 ≤ x then 2 else if recB s.data.toList then 0 else 422 from rfl)
  generalize recB s.data.toList = b at *
  by_cases h0 : x < 0
  · go_enter Tryd.func42, Tryd.ntmps42
    go_wp2_with fail
    go_ret
    exact ⟨ret_int (by rw [HW.out, if_pos (Or.inl h0)]; rfl), Below.refl _ _⟩
  · by_cases h1 : 9973 ≤ x
    · go_enter Tryd.func42, Tryd.ntmps42
      go_wp2_with fail
      go_ret
      exact ⟨ret_int (by rw [HW.out, if_pos (Or.inr h1)]; rfl), Below.refl _ _⟩
    · rw [if_neg (show ¬ (x < 0 ∨ 9973 ≤ x) by omega)] at HW
      go_enter Tryd.func42, Tryd.ntmps42
      go_wp2_with fail
      refine HR.out.mono ?_
      rintro e w' ⟨rfl, hb⟩
      cases b
      · go_wp2_with fail
        go_ret
        exact ⟨ret_int (by rw [HW.out]; rfl), hb⟩
      · go_wp2_with fail
        go_ret
        exact ⟨ret_int (by rw [HW.out]; rfl), hb⟩

theorem wrg_cases (x : Int) (l : Bs) : wrg x l = 2 ∨ wrg x l = 422 ∨ (wrg x l = 0 ∧ 0 ≤ x ∧ x < 9973 ∧ recB l = true) := by
  unfold wrg
  split
  · exact Or.inl rfl
  · split
    · right; right; refine ⟨rfl, ?_, ?_, ?_⟩ <;> first | omega | assumption
    · right; left; rfl

theorem Check_any (x : Int) (s : ByteArray) (w : World) (hl : -(2^63) ≤ x) (hh : x < 2^63) :
    Calls Tryd.prog 22 #[.int .i64 x, .string s] w fun e w' => e = .returned (.tuple #[.int .i64 (chkR x s.data.toList).1, .int .i64 (chkR x s.data.toList).2]) ∧ Below w.heap.size w w' := by
  have HR := Lib.hid (wrong_any x s w hl hh)
  have HW := Lib.hid (show chkR x s.data.toList = if wrg x s.data.toList = 0 then (chk x.toNat s.data.toList, 0) else (0, wrg x s.data.toList) from rfl)
  rcases wrg_cases x s.data.toList with h | h | ⟨h, h1, h2, h3⟩
  · rw [h] at HR HW
    go_enter Tryd.func22, Tryd.ntmps22
    go_wp2_with fail
    refine HR.out.mono ?_
    rintro e w' ⟨rfl, hb⟩
    go_wp2_with fail
    go_ret2
    exact ⟨by rw [HW.out]; rfl, hb⟩
  · rw [h] at HR HW
    go_enter Tryd.func22, Tryd.ntmps22
    go_wp2_with fail
    refine HR.out.mono ?_
    rintro e w' ⟨rfl, hb⟩
    go_wp2_with fail
    go_ret2
    exact ⟨by rw [HW.out]; rfl, hb⟩
  · obtain ⟨n, rfl⟩ := Int.eq_ofNat_of_zero_le h1
    have hs : s.size ≤ 1000000 := by have := recB_le h3; rw [len_toList] at this; omega
    rw [h] at HR HW
    go_enter Tryd.func22, Tryd.ntmps22
    go_wp2_with fail
    refine HR.out.mono ?_
    rintro e w' ⟨rfl, hb⟩
    go_wp2_with fail
    refine (check_any n s w' (by omega) hs).mono ?_
    rintro e w2 ⟨rfl, rfl⟩
    go_wp2_with fail
    go_ret2
    exact ⟨by rw [HW.out]; rfl, hb⟩

theorem Line_any (x : Int) (s : ByteArray) (w : World) (hl : -(2^63) ≤ x) (hh : x < 2^63) (hT : Tb w) :
    Calls Tryd.prog 23 #[.int .i64 x, .string s] w fun e w' => e = .returned (.tuple #[.string ⟨(linR x s.data.toList).1.toArray⟩, .int .i64 (linR x s.data.toList).2]) ∧ Below w.heap.size w w' := by
  have HR := Lib.hid (wrong_any x s w hl hh)
  have HW := Lib.hid (show linR x s.data.toList = if wrg x s.data.toList = 0 then (lin x.toNat s.data.toList, 0) else ([], wrg x s.data.toList) from rfl)
  have hT1 := hT.lt
  rcases wrg_cases x s.data.toList with h | h | ⟨h, h1, h2, h3⟩
  · rw [h] at HR HW
    go_enter Tryd.func23, Tryd.ntmps23
    go_wp2_with fail
    refine HR.out.mono ?_
    rintro e w' ⟨rfl, hb⟩
    go_wp2_with fail
    go_ret2
    exact ⟨by rw [HW.out]; rfl, hb⟩
  · rw [h] at HR HW
    go_enter Tryd.func23, Tryd.ntmps23
    go_wp2_with fail
    refine HR.out.mono ?_
    rintro e w' ⟨rfl, hb⟩
    go_wp2_with fail
    go_ret2
    exact ⟨by rw [HW.out]; rfl, hb⟩
  · obtain ⟨n, rfl⟩ := Int.eq_ofNat_of_zero_le h1
    have hs : s.size ≤ 1000000 := by have := recB_le h3; rw [len_toList] at this; omega
    rw [h] at HR HW
    go_enter Tryd.func23, Tryd.ntmps23
    go_wp2_with fail
    refine HR.out.mono ?_
    rintro e w' ⟨rfl, hb⟩
    go_wp2_with fail
    refine (line_any n s w' (by omega) hs (hT.below hb hT1)).mono ?_
    rintro e w2 ⟨rfl, hb2⟩
    go_wp2_with fail
    go_ret2
    exact ⟨by rw [HW.out]; rfl, hb.trans (hb2.mono hb.size)⟩
end Go.Proofs.YtandanbojfdfjaaDoor
