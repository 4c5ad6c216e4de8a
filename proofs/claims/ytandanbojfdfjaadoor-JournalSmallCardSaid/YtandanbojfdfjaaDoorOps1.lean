import Derived.Test.YtandanbojfdfjaaDoorScan2
namespace Go.Proofs.YtandanbojfdfjaaDoor
open Go.ChangeShapes Go.WideShapes Go.ChangeAt Go.RowKit

/-- a disk in memory -/
abbrev dsk (v : Value) (p : Int) : Array Value := #[v, .int .i64 p]

theorem last_any (L : Nat) (dk v : Value) (last size : Nat) (cl : Bool) (w : World) (hL : Blk w L 68 (lg dk v last size cl)) :
    Calls Tryd.prog 24 #[.pointer (some ⟨L, 0, none⟩)] w fun e w' => e = .returned (.int .i64 last) ∧ w = w' := by
  have c2 := hL.cell 2 (.int .i64 last) rfl
  clear hL
  go_enter Tryd.func24, Tryd.ntmps24
  go_wp2_with fail
  go_ret
  exact ⟨rfl, rfl⟩
theorem size_any (L : Nat) (dk v : Value) (last size : Nat) (cl : Bool) (w : World) (hL : Blk w L 68 (lg dk v last size cl)) :
    Calls Tryd.prog 17 #[.pointer (some ⟨L, 0, none⟩)] w fun e w' => e = .returned (.int .i64 size) ∧ w = w' := by
  have c2 := hL.cell 3 (.int .i64 size) rfl
  clear hL
  go_enter Tryd.func17, Tryd.ntmps17
  go_wp2_with fail
  go_ret
  exact ⟨rfl, rfl⟩

/-- how much power there is, and what is left -/
def useR (p : Int) (n : Nat) : Nat := if p < 0 then n else min n p.toNat
def useL (p : Int) (n : Nat) : Int := if p < 0 then p else p - (min n p.toNat : Nat)

theorem use_any (D : Nat) (v : Value) (p : Int) (n : Nat) (w : World) (hD : Blk w D 28 (dsk v p)) (hl : -(2^63) ≤ p) (hh : p < 2^63) (hn : n ≤ 1000000000) :
    Calls Tryd.prog 36 #[.pointer (some ⟨D, 0, none⟩), .int .i64 n] w fun e w' => e = .returned (.int .i64 (useR p n)) ∧ Blk w' D 28 (dsk v (useL p n)) ∧ Kp w w' (fun k => k = D) := by
  have c1 := hD.cell 1 (.int .i64 p) rfl
  have f1 := hD.frozen 1
  have HD := Lib.hid hD
  clear hD
  by_cases hp : p < 0
  · go_enter Tryd.func36, Tryd.ntmps36
    go_wp2_with fail
    go_ret
    refine ⟨ret_int (by unfold useR; rw [if_pos hp]), ?_, Kp.refl _ _⟩
    unfold useL; rw [if_pos hp]; exact HD.out
  · obtain ⟨m, rfl⟩ := Int.eq_ofNat_of_zero_le (show 0 ≤ p by omega)
    have hR : useR (m : Int) n = min n m := by unfold useR; rw [if_neg hp]; simp
    have hU : useL (m : Int) n = (m : Int) - (min n m : Nat) := by unfold useL; rw [if_neg hp]; simp
    rw [hR, hU]
    obtain ⟨r, hr⟩ : ∃ r, min n m = r := ⟨_, rfl⟩
    have hrm : r ≤ m := by omega
    have hrz : min (n : Int) (m : Int) = (r : Int) := by omega
    rw [hr]
    go_enter Tryd.func36, Tryd.ntmps36
    go_wp2_with ((with_reducible refine min_step _ _ .i64 n m r ?_ ?_ ?_ ?_); (exact rfl); (exact rfl); (exact hrz))
    go_ret
    have := HD.out.set 1 (.int .i64 ((m : Int) - (r : Int)))
    exact ⟨rfl, this, Kp.set w D 1 _⟩
end Go.Proofs.YtandanbojfdfjaaDoor

namespace Go.Proofs.YtandanbojfdfjaaDoor
open Go.ChangeShapes Go.WideShapes Go.ChangeAt Go.RowKit

theorem lens_lt (b : Bs) : (scanS b).2 ≤ 2 := by
  unfold scanS
  generalize St.zero = s
  generalize lns b = l
  induction l generalizing s with
  | nil => simp [sgo]
  | cons x r ih => unfold sgo; split <;> (try split) <;> first | exact ih _ | simp

theorem opened_any (D : Nat) (A : Option Addr) (b : Bs) (c : Nat) (p : Int) (w : World) (hD : Blk w D 28 (dsk (.slice A b.length c) p)) (hr : Rd w w.heap.size A (bcs b)) (hcap : b.length ≤ c) (hlen : b.length ≤ 1048576) (hT : Tb w) :
    Calls Tryd.prog 32 #[.pointer (some ⟨D, 0, none⟩)] w fun e w' => ∃ L, e = .returned (.tuple #[.pointer (some ⟨L, 0, none⟩), .int .u8 (scanS b).2, .int .i64 0]) ∧ w.heap.size ≤ L ∧
      ∃ v, Blk w' L 68 (lg (.pointer (some ⟨D, 0, none⟩)) v (scanS b).1.last (scanS b).1.size false) ∧ w'.ownsRow w.heap.size 9 1 v (scanS b).1.recs.length (scs (scanS b).1.recs) ∧ Below w.heap.size w w' := by
  have c0 := hD.cell 0 (.slice A b.length c) rfl
  have HS := Lib.hid (scan_any A b c w hr hcap (by omega) hT)
  clear hD hr
  generalize scanS b = s at *
  go_enter Tryd.func32, Tryd.ntmps32
  go_wp2_with fail
  refine HS.out.mono ?_
  rintro e w1 ⟨L, rfl, hLw, v, hL, hrow, hb⟩
  have d0 := hL.cell 0 (.pointer none) rfl
  have f0 := hL.frozen 0
  have HL := Lib.hid hL
  have HR := Lib.hid hrow
  clear hL hrow
  go_wp2_with fail
  go_ret3
  have kk := Kp.set w1 L 0 (.pointer (some ⟨D, 0, none⟩))
  refine ⟨L, rfl, hLw, v, HL.out.set 0 _, kk.row HR.out (fun k hk e => row_ne HL.out HR.out (show (9 : TypeId) ≠ 68 by decide) (e ▸ hk)), hb.trans (kk.below_n hb.size (fun k e => by omega))⟩
end Go.Proofs.YtandanbojfdfjaaDoor
