import Derived.Test.YtandanbojfdfjaaDoorScan2
namespace Go.Proofs.YtandanbojfdfjaaDoor
open Go.ChangeShapes Go.WideShapes Go.ChangeAt Go.RowKit

/-- a disk in memory -/
abbrev dsk (v : Value) (p : Int) : Array Value := #[v, .int .i64 p]

theorem last_any (L : Nat) (dk v : Value) (last size : Nat) (cl : Bool) (w : World) (hL : Blk w L 68 (lg dk v last size cl)) :
    Calls Tryd.prog 24 #[.pointer (some ⟨L, 0, none⟩)] w fun e w' => e = .returned (.int .i64 last) ∧ w = w' := by
  have c2 := hL.cell 2 (.int .i64 last) rfl
  clear hL
  go_enter Tryd.func24, Tryd.ntmps24
  go_wp2_with fail
  go_ret
  exact ⟨rfl, rfl⟩
theorem size_any (L : Nat) (dk v : Value) (last size : Nat) (cl : Bool) (w : World) (hL : Blk w L 68 (lg dk v last size cl)) :
    Calls Tryd.prog 17 #[.pointer (some ⟨L, 0, none⟩)] w fun e w' => e = .returned (.int .i64 size) ∧ w = w' := by
  have c2 := hL.cell 3 (.int .i64 size) rfl
  clear hL
  go_enter Tryd.func17, Tryd.ntmps17
  go_wp2_with fail
  go_ret
  exact ⟨rfl, rfl⟩

/-- how much power there is, and what is left -/
def useR (p : Int) (n : Nat) : Nat := if p < 0 then n else min n p.toNat
def useL (p : Int) (n : Nat) : Int := if p < 0 then p else p - (min n p.toNat : Nat)

theorem use_any (D : Nat) (v : Value) (p : Int) (n : Nat) (w : World) (hD : Blk w D 28 (dsk v p)) (hl : -(2^63) ≤ p) (hh : p < 2^63) (hn : n ≤ 1000000000) :
    Calls Tryd.prog 36 #[.pointer (some ⟨D, 0, none⟩), .int .i64 n] w fun e w' => e = .returned (.int .i64 (useR p n)) ∧ Blk w' D 28 (dsk v (useL p n)) ∧ Kp w w' (fun k => k = D) := by
  have c1 := hD.cell 1 (.int .i64 p) rfl
  have f1 := hD.frozen 1
  have HD := Lib.hid hD
  clear hD
  by_cases hp : p < 0
  · go_enter Tryd.func36, Tryd.ntmps36
    go_wp2_with fail
    go_ret
    refine ⟨ret_int (by unfold useR; rw [if_pos hp]), ?_, Kp.refl _ _⟩
    unfold useL; rw [if_pos hp]; exact HD.out
  · obtain ⟨m, rfl⟩ := Int.eq_ofNat_of_zero_le (show 0 ≤ p by omega)
    have hR : useR (m : Int) n = min n m := by unfold useR; rw [if_neg hp]; simp
    have hU : useL (m : Int) n = (m : Int) - (min n m : Nat) := by unfold useL; rw [if_neg hp]; simp
    rw [hR, hU]
    obtain ⟨r, hr⟩ : ∃ r, min n m = r := ⟨_, rfl⟩
    have hrm : r ≤ m := by omega
    have hrz : min (n : Int) (m : Int) = (r : Int) := by omega
    rw [hr]
    go_enter Tryd.func36, Tryd.ntmps36
    go_wp2_with ((with_reducible refine min_step _ _ .i64 n m r ?_ ?_ ?_ ?_); (exact rfl); (exact rfl); (exact hrz))
    go_ret
    have := HD.out.set 1 (.int .i64 ((m : Int) - (r : Int)))
    exact ⟨rfl, this, Kp.set w D 1 _⟩
end Go.Proofs.YtandanbojfdfjaaDoor
