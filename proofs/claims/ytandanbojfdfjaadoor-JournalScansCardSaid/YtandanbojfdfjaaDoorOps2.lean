import Derived.Test.YtandanbojfdfjaaDoorOps1
namespace Go.Proofs.YtandanbojfdfjaaDoor
open Go.ChangeShapes Go.WideShapes Go.ChangeAt Go.RowKit

theorem lens_lt (b : Bs) : (scanS b).2 ≤ 2 := by
  unfold scanS
  generalize St.zero = s
  generalize lns b = l
  induction l generalizing s with
  | nil => simp [sgo]
  | cons x r ih => unfold sgo; split <;> (try split) <;> first | exact ih _ | simp

theorem opened_any (D : Nat) (A : Option Addr) (b : Bs) (c : Nat) (p : Int) (w : World) (hD : Blk w D 28 (dsk (.slice A b.length c) p)) (hr : Rd w w.heap.size A (bcs b)) (hcap : b.length ≤ c) (hlen : b.length ≤ 1048576) (hT : Tb w) :
    Calls Tryd.prog 32 #[.pointer (some ⟨D, 0, none⟩)] w fun e w' => ∃ L, e = .returned (.tuple #[.pointer (some ⟨L, 0, none⟩), .int .u8 (scanS b).2, .int .i64 0]) ∧ w.heap.size ≤ L ∧
      ∃ v, Blk w' L 68 (lg (.pointer (some ⟨D, 0, none⟩)) v (scanS b).1.last (scanS b).1.size false) ∧ w'.ownsRow w.heap.size 9 1 v (scanS b).1.recs.length (scs (scanS b).1.recs) ∧ Below w.heap.size w w' := by
  have c0 := hD.cell 0 (.slice A b.length c) rfl
  have HS := Lib.hid (scan_any A b c w hr hcap (by omega) hT)
  clear hD hr
  generalize scanS b = s at *
  go_enter Tryd.func32, Tryd.ntmps32
  go_wp2_with fail
  refine HS.out.mono ?_
  rintro e w1 ⟨L, rfl, hLw, v, hL, hrow, hb⟩
  have d0 := hL.cell 0 (.pointer none) rfl
  have f0 := hL.frozen 0
  have HL := Lib.hid hL
  have HR := Lib.hid hrow
  clear hL hrow
  go_wp2_with fail
  go_ret3
  have kk := Kp.set w1 L 0 (.pointer (some ⟨D, 0, none⟩))
  refine ⟨L, rfl, hLw, v, HL.out.set 0 _, kk.row HR.out (fun k hk e => row_ne HL.out HR.out (show (9 : TypeId) ≠ 68 by decide) (e ▸ hk)), hb.trans (kk.below_n hb.size (fun k e => by omega))⟩
end Go.Proofs.YtandanbojfdfjaaDoor
