import Derived.Test.YtandanbojfdfjaaDoorOps2
import Derived.Laws.Cover3
namespace Go.Proofs.YtandanbojfdfjaaDoor
open Go.ChangeShapes Go.WideShapes Go.ChangeAt Go.RowKit

theorem eByte : Elem Tryd.prog 26 5 (.int .u8 0) 1 1 := ⟨by kernel_rfl, by kernel_rfl, rfl, by omega, by omega⟩
theorem oneCells_bcs (b : Bs) : ∀ u ∈ bcs b, u.oneCell' = true := by
  intro u hu
  obtain ⟨c, _, rfl⟩ := List.mem_map.1 hu
  rfl

theorem eql_nil (a : Option Addr) (n c : Nat) (w : World) : (binOp .eql 26 (.slice a n c) (.slice none 0 0)).run Tryd.prog w = .ok (.bool a.isNone) w := by
  have h := run_equal_slice_nil (P := Tryd.prog) w 26 5 a n c (by kernel_rfl)
  unfold binOp
  simp [h]

theorem cloneB_any (A : Option Addr) (b : Bs) (c : Nat) (w : World) (hr : Rd w w.heap.size A (bcs b)) (hA : A = none → b = []) (hA2 : A = none → c = 0) (hlen : b.length ≤ 2000000) :
    Calls Tryd.prog 37 #[.slice A b.length c] w fun e w' => ∃ v, e = .returned v ∧ w'.ownsRow w.heap.size 5 1 v b.length (bcs b) ∧ Below w.heap.size w w' := by
  rcases A with _ | ad
  · obtain rfl := hA rfl
    obtain rfl := hA2 rfl
    have hq := eql_nil none 0 0
    go_enter Tryd.func37, Tryd.ntmps37
    go_wp2_with fail
    go_ret
    exact ⟨_, rfl, World.ownsRow_nil _ _ _ _, Below.refl _ _⟩
  · have HR := Lib.hid hr
    clear hr hA hA2
    have hq := eql_nil (some ad) b.length c
    go_enter Tryd.func37, Tryd.ntmps37
    go_wp2_with (at_builtin; refine ap_many rfl (.tmp 5) (.tmp 6) 26 rfl eByte (some ad) b.length c (bcs b) (Own.built w 5 0 [] (Below.refl _ _) rfl (by omega)) rfl rfl (by simp) (HR.out.alloc _) (oneCells_bcs b) (by omega) ?_; intro v1 w1 own1 hsz1)
    go_ret
    exact ⟨_, rfl, by simpa using own1.row, own1.bel⟩
end Go.Proofs.YtandanbojfdfjaaDoor
