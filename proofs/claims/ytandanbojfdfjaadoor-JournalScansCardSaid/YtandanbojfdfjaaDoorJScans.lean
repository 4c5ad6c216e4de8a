import Derived.Test.YtandanbojfdfjaaDoorScans
namespace Go.Proofs.YtandanbojfdfjaaDoor
open Go.ChangeShapes Go.WideShapes Go.ChangeAt Go.RowKit

set_option maxHeartbeats 2000000 in
theorem jscans_any (A : Option Addr) (n c : Nat) (b : Bs) (x : Int) (t : ByteArray) (w : World) (hr : Rd w w.heap.size A (bcs b)) (hn : b.length = n) (hc : n ≤ c) (hm : n ≤ maxLen) (hl : -(2^63) ≤ x) (hh : x < 2^63) (ht : t.size ≤ maxLen) (hT : Tb w) :
    Calls Tryd.prog 6 #[.slice A n c, .int .i64 x, .string t] w fun e w' => e = .returned (.bool true) ∧ Below w.heap.size w w' := by
  have HAw := fun (W : World) (b : Below w.heap.size w W) => Lib.hid (awake_any W (hT.below b hT.lt))
  have HS := fun h => Lib.hid (scans_any A n c b x t w hr hn hc h hl hh ht hT)
  clear hr hn hT hc
  unfold maxLen at hm ht
  by_cases h1 : 3000 < n
  · have b1 : decide ((n : Int) > 3000) = true := decide_eq_true (by omega)
    clear HS
    go_enter Tryd.func6, Tryd.ntmps6
    go_wp2_with fail
    refine (HAw w (Below.refl _ _)).out.mono ?_
    rintro e w1 ⟨rfl, hb1⟩
    go_wp2_with fail
    go_ret
    exact ⟨rfl, hb1⟩
  · have b1 : decide ((n : Int) > 3000) = false := decide_eq_false (by omega)
    by_cases h2 : 300 < t.size
    · have b2 : decide ((t.size : Int) > 300) = true := decide_eq_true (by omega)
      clear HS
      go_enter Tryd.func6, Tryd.ntmps6
      go_wp2_with fail
      refine (HAw w (Below.refl _ _)).out.mono ?_
      rintro e w1 ⟨rfl, hb1⟩
      go_wp2_with fail
      go_ret
      exact ⟨rfl, hb1⟩
    · have b2 : decide ((t.size : Int) > 300) = false := decide_eq_false (by omega)
      have HS' := HS (by omega)
      clear HS
      go_enter Tryd.func6, Tryd.ntmps6
      go_wp2_with fail
      refine HS'.out.mono ?_
      rintro e w1 ⟨rfl, hb1⟩
      have HB1 := Lib.hid hb1
      clear hb1
      go_wp2_with fail
      refine (HAw w1 HB1.out).out.mono ?_
      rintro e w2 ⟨rfl, hb2⟩
      go_wp2_with fail
      go_ret
      exact ⟨rfl, HB1.out.trans (hb2.mono HB1.out.size)⟩
end Go.Proofs.YtandanbojfdfjaaDoor
