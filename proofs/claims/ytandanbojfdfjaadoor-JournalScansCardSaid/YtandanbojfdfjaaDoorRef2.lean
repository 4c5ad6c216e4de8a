import Derived.Test.YtandanbojfdfjaaDoorRef1
import Derived.Deep.CutBlock
import Derived.Deep.DeepCutAuto
namespace Go.Proofs.YtandanbojfdfjaaDoor
open Go.ChangeShapes Go.WideShapes Go.ChangeAt Go.RowKit

theorem four4 (p : Nat) (hp : p < 9973) : (bcs (four p)).toArray = #[Value.int .u8 (48 + (p : Int) / 1000), .int .u8 (48 + (p : Int) / 100 % 10), .int .u8 (48 + (p : Int) / 10 % 10), .int .u8 (48 + (p : Int) % 10)] := by
  have h1 : ((dig (p / 1000)).toNat : Int) = 48 + (p : Int) / 1000 := by rw [dig_nat]; omega
  have h2 : ((dig (p / 100)).toNat : Int) = 48 + (p : Int) / 100 % 10 := by rw [dig_nat]; omega
  have h3 : ((dig (p / 10)).toNat : Int) = 48 + (p : Int) / 10 % 10 := by rw [dig_nat]; omega
  have h4 : ((dig p).toNat : Int) = 48 + (p : Int) % 10 := by rw [dig_nat]; omega
  simp [bcs, four, h1, h2, h3, h4]
theorem conv_new (w : World) (b : Bs) : (convert 26 9 (.slice (some ⟨w.heap.size, 0, none⟩) b.length b.length)).run Tryd.prog (w.alloc (.cells (bcs b).toArray 5)) = .ok (.string ⟨b.toArray⟩) (w.alloc (.cells (bcs b).toArray 5)) :=
  By.conv (.inr ⟨w.heap.size, 0, b.length, (bcs b).toArray, rfl, Blk.new _ _ _, Nat.le_refl _, fun j u hu => by rw [Nat.zero_add]; simpa using hu, by simp⟩)

set_option maxRecDepth 100000 in
set_option maxHeartbeats 2000000 in
theorem Lin_ref (x : Int) (s : ByteArray) (w : World) (hl : -(2^63) ≤ x) (hh : x < 2^63) (hs : s.size ≤ maxLen) :
    Calls Tryd.prog 28 #[.int .i64 x, .string s] w fun e w' => e = .returned (.tuple #[.string ⟨(linR x s.data.toList).1.toArray⟩, .int .i64 (linR x s.data.toList).2]) ∧ Below w.heap.size w w' := by
  have HC := Lib.hid (Chk_ref x s w hl hh hs)
  by_cases h0 : wrg x s.data.toList = 0
  · have hc : chkR x s.data.toList = (chk x.toNat s.data.toList, 0) := by unfold chkR; rw [if_pos h0]
    have hl2 : linR x s.data.toList = (lin x.toNat s.data.toList, 0) := by unfold linR; rw [if_pos h0]
    rw [hc] at HC
    rw [hl2]
    have hp := chk_lt x.toNat s.data.toList
    have HLn : Hid (ByteArray.mk (lin x.toNat s.data.toList).toArray = ByteArray.mk (four (chk x.toNat s.data.toList)).toArray ++ ⟨#[32]⟩ ++ s ++ ⟨#[10]⟩) := Lib.hid (by
      apply ByteArray.ext
      simp [lin])
    simp only
    rw [HLn.out]
    have hss : s.size ≤ 200 := by
      rcases wrg_cases x s.data.toList with h | h | ⟨_, _, _, h⟩
      · omega
      · omega
      · have := recB_le h; rwa [len_toList] at this
    clear hc hl2 h0
    generalize chk x.toNat s.data.toList = p at *
    have hcv := fun W => conv_new W (four p)
    rw [four4 p hp] at hcv
    have hX4 : (ByteArray.mk (four p).toArray).size ≤ 4 := Nat.le_refl 4
    generalize ByteArray.mk (four p).toArray = X at *
    go_enter Tryd.func28, Tryd.ntmps28
    go_wp2_with fail
    refine HC.out.mono ?_
    rintro e w' ⟨rfl, rfl⟩
    clear HC HLn hl hh hs
    have hcv1 := hcv w
    have hb1 := below_alloc w (.cells #[Value.int .u8 (48 + (p : Int) / 1000), .int .u8 (48 + (p : Int) / 100 % 10), .int .u8 (48 + (p : Int) / 10 % 10), .int .u8 (48 + (p : Int) % 10)] 5)
    have hlen : (four p).length = 4 := rfl
    rw [hlen] at hcv1
    have HCV := Lib.hid hcv1
    clear hcv hlen hcv1
    have HB1 := Lib.hid hb1
    clear hb1
    go_upto_region 5 with fail
    generalize w.alloc (.cells #[Value.int .u8 (48 + (p : Int) / 1000), .int .u8 (48 + (p : Int) / 100 % 10), .int .u8 (48 + (p : Int) / 10 % 10), .int .u8 (48 + (p : Int) % 10)] 5) = w1 at *
    have hcv1 := HCV.out
    have hcv3 : (convert 26 9 (.slice (some ⟨w1.heap.size, 0, none⟩) 1 1)).run Tryd.prog (w1.alloc (.cells #[.int .u8 10] 5)) = .ok (.string ⟨#[10]⟩) (w1.alloc (.cells #[.int .u8 10] 5)) := conv_new w1 [10]
    go_wp2_with fail
    go_ret2
    exact ⟨rfl, HB1.out.trans ((below_alloc _ _).mono HB1.out.size)⟩
  · have hc : (chkR x s.data.toList).2 = wrg x s.data.toList := by unfold chkR; rw [if_neg h0]
    have hl2 : linR x s.data.toList = ([], wrg x s.data.toList) := by unfold linR; rw [if_neg h0]
    rw [hc] at HC
    rw [hl2]
    have h1 : ((wrg x s.data.toList : Int) != 0) = true := by rw [bne_iff_ne]; omega
    clear hc hl2 h0
    generalize wrg x s.data.toList = r at *
    generalize (chkR x s.data.toList).1 = r1 at *
    go_enter Tryd.func28, Tryd.ntmps28
    go_wp2_with fail
    refine HC.out.mono ?_
    rintro e w' ⟨rfl, rfl⟩
    go_wp2_with fail
    go_ret2
    exact ⟨rfl, Below.refl _ _⟩
end Go.Proofs.YtandanbojfdfjaaDoor
