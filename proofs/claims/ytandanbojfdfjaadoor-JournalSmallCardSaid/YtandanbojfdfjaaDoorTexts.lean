import Derived.Test.YtandanbojfdfjaaDoorChk1
import Derived.Test.YtandanbojfdfjaaDoorLog
namespace Go.Proofs.YtandanbojfdfjaaDoor
open Go.ChangeShapes Go.WideShapes Go.ChangeAt Go.RowKit

def txt1 (s : Bs) : Bs := (s.take 60).map pc
def outT (xs : List Bs) : List Bs := (xs.take 20).map txt1
theorem txt1_rec (s : Bs) : recB (txt1 s) = true := txt_rec 60 (by omega) s
theorem txt1_len (s : Bs) : (txt1 s).length ≤ 60 := by unfold txt1; simp; omega
theorem outT_mem {xs : List Bs} {t : Bs} (h : t ∈ outT xs) : recB t = true ∧ t.length ≤ 60 := by
  obtain ⟨s, _, rfl⟩ := List.mem_map.1 h
  exact ⟨txt1_rec s, txt1_len s⟩
theorem outT_len (xs : List Bs) : (outT xs).length = min xs.length 20 := by unfold outT; simp; omega
theorem txt_snoc (s : Bs) (k : Nat) (h : k < s.length) : (s.take (k + 1)).map pc = (s.take k).map pc ++ [pc (s.getD k 0)] := by
  have e : s.getD k 0 = s[k] := by simp [h]
  rw [e, List.take_succ_eq_append_getElem h, List.map_append]; rfl

set_option maxRecDepth 100000 in
set_option maxHeartbeats 4000000 in
theorem texts_any (A : Option Addr) (c n : Nat) (xs : List Bs) (w : World) (hr : Rd w w.heap.size A (scs xs)) (hn : xs.length = n) (hc : n ≤ c) (hm : n ≤ maxLen) (hs : ∀ x ∈ xs, x.length ≤ maxLen) :
    Calls Tryd.prog 12 #[.slice A n c] w fun e w' => ∃ v, e = .returned v ∧ w'.ownsRow w.heap.size 9 1 v (outT xs).length (scs (outT xs)) ∧ Below w.heap.size w w' := by
  have HRr := Lib.hid hr
  have HN := Lib.hid hn
  have HSz := Lib.hid hs
  unfold maxLen at hm
  obtain ⟨m, hmn⟩ : ∃ m, min n 20 = m := ⟨_, rfl⟩
  have hm1 : m ≤ n := by omega
  have hm2 : m ≤ 20 := by omega
  have HX := Lib.hid (min_id hmn)
  have HO : Hid (outT xs = (xs.take m).map txt1) := Lib.hid (by
    unfold outT; congr 1
    rcases Nat.lt_or_ge n 20 with h | h
    · rw [List.take_of_length_le (by omega), List.take_of_length_le (by omega)]
    · rw [show m = 20 by omega])
  have HOL : Hid ((outT xs).length = m) := Lib.hid (by rw [outT_len]; omega)
  clear hr hn hs hmn
  go_enter Tryd.func12, Tryd.ntmps12
  go_wp2_with ((with_reducible refine min_step _ _ .i64 n 20 m ?_ ?_ ?_ ?_); (exact rfl); (exact rfl); (exact HX.out))
  go_loopw [3, 14] (fun v i wr => ∃ k : Nat, k ≤ m ∧ i = .int .i64 k ∧ Own w wr 9 1 v k (scs ((xs.take k).map txt1))) (fun _ i _ => m - (intOf i).toNat)
  case atStart => exact ⟨0, Nat.zero_le _, rfl, by simpa [scs] using Own.nil 9 1 (Below.refl _ _)⟩
  case round =>
    obtain ⟨k, hk, rfl, own⟩ := hrel
    by_cases hlt : k < m
    · have hkx : k < xs.length := by have := HN.out; omega
      obtain ⟨b1, o1, rfl, hb1, hc1⟩ := HRr.out.strs (by omega)
      have g1 := (bcell own.bel b1 (o1 + k) hb1).trans (hc1 k hkx)
      have hzs : (xs.getD k []).length ≤ maxLen := HSz.out _ (by rw [List.getD_eq_getElem?_getD, List.getElem?_eq_getElem hkx]; exact List.getElem_mem hkx)
      have HT : Hid ((xs.take (k + 1)).map txt1 = (xs.take k).map txt1 ++ [txt1 (xs.getD k [])]) := Lib.hid (by
        have e : xs.getD k [] = xs[k] := by simp [hkx]
        rw [e, List.take_succ_eq_append_getElem hkx, List.map_append]; rfl)
      clear hc1
      generalize xs.getD k [] = s at *
      unfold maxLen at hzs
      obtain ⟨z, hz⟩ : ∃ z, s.length = z := ⟨_, rfl⟩
      obtain ⟨y, hy⟩ : ∃ y : ByteArray, ⟨s.toArray⟩ = y := ⟨_, rfl⟩
      have hyz : y.size = z := by rw [← hy, ← hz]; rfl
      have hyl : y.data.toList = s := by rw [← hy]
      rw [hy] at g1
      rw [hz] at hzs
      obtain ⟨m2, hm2'⟩ : ∃ m2, min z 60 = m2 := ⟨_, rfl⟩
      have hm3 : m2 ≤ z := by omega
      have hm4 : m2 ≤ 60 := by omega
      have HX2 : Hid (min (y.size : Int) 60 = (m2 : Int)) := Lib.hid (by rw [hyz]; exact min_id hm2')
      have HT1 : Hid (txt1 s = (y.data.toList.take m2).map pc) := Lib.hid (by
        unfold txt1; rw [hyl]; congr 1
        rcases Nat.lt_or_ge z 60 with h | h
        · rw [List.take_of_length_le (by omega), List.take_of_length_le (by omega)]
        · rw [show m2 = 60 by omega])
      have hmy : m2 ≤ y.size := by omega
      have HO1 := Lib.hid own
      clear own hm2' hy hyl hyz hz hzs
      obtain ⟨wa, rfl⟩ : ∃ wa : World, wa = wr := ⟨_, rfl⟩
      go_wp2_with ((with_reducible refine min_step _ _ .i64 y.size 60 m2 ?_ ?_ ?_ ?_); (exact rfl); (exact rfl); (exact HX2.out))
      go_loopw [6, 21] (fun v i w2 => ∃ j : Nat, j ≤ m2 ∧ i = .int .i64 j ∧ Own wa w2 5 1 v j (bcs ((y.data.toList.take j).map pc))) (fun _ i _ => m2 - (intOf i).toNat)
      case atStart => exact ⟨0, Nat.zero_le _, rfl, by simpa [bcs] using Own.nil 5 1 (Below.refl _ _)⟩
      case round =>
        obtain ⟨j, hj, rfl, own⟩ := hrel
        by_cases hlt2 : j < m2
        · have hks : j < y.size := by omega
          have HN2 := Lib.hid (pcs_snoc y j hks)
          have HP := Lib.hid (pc_nat y[j])
          have hlb : y[j].toNat < 256 := y[j].toNat_lt
          have HO2 := Lib.hid own
          clear own
          go_wp2_with (at_builtin; refine ap_one rfl (.tmp 24) (.tmp 30) 26 rfl eByte [.int .u8 (32 + (y[j].toNat : Int) % 95)] HO2.out rfl rfl rfl (by simp [Value.oneCell']) (by omega) ?_; intro v' w' hown' hsz)
          go_roundw
          case rel => exact ⟨j + 1, by omega, by go_num, by
            have e : bcs ((y.data.toList.take (j + 1)).map pc) = bcs ((y.data.toList.take j).map pc) ++ [.int .u8 (32 + (y[j].toNat : Int) % 95)] := by
              rw [HN2.out]; simp [bcs, HP.out]
            rw [e]; exact hown'⟩
          case measure => simp [intOf]; omega
        · obtain rfl : j = m2 := by omega
          rw [← HT1.out] at own
          have htl : (txt1 s).length = j := by rw [HT1.out]; simp; omega
          generalize txt1 s = t at *
          have hby : By wr _ t := By.row (base := wa.heap.size) (by rw [htl]; exact own.row)
          have hcv := hby.conv
          have HB := Lib.hid (HO1.out.later own.bel)
          clear own hby
          go_wp2_with (at_builtin; refine ap_one rfl (.tmp 33) (.tmp 36) 22 rfl eStr [.string ⟨t.toArray⟩] HB.out rfl rfl rfl (by simp [Value.oneCell']) (by omega) ?_; intro v' w' hown' hsz)
          go_roundw
          case rel => exact ⟨k + 1, by omega, by go_num, by rw [HT.out, scs, List.map_append]; exact hown'⟩
          case measure => simp [intOf]; omega
    · obtain rfl : k = m := by omega
      rw [← HO.out] at own
      go_wp2_with fail
      go_ret
      exact ⟨_, rfl, by rw [HOL.out]; exact own.row, own.bel⟩
end Go.Proofs.YtandanbojfdfjaaDoor
