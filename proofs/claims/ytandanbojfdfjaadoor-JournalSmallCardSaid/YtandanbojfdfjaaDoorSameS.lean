import Derived.Test.YtandanbojfdfjaaDoorOpen
namespace Go.Proofs.YtandanbojfdfjaaDoor
open Go.ChangeShapes Go.WideShapes Go.ChangeAt Go.RowKit

theorem takes_succ {xs ys : List Bs} {k : Nat} (h : k < xs.length) (h2 : k < ys.length) : xs.take (k + 1) = ys.take (k + 1) ↔ xs.take k = ys.take k ∧ (ByteArray.mk (xs.getD k []).toArray) = (ByteArray.mk (ys.getD k []).toArray) := by
  rw [List.take_succ_eq_append_getElem h, List.take_succ_eq_append_getElem h2]
  have e1 : xs.getD k [] = xs[k] := by simp [h]
  have e2 : ys.getD k [] = ys[k] := by simp [h2]
  rw [e1, e2]
  constructor
  · intro h
    have := List.append_inj' h rfl
    simp at this
    exact ⟨this.1, by rw [this.2]⟩
  · rintro ⟨h1, h2⟩
    have e : xs[k] = ys[k] := by
      have := congrArg (fun s => s.data.toList) h2
      simpa using this
    rw [h1, e]

theorem bytes_eq {x y : ByteArray} : x.toList = y.toList ↔ x = y := by
  rw [ByteArray.toList_eq, ByteArray.toList_eq]
  constructor
  · intro h; obtain ⟨⟨a⟩⟩ := x; obtain ⟨⟨b⟩⟩ := y; simp at h; rw [h]
  · rintro rfl; rfl
theorem nebB {x y : ByteArray} (h : x ≠ y) : (!x.toList == y.toList) = true := by
  have : x.toList ≠ y.toList := fun e => h (bytes_eq.1 e)
  simp [this]
theorem eqbB {x y : ByteArray} (h : x = y) : (!x.toList == y.toList) = false := by subst h; simp

theorem Rd.strs {w : World} {B : Nat} {A : Option Addr} {xs : List Bs} (h : Rd w B A (scs xs)) (h0 : 0 < xs.length) :
    ∃ b off, A = some ⟨b, off, none⟩ ∧ b < B ∧ ∀ i, i < xs.length → w.cell? ⟨b, off + i, none⟩ = some (.string ⟨(xs.getD i []).toArray⟩) := by
  obtain ⟨b, off, e, hlt, hc⟩ := h (by simpa using h0)
  exact ⟨b, off, e, hlt, fun i hi => hc i _ (by simp [hi])⟩

set_option maxHeartbeats 400000 in
theorem same_any (A B : Option Addr) (c d : Nat) (xs ys : List Bs) (w : World) (hx : Rd w w.heap.size A (scs xs)) (hy : Rd w w.heap.size B (scs ys)) (hm : xs.length ≤ 1000000000) (hm2 : ys.length ≤ 1000000000) :
    Calls Tryd.prog 15 #[.slice A xs.length c, .slice B ys.length d] w fun e w' => e = .returned (.bool (decide (xs = ys))) ∧ Qt w w' := by
  have HX := Lib.hid hx
  have HY := Lib.hid hy
  clear hx hy
  by_cases hl : xs.length = ys.length
  case neg =>
    have ht : ((xs.length : Int) != (ys.length : Int)) = true := by rw [bne_iff_ne]; omega
    have HN := Lib.hid (show xs ≠ ys from fun e => hl (by rw [e]))
    clear hl
    go_enter Tryd.func15, Tryd.ntmps15
    go_wp2
    go_ret
    exact ⟨ret_bool (by simp [HN.out]), 0, rfl⟩
  have ht : ((xs.length : Int) != (ys.length : Int)) = false := by rw [bne_eq_false_iff_eq]; omega
  have HL := Lib.hid hl
  clear hl
  go_enter Tryd.func15, Tryd.ntmps15
  go_wp2
  go_loopw [13] (fun i wr => ∃ k nd : Nat, k ≤ xs.length ∧ i = .int .i64 k ∧ Hid (xs.take k = ys.take k) ∧ wr = w.drewN nd) (fun i _ => xs.length - (intOf i).toNat)
  case atStart => exact ⟨0, 0, Nat.zero_le _, rfl, rfl, rfl⟩
  case round =>
    obtain ⟨k, nd, hk, rfl, he, rfl⟩ := hrel
    by_cases hlt : k < xs.length
    · have hlt2 : k < ys.length := by have := HL.out; omega
      obtain ⟨b1, o1, rfl, hb1, hc1⟩ := HX.out.strs (by omega)
      obtain ⟨b2, o2, rfl, hb2, hc2⟩ := HY.out.strs (by omega)
      have g1 := hc1 k hlt
      have g2 := hc2 k hlt2
      have HE := Lib.hid (takes_succ hlt hlt2)
      generalize ByteArray.mk (xs.getD k []).toArray = x at *
      generalize ByteArray.mk (ys.getD k []).toArray = y at *
      clear hc1 hc2 ht
      by_cases hxy : x = y
      · have ht := eqbB hxy
        have HXY := Lib.hid hxy
        clear hxy
        go_wp2
        go_quiet (fail)
        rename_i nq _
        go_wp2
        go_roundw
        case rel => exact ⟨k + 1, nd + nq, by omega, by go_num, HE.out.2 ⟨he, HXY.out⟩, rfl⟩
        case measure => simp [intOf]; omega
      · have ht := nebB hxy
        have HN := Lib.hid (show xs ≠ ys from fun e => hxy (HE.out.1 (by rw [e])).2)
        clear hxy
        go_wp2
        go_quiet (fail)
        rename_i nq _
        go_wp2
        go_ret
        exact ⟨ret_bool (by simp [HN.out]), nd + nq, World.drewN_drewN _ _ _⟩
    · have HQ := Lib.hid (show xs = ys by
        have h := he
        have hL := HL.out
        rw [List.take_of_length_le (by omega), List.take_of_length_le (by omega)] at h
        exact h)
      go_wp2
      go_ret
      exact ⟨ret_bool (by simp [HQ.out]), nd, rfl⟩
end Go.Proofs.YtandanbojfdfjaaDoor
