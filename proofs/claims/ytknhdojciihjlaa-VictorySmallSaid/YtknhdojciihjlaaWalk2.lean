import Derived.Test.YtknhdojciihjlaaRows
import Derived.Test.YtknhdojciihjlaaKit
import Derived.Test.YtknhdojciihjlaaSpec
import Derived.Test.YtknhdojciihjlaaWalk1
namespace Go.Proofs.Ytknhdojciihjlaa
open Go.ChangeShapes Go.WideShapes Go.ChangeAt Go.RowKit

theorem take_succ_getD (xs : List Int) (k : Nat) (h : k < xs.length) : xs.take (k + 1) = xs.take k ++ [xs.getD k 0] := by
  rw [List.take_succ_eq_append_getElem h]; simp [List.getD_eq_getElem?_getD, h]

theorem take_eq_succ {xs ys : List Int} {k : Nat} (h : k < xs.length) (h' : k < ys.length) : xs.take (k + 1) = ys.take (k + 1) ↔ xs.take k = ys.take k ∧ xs.getD k 0 = ys.getD k 0 := by
  rw [take_succ_getD _ _ h, take_succ_getD _ _ h']
  constructor
  · intro e
    have := List.append_inj e (by simp; omega)
    exact ⟨this.1, by simpa using this.2⟩
  · rintro ⟨a, b⟩; rw [a, b]

set_option maxHeartbeats 400000 in
theorem same_any (A B : Option Addr) (c d : Nat) (xs ys : List Int) (w : World) (hx : Rd w w.heap.size A (ics .i64 xs)) (hy : Rd w w.heap.size B (ics .i64 ys)) (hm : xs.length ≤ 1000000) :
    Calls Try.prog 21 #[.slice A xs.length c, .slice B ys.length d] w fun e w' => e = .returned (.bool (decide (xs = ys))) ∧ Qt w w' := by
  have HX := Lib.hid hx
  have HY := Lib.hid hy
  clear hx hy
  by_cases hl : xs.length = ys.length
  case neg =>
    have ht : ((xs.length : Int) != (ys.length : Int)) = true := by rw [bne_iff_ne]; omega
    have HN := Lib.hid (show xs ≠ ys from fun e => hl (by rw [e]))
    clear hl
    go_enter Try.func21, Try.ntmps21
    go_wp2
    go_ret
    exact ⟨ret_bool (by simp [HN.out]), 0, rfl⟩
  have ht : ((xs.length : Int) != (ys.length : Int)) = false := by rw [bne_eq_false_iff_eq]; omega
  have HL := Lib.hid hl
  clear hl
  go_enter Try.func21, Try.ntmps21
  go_wp2
  go_loopw [5] (fun i wr => ∃ k nd : Nat, k ≤ xs.length ∧ i = .int .i64 k ∧ Hid (xs.take k = ys.take k) ∧ wr = w.drewN nd) (fun i _ => xs.length - (intOf i).toNat)
  case atStart => exact ⟨0, 0, Nat.zero_le _, rfl, rfl, rfl⟩
  case round =>
    obtain ⟨k, nd, hk, rfl, he, rfl⟩ := hrel
    by_cases hlt : k < xs.length
    · have hlt2 : k < ys.length := by have := HL.out; omega
      obtain ⟨b1, o1, rfl, hb1, hc1⟩ := HX.out.int (by omega)
      obtain ⟨b2, o2, rfl, hb2, hc2⟩ := HY.out.int (by omega)
      have g1 := hc1 k hlt
      have g2 := hc2 k hlt2
      have HE := Lib.hid (take_eq_succ hlt hlt2)
      generalize xs.getD k 0 = x at *
      generalize ys.getD k 0 = y at *
      clear hc1 hc2 ht
      go_wp2
      go_quiet (fail)
      by_cases hxy : x = y
      · have ht : (x != y) = false := by simp [hxy]
        have HXY := Lib.hid hxy
        clear hxy
        go_wp2
        go_roundw
        case rel => exact ⟨k + 1, nd + nq, by omega, by go_num, HE.out.2 ⟨he, HXY.out⟩, rfl⟩
        case measure => simp [intOf]; omega
      · have ht : (x != y) = true := by simp [hxy]
        go_wp2
        go_ret
        refine ⟨ret_bool ?_, nd + nq, World.drewN_drewN _ _ _⟩
        have : xs ≠ ys := fun e => hxy (HE.out.1 (by rw [e])).2
        simp [this]
    · go_wp2
      go_ret
      have h1 := he.out
      rw [List.take_of_length_le (by omega), List.take_of_length_le (by have := HL.out; omega)] at h1
      exact ⟨ret_bool (by simp [h1]), nd, rfl⟩

theorem mark_any (i : Int) (w : World) (h : 0 ≤ i) (h1 : i ≤ 1000) :
    Calls Try.prog 28 #[.int .i64 1, .int .i64 i] w fun e w' => e = .returned (.int .i64 (8000024 + i)) ∧ w = w' := by
  go_enter Try.func28, Try.ntmps28
  go_wp2
  go_ret
  exact ⟨rfl, rfl⟩

def marks (j : Nat) : List Int := (List.range j).map fun i : Nat => 8000024 + (i : Int)
theorem marks_succ (j : Nat) : marks (j + 1) = marks j ++ [8000024 + (j : Int)] := by simp [marks, List.range_succ]
theorem marks_len (j : Nat) : (marks j).length = j := by simp [marks]
theorem marks_get (j i : Nat) (h : i < j) : (marks j).getD i 0 = 8000024 + (i : Int) := by simp [marks, h]

theorem oneCells_ints (k : IntKind) (xs : List Int) : ∀ u ∈ ics k xs, u.oneCell' = true := by
  intro u hu
  obtain ⟨x, _, rfl⟩ := List.mem_map.1 hu
  rfl

theorem Elem.made {P : Program} {t e : TypeId} {z : Value} {size bytes : Nat} (hE : Elem P t e z size bytes) (n : Nat) (hn : n ≤ 137438953472) (k1 k2 : IntKind) (w : World) :
    (Instr.makeSlice t (.int k1 0) (.int k2 (n : Int))).run P w = .ok (.slice (some ⟨w.heap.size, 0, none⟩) 0 n) (w.alloc (.cells (madeCells z.cells (n * size)) e)) := by
  obtain ⟨i, hi, hz0, hz1, hz2⟩ := info_parts hE.info
  have hb := small_bytes hn hE.hby
  have hb' : (i.bytes : Int) * (n : Int) ≤ 281474976710656 := by
    have h : ((i.bytes * n : Nat) : Int) ≤ 281474976710656 := by rw [hz2, Nat.mul_comm]; omega
    rwa [Int.natCast_mul] at h
  have hr := run_make (P := P) w t e i z hE.ht hi hz0 k1 k2 0 n (by omega) (by omega) hb' (by omega)
  simp only [Int.toNat_natCast, Int.toNat_zero] at hr
  rw [hr, hz1]
theorem Own.made (w0 : World) {e : TypeId} {w : World} {size : Nat} (z : Array Value) (n : Nat) (hb : Below w0.heap.size w0 w) (hn : n ≤ 137438953472) :
    Own w0 (w.alloc (.cells (madeCells z (n * size)) e)) e size (.slice (some ⟨w.heap.size, 0, none⟩) 0 n) 0 [] :=
  ⟨World.ownsRow_made w _ n hb.size (by simp only [maxLen]; omega) (size_madeCells _ _), hb.alloc hb.size _⟩

set_option maxHeartbeats 1000000 in
theorem lent_any (A : Option Addr) (c : Nat) (xs : List Int) (w : World) (hx : Rd w w.heap.size A (ics .i64 xs)) (hm : xs.length ≤ 1000000) :
    Calls Try.prog 22 #[.slice A xs.length c] w fun e w' => ∃ A' c', e = .returned (.slice A' xs.length c') ∧ xs.length + 12 ≤ c' ∧ Rd w' w'.heap.size A' (ics .i64 (xs ++ marks 12)) ∧ Below w.heap.size w w' := by
  have HX := Lib.hid hx
  clear hx
  have hmk : ∀ w, (Instr.makeSlice 24 (.int .i64 0) (.int .i64 ((xs.length : Int) + 12))).run Try.prog w = .ok (.slice (some ⟨w.heap.size, 0, none⟩) 0 (xs.length + 12)) (w.alloc (.cells (madeCells #[Value.int .i64 0] (xs.length + 12)) 3)) :=
    fun w => by have := eInt.made (xs.length + 12) (by omega) .i64 .i64 w; simpa [Value.cells] using this
  have hown0 : Own w (w.alloc (.cells (madeCells #[Value.int .i64 0] (xs.length + 12)) 3)) 3 1 (.slice (some ⟨w.heap.size, 0, none⟩) 0 (xs.length + 12)) 0 [] := by have := Own.made (e := 3) (size := 1) w #[Value.int .i64 0] (xs.length + 12) (Below.refl _ _) (by omega); simpa using this
  go_enter Try.func22, Try.ntmps22
  go_wp2_with (at_builtin; refine ap_many rfl (.tmp 9) (.tmp 10) 24 rfl eInt A xs.length c (ics .i64 xs) hown0 rfl rfl (by simp) (HX.out.keep hown0.bel hown0.bel.size) (oneCells_ints _ _) (by omega) ?_; intro v1 w1 hown1 hsz1)
  clear hmk
  go_loopw [3, 4] (fun out i wr => ∃ j : Nat, j ≤ 12 ∧ i = .int .i64 j ∧ Own w wr 3 1 out (xs.length + j) (ics .i64 (xs ++ marks j))) (fun _ i _ => 12 - (intOf i).toNat)
  case atStart => exact ⟨0, by omega, rfl, by simpa [marks] using hown1⟩
  case round =>
    obtain ⟨j, hj, rfl, hown⟩ := hrel
    by_cases hlt : j < 12
    · go_wp2_with fail
      refine (mark_any _ _ (by omega) (by omega)).mono ?_
      rintro e w' ⟨rfl, rfl⟩
      go_wp2_with (at_builtin; refine ap_one rfl (.tmp 16) (.tmp 19) 24 rfl eInt [.int .i64 (8000024 + (j : Int))] hown rfl rfl rfl (by simp [Value.oneCell']) (by omega) ?_; intro v' w' hown' hsz)
      go_roundw
      case rel => exact ⟨j + 1, by omega, by go_num, by rw [marks_succ, ← List.append_assoc, ← Nat.add_assoc]; simpa [ics] using hown'⟩
      case measure => simp [intOf]; omega
    · obtain rfl : j = 12 := by omega
      obtain ⟨A', c', rfl, hc', hrd⟩ := hown.rd
      have hle : xs.length ≤ c' := by omega
      go_wp2
      go_ret
      exact ⟨_, _, rfl, hc', hrd, hown.bel⟩
end Go.Proofs.Ytknhdojciihjlaa
