import Derived.Test.YtknhdojciihjlaaSpec
namespace Go.Proofs.Ytknhdojciihjlaa

theorem cnt_mono (p q : Int → Bool) (xs : List Int) (h : ∀ x ∈ xs, p x = true → q x = true) : cnt p xs ≤ cnt q xs := by
  unfold cnt
  induction xs with
  | nil => simp
  | cons x xs ih =>
    have ih' := ih (fun y hy => h y (by simp [hy]))
    have hx := h x (by simp)
    cases hp : p x <;> cases hq : q x <;> simp_all <;> omega

theorem ptsN_neg (xs : List Int) (m : Int) : ptsN xs (-m) = - ptsN xs m := by
  unfold ptsN; rw [Int.neg_neg]; omega
theorem ptsN_zero (xs : List Int) : ptsN xs 0 = 0 := by unfold ptsN; simp
theorem ptsN_mono (xs : List Int) {a b : Int} (h : a ≤ b) : ptsN xs a ≤ ptsN xs b := by
  have h1 := cnt_mono (fun x => decide (x ≤ a)) (fun x => decide (x ≤ b)) xs (fun x _ hx => by simp at *; omega)
  have h2 := cnt_mono (fun x => decide (x ≤ -b)) (fun x => decide (x ≤ -a)) xs (fun x _ hx => by simp at *; omega)
  unfold ptsN; omega
/-- how many elements of an increasing list there are up to a number -/
theorem cnt_all (p : Int → Bool) (xs : List Int) (h : ∀ x ∈ xs, p x = true) : cnt p xs = xs.length := by
  unfold cnt; rw [List.filter_eq_self.2 h]
theorem cnt_none (p : Int → Bool) (xs : List Int) (h : ∀ x ∈ xs, p x = false) : cnt p xs = 0 := by
  unfold cnt
  rw [List.filter_eq_nil_iff.2 (fun x hx => by simp [h x hx])]; rfl
theorem mem_getD {xs : List Int} {x : Int} (h : x ∈ xs) : ∃ i, i < xs.length ∧ xs.getD i 0 = x := by
  obtain ⟨i, hi, he⟩ := List.getElem_of_mem h
  exact ⟨i, hi, by simp [hi, he]⟩
theorem getD_mem' {xs : List Int} {i : Nat} (h : i < xs.length) : xs.getD i 0 ∈ xs := by
  rw [List.getD_eq_getElem?_getD, List.getElem?_eq_getElem h]; simp
/-- of an increasing list of which just the first j are small, j are small -/
theorem cnt_first (p : Int → Bool) (xs : List Int) (j : Nat) (hj : j ≤ xs.length) (h1 : ∀ i, i < j → p (xs.getD i 0) = true) (h2 : ∀ i, j ≤ i → i < xs.length → p (xs.getD i 0) = false) : cnt p xs = j := by
  have e : cnt p xs = cnt p (xs.take j) + cnt p (xs.drop j) := by
    unfold cnt
    rw [← Int.natCast_add, ← List.length_append, ← List.filter_append, List.take_append_drop]
  rw [e, cnt_all p (xs.take j), cnt_none p (xs.drop j)]
  · rw [List.length_take]; omega
  · intro x hx
    obtain ⟨i, hi, rfl⟩ := mem_getD hx
    rw [List.length_drop] at hi
    have := h2 (j + i) (by omega) (by omega)
    rw [← this]; congr 1; simp [List.getD_eq_getElem?_getD, List.getElem?_drop]
  · intro x hx
    obtain ⟨i, hi, rfl⟩ := mem_getD hx
    rw [List.length_take] at hi
    have := h1 i (by omega)
    rw [← this]; congr 1; rw [List.getD_eq_getElem?_getD, List.getD_eq_getElem?_getD, List.getElem?_take, if_pos (by omega)]

theorem ptsN_nonneg_eq {xs : List Int} (h : RightB xs = true) {m : Int} (hm : 0 ≤ m) : ptsN xs m = cnt (fun x => decide (x ≤ m)) xs := by
  have : cnt (fun x => decide (x ≤ -m)) xs = 0 := by
    apply cnt_none
    intro x hx
    obtain ⟨i, hi, rfl⟩ := mem_getD hx
    have := RightB_bd h i hi
    simp only [decide_eq_false_iff_not]; omega
  unfold ptsN; omega
/-- the winner has all points from the last limit on -/
theorem ptsN_full {xs : List Int} (h : RightB xs = true) (m : Int) : ptsN xs m = xs.length ↔ xs.getD (xs.length - 1) 0 ≤ m := by
  have hl := RightB_len h
  have hb := RightB_bd h (xs.length - 1) (by omega)
  constructor
  · intro he
    rcases Int.lt_or_le m (xs.getD (xs.length - 1) 0) with hlt | hle
    · exfalso
      have h1 : cnt (fun x => decide (x ≤ m)) xs ≤ (xs.length - 1 : Nat) := by
        have e : xs = xs.take (xs.length - 1) ++ [xs.getD (xs.length - 1) 0] := by
          have := List.take_succ_eq_append_getElem (l := xs) (i := xs.length - 1) (by omega)
          rw [show xs.length - 1 + 1 = xs.length by omega, List.take_length] at this
          rw [show xs.getD (xs.length - 1) 0 = xs[xs.length - 1]'(by omega) by simp [List.getD_eq_getElem?_getD, show xs.length - 1 < xs.length by omega]]
          exact this
        have hl2 : (xs.take (xs.length - 1)).length = xs.length - 1 := by simp
        generalize xs.getD (xs.length - 1) 0 = y at *
        generalize xs.take (xs.length - 1) = q at *
        rw [e]
        unfold cnt
        rw [List.filter_append]
        have : ¬ y ≤ m := by omega
        have h3 := List.length_filter_le (fun x => decide (x ≤ m)) q
        simp [this]
        rw [← e] at *
        omega
      have h2 := cnt_le (fun x => decide (x ≤ -m)) xs
      unfold ptsN at he
      omega
    · exact hle
  · intro hle
    rw [ptsN_nonneg_eq h (by omega), cnt_all]
    intro x hx
    obtain ⟨i, hi, rfl⟩ := mem_getD hx
    simp
    rcases Nat.lt_or_ge i (xs.length - 1) with hlt | hge
    · have := RightB_lt h hlt (by omega); simp [List.getD_eq_getElem?_getD] at *; omega
    · have : i = xs.length - 1 := by omega
      subst this; simpa [List.getD_eq_getElem?_getD] using hle

theorem RightB_of_not_incr {xs : List Int} (h : incr 0 xs = false) : RightB xs = false := by simp [RightB, h]
theorem RightB_not {xs : List Int} (h : ¬ RightB xs = true) : RightB xs = false := by simpa using h
theorem RightB_twice (xs : List Int) (h : 1 ≤ xs.length) : RightB (xs ++ [xs.getD (xs.length - 1) 0]) = false := by
  apply RightB_not
  intro hr
  have := RightB_lt hr (i := xs.length - 1) (j := xs.length) (by omega) (by simp)
  simp [List.getD_eq_getElem?_getD, List.getElem?_append_left (show xs.length - 1 < xs.length by omega)] at this
theorem RightB_nil : RightB [] = false := rfl
theorem getD_set_self (xs : List Int) (i : Nat) (v : Int) (h : i < xs.length) : (xs.set i v).getD i 0 = v := by
  simp [List.getD_eq_getElem?_getD, h]
theorem RightB_head (xs : List Int) (v : Int) (h : 1 ≤ xs.length) (hv : v ≤ 0) : RightB (xs.set 0 v) = false := by
  apply RightB_not
  intro hr
  have := RightB_bd hr 0 (by rw [List.length_set]; omega)
  rw [getD_set_self xs 0 v (by omega)] at this
  omega
theorem RightB_tail (xs : List Int) (v : Int) (h : 1 ≤ xs.length) (hv : 1000001 ≤ v) : RightB (xs.set (xs.length - 1) v) = false := by
  apply RightB_not
  intro hr
  have := RightB_bd hr (xs.length - 1) (by rw [List.length_set]; omega)
  rw [getD_set_self xs (xs.length - 1) v (by omega)] at this
  omega
end Go.Proofs.Ytknhdojciihjlaa
