import Derived.Test.YtknhdojciihjlaaLaw
namespace Go.Proofs.Ytknhdojciihjlaa

/-- all that is said of the usual scale of a number of boards -/
def chk (n : Nat) : Bool := RightB (us n 10) &&
  (List.range 10).all fun i => decide (4 * (lst (tk n (i + 1)) - 1) * (lst (tk n (i + 1)) - 1) < tk n (i + 1)) &&
    (decide (32 < n) || (decide (lst (tk (4 * n) (i + 1)) ≤ 2 * lst (tk n (i + 1))) && decide (2 * lst (tk n (i + 1)) < lst (tk (4 * n) (i + 1)) + 2)))
theorem chk_all : (List.range 128).all (fun i => chk (i + 1)) = true := by decide +kernel
theorem chk_ok {n : Nat} (h1 : 1 ≤ n) (h2 : n ≤ 128) : chk n = true := by
  have := List.all_eq_true.1 chk_all (n - 1) (List.mem_range.2 (by omega))
  rwa [show n - 1 + 1 = n by omega] at this
theorem us_right {n : Nat} (h1 : 1 ≤ n) (h2 : n ≤ 128) : RightB (us n 10) = true := by
  have := chk_ok h1 h2
  unfold chk at this
  exact (Bool.and_eq_true_iff.1 this).1
theorem us_facts {n i : Nat} (h1 : 1 ≤ n) (h2 : n ≤ 128) (hi : i < 10) :
    4 * (lst (tk n (i + 1)) - 1) * (lst (tk n (i + 1)) - 1) < tk n (i + 1) ∧ (n ≤ 32 → lst (tk (4 * n) (i + 1)) ≤ 2 * lst (tk n (i + 1)) ∧ 2 * lst (tk n (i + 1)) < lst (tk (4 * n) (i + 1)) + 2) := by
  have := chk_ok h1 h2
  unfold chk at this
  have := List.all_eq_true.1 (Bool.and_eq_true_iff.1 this).2 i (List.mem_range.2 hi)
  simp only [Bool.and_eq_true, Bool.or_eq_true, decide_eq_true_eq] at this
  refine ⟨this.1, fun h => ?_⟩
  rcases this.2 with h' | h'
  · omega
  · exact h'
/-- the tests of the first loop, as the walk spells them -/
theorem us_test {n i : Nat} (h1 : 1 ≤ n) (h2 : n ≤ 128) (hi : i < 10) :
    ¬ (4 : Int) * (lst (tk n (i + 1)) : Nat) * (lst (tk n (i + 1)) : Nat) < 9 * ((i : Int) + 1) * ((i : Int) + 1) * n ∧
    (4 : Int) * ((lst (tk n (i + 1)) : Nat) - 1) * ((lst (tk n (i + 1)) : Nat) - 1) < 9 * ((i : Int) + 1) * ((i : Int) + 1) * n := by
  have hf := us_facts h1 h2 hi
  have ha := lst_at (tk_le h2 (show i + 1 ≤ 10 by omega))
  have hp := lst_pos (tk n (i + 1))
  rw [tk_int]
  generalize tk n (i + 1) = t at *
  generalize hm : lst t = m at *
  obtain ⟨q, rfl⟩ : ∃ q, m = q + 1 := ⟨m - 1, by omega⟩
  refine ⟨?_, ?_⟩
  · have e : (4 : Int) * ((q + 1 : Nat) : Int) * ((q + 1 : Nat) : Int) = ((4 * (q + 1) * (q + 1) : Nat) : Int) := by simp
    rw [e]; omega
  · have e : (4 : Int) * (((q + 1 : Nat) : Int) - 1) * (((q + 1 : Nat) : Int) - 1) = ((4 * q * q : Nat) : Int) := by
      rw [show ((q + 1 : Nat) : Int) - 1 = q by omega]; simp
    rw [e]
    have := hf.1
    simp only [Nat.add_sub_cancel] at this
    omega
theorem sq_int' {m : Int} (h0 : 0 ≤ m) (h : m ≤ 401) : (0 : Int) ≤ 4 * m * m ∧ (4 : Int) * m * m ≤ 643204 := by
  obtain ⟨q, rfl⟩ := Int.eq_ofNat_of_zero_le h0
  exact sq_int (by omega)
theorem us_more {n i : Nat} (h2 : n < 128) (hi : i < 10) : lst (tk n (i + 1)) ≤ lst (tk (n + 1) (i + 1)) :=
  lst_mono (by unfold tk; exact Nat.mul_le_mul_left _ (by omega)) (tk_le (by omega) (by omega))
end Go.Proofs.Ytknhdojciihjlaa
