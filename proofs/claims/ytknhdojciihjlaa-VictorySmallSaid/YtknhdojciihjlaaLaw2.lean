import Derived.Test.YtknhdojciihjlaaLaw
namespace Go.Proofs.Ytknhdojciihjlaa

theorem split_at (xs : List Int) (m : Int) : ∀ b, b ≤ xs.length → ∃ k, k ≤ b ∧ (∀ i, i < k → xs.getD i 0 ≤ m) ∧ (k = b ∨ (k < b ∧ m < xs.getD k 0))
  | 0, _ => ⟨0, Nat.le_refl _, by omega, .inl rfl⟩
  | b + 1, h => by
    obtain ⟨k, hk, h1, h2⟩ := split_at xs m b (by omega)
    rcases h2 with rfl | ⟨h2, h3⟩
    · rcases Int.lt_or_le m (xs.getD k 0) with hlt | hle
      · exact ⟨k, by omega, h1, .inr ⟨by omega, hlt⟩⟩
      · refine ⟨k + 1, Nat.le_refl _, fun i hi => ?_, .inl rfl⟩
        rcases Nat.lt_or_ge i k with hl | hl
        · exact h1 i hl
        · have : i = k := by omega
          rw [this]; exact hle
    · exact ⟨k, by omega, h1, .inr ⟨by omega, h3⟩⟩

theorem cnt_of {xs : List Int} (h : RightB xs = true) {m : Int} {j : Nat} (hj : j ≤ xs.length) (h1 : j = 0 ∨ xs.getD (j - 1) 0 ≤ m) (h2 : j = xs.length ∨ m < xs.getD j 0) :
    cnt (fun x => decide (x ≤ m)) xs = j := by
  apply cnt_first _ _ j hj
  · intro i hi
    rcases h1 with rfl | h1
    · omega
    · have : xs.getD i 0 ≤ xs.getD (j - 1) 0 := by
        rcases Nat.lt_or_ge i (j - 1) with hl | hl
        · have := RightB_lt h hl (by omega); omega
        · have : i = j - 1 := by omega
          rw [this]; omega
      simp only [decide_eq_true_eq]; omega
  · intro i hi hl
    rcases h2 with rfl | h2
    · omega
    · have : xs.getD j 0 ≤ xs.getD i 0 := by
        rcases Nat.lt_or_ge j i with hll | hll
        · have := RightB_lt h hll hl; omega
        · have : i = j := by omega
          rw [this]; omega
      simp only [decide_eq_false_iff_not]; omega

theorem cnt_iff {xs : List Int} (h : RightB xs = true) (m : Int) {j : Nat} (hj : j ≤ xs.length) :
    cnt (fun x => decide (x ≤ m)) xs = j ↔ (j = 0 ∨ xs.getD (j - 1) 0 ≤ m) ∧ (j = xs.length ∨ m < xs.getD j 0) := by
  constructor
  · intro he
    obtain ⟨k, hk, h1, h2⟩ := split_at xs m xs.length (Nat.le_refl _)
    have hk1 : k = 0 ∨ xs.getD (k - 1) 0 ≤ m := by
      rcases Nat.eq_zero_or_pos k with e | e
      · exact .inl e
      · exact .inr (h1 (k - 1) (by omega))
    have hk2 : k = xs.length ∨ m < xs.getD k 0 := by
      rcases h2 with e | ⟨_, e⟩
      · exact .inl e
      · exact .inr e
    have := cnt_of h hk hk1 hk2
    have : j = k := by omega
    subst this
    exact ⟨hk1, hk2⟩
  · rintro ⟨h1, h2⟩
    exact cnt_of h hj h1 h2

theorem hi_iff {xs : List Int} (h : RightB xs = true) {m : Int} (hm : m ≤ 1000000) {p : Nat} (h1 : xs.length ≤ p) (h2 : p ≤ 2 * xs.length) :
    (xs.length : Int) + ptsN xs m = p ↔ hiA xs p ≤ m ∧ m ≤ hiB xs p := by
  have hl := RightB_len h
  have b0 := RightB_bd h 0 (by omega)
  obtain ⟨j, rfl⟩ : ∃ j, p = xs.length + j := ⟨p - xs.length, by omega⟩
  have hj : j ≤ xs.length := by omega
  rcases Int.lt_or_le m 0 with hneg | hpos
  · have e : ptsN xs m = - cnt (fun x => decide (x ≤ -m)) xs := by
      have := ptsN_nonneg_eq h (m := -m) (by omega)
      have h3 := ptsN_neg xs m
      omega
    have hc := cnt_le (fun x => decide (x ≤ -m)) xs
    rw [e]
    by_cases hj0 : j = 0
    · subst hj0
      have := cnt_iff h (-m) (j := 0) (by omega)
      simp only [hiA, hiB, Nat.add_zero, if_true]
      simp only [true_or, true_and] at this
      have hne : ¬ (0 = xs.length) := by omega
      simp only [hne, false_or] at this
      constructor
      · intro he
        have := this.1 (by omega)
        omega
      · intro he
        have := this.2 (by omega)
        omega
    · have hA : 1 ≤ hiA xs (xs.length + j) := by
        unfold hiA
        rw [if_neg (by omega)]
        split
        · have := RightB_bd h (xs.length - 1) (by omega); omega
        · have := RightB_bd h (xs.length + j - xs.length - 1) (by omega); omega
      constructor <;> intro he <;> omega
  · rw [ptsN_nonneg_eq h hpos]
    have hI := cnt_iff h m hj
    have e1 : ((xs.length : Int) + cnt (fun x => decide (x ≤ m)) xs = ((xs.length + j : Nat) : Int)) ↔ cnt (fun x => decide (x ≤ m)) xs = (j : Int) := by omega
    rw [e1, hI]
    unfold hiA hiB
    by_cases hj0 : j = 0
    · subst hj0
      have hne : ¬ (0 = xs.length) := by omega
      simp only [Nat.add_zero, if_true, true_or, true_and, hne, false_or]
      omega
    · have n1 : ¬ (xs.length + j = xs.length) := by omega
      rw [if_neg n1, if_neg n1]
      by_cases hjn : j = xs.length
      · have n2 : xs.length + j = 2 * xs.length := by omega
        rw [if_pos n2, if_pos n2]
        rw [hjn]
        have : ¬ xs.length = 0 := by omega
        simp only [this, false_or, true_or, and_true]
        omega
      · have n2 : ¬ (xs.length + j = 2 * xs.length) := by omega
        rw [if_neg n2, if_neg n2]
        rw [show xs.length + j - xs.length - 1 = j - 1 by omega, show xs.length + j - xs.length = j by omega]
        simp only [hj0, hjn, false_or]
        omega

theorem pts_iff {xs : List Int} (h : RightB xs = true) {m : Int} (hm0 : -1000000 ≤ m) (hm : m ≤ 1000000) {p : Nat} (h2 : p ≤ 2 * xs.length) :
    (xs.length : Int) + ptsN xs m = p ↔ loM xs p ≤ m ∧ m ≤ upM xs p := by
  unfold loM upM
  by_cases hp : p < xs.length
  · rw [if_pos hp, if_pos hp]
    have := hi_iff h (m := -m) (by omega) (p := 2 * xs.length - p) (by omega) (by omega)
    rw [ptsN_neg] at this
    constructor
    · intro he
      have := this.1 (by omega)
      omega
    · intro he
      have := this.2 (by omega)
      omega
  · rw [if_neg hp, if_neg hp]
    exact hi_iff h hm (by omega) h2

theorem hi_next {xs : List Int} (h : RightB xs = true) {q : Nat} (h1 : xs.length ≤ q) (h2 : q < 2 * xs.length) : hiA xs (q + 1) = hiB xs q + 1 := by
  have hl := RightB_len h
  unfold hiA hiB
  have n1 : ¬ q + 1 = xs.length := by omega
  rw [if_neg n1]
  by_cases hq : q = xs.length
  · rw [if_pos hq]
    by_cases h3 : q + 1 = 2 * xs.length
    · rw [if_pos h3, show xs.length - 1 = 0 by omega]; omega
    · rw [if_neg h3, show q + 1 - xs.length - 1 = 0 by omega]; omega
  · have n2 : ¬ q = 2 * xs.length := by omega
    rw [if_neg hq, if_neg n2]
    by_cases h3 : q + 1 = 2 * xs.length
    · rw [if_pos h3, show xs.length - 1 = q - xs.length by omega]; omega
    · rw [if_neg h3, show q + 1 - xs.length - 1 = q - xs.length by omega]; omega
theorem hi_le {xs : List Int} (h : RightB xs = true) {q : Nat} (h1 : xs.length ≤ q) (h2 : q ≤ 2 * xs.length) : hiA xs q ≤ hiB xs q := by
  have hl := RightB_len h
  unfold hiA hiB
  by_cases hq : q = xs.length
  · rw [if_pos hq, if_pos hq]
    have := RightB_bd h 0 (by omega); omega
  · rw [if_neg hq, if_neg hq]
    split
    · exact RightB_lastle h
    · have := RightB_lt h (i := q - xs.length - 1) (j := q - xs.length) (by omega) (by omega); omega
theorem lo_next {xs : List Int} (h : RightB xs = true) {p : Nat} (h2 : p < 2 * xs.length) : loM xs (p + 1) = upM xs p + 1 := by
  have hl := RightB_len h
  unfold loM upM
  by_cases hp : p + 1 < xs.length
  · rw [if_pos hp, if_pos (by omega)]
    have := hi_next h (q := 2 * xs.length - (p + 1)) (by omega) (by omega)
    rw [show 2 * xs.length - (p + 1) + 1 = 2 * xs.length - p by omega] at this
    omega
  · by_cases hp2 : p + 1 = xs.length
    · rw [if_neg hp, if_pos (by omega)]
      have := hi_next h (q := xs.length) (by omega) (by omega)
      rw [show 2 * xs.length - p = xs.length + 1 by omega, this, hp2]
      simp only [hiA, hiB, if_true]; omega
    · rw [if_neg hp, if_neg (by omega)]
      exact hi_next h (by omega) h2
theorem lo_le {xs : List Int} (h : RightB xs = true) {p : Nat} (h2 : p ≤ 2 * xs.length) : loM xs p ≤ upM xs p := by
  unfold loM upM
  by_cases hp : p < xs.length
  · rw [if_pos hp, if_pos hp]
    have := hi_le h (q := 2 * xs.length - p) (by omega) (by omega); omega
  · rw [if_neg hp, if_neg hp]
    exact hi_le h (by omega) h2
theorem lo_bd {xs : List Int} (h : RightB xs = true) {p : Nat} (h2 : p ≤ 2 * xs.length) : -1000000 ≤ loM xs p ∧ loM xs p ≤ 1000000 := by
  unfold loM
  by_cases hp : p < xs.length
  · rw [if_pos hp]
    have := hiB_bd h (p := 2 * xs.length - p) (by omega) (by omega); omega
  · rw [if_neg hp]
    exact hiA_bd h (by omega) h2
theorem up_bd {xs : List Int} (h : RightB xs = true) {p : Nat} (h2 : p ≤ 2 * xs.length) : -1000000 ≤ upM xs p ∧ upM xs p ≤ 1000000 := by
  unfold upM
  by_cases hp : p < xs.length
  · rw [if_pos hp]
    have := hiA_bd h (p := 2 * xs.length - p) (by omega) (by omega); omega
  · rw [if_neg hp]
    exact hiB_bd h (by omega) h2
theorem lo_zero {xs : List Int} (h : RightB xs = true) : loM xs 0 = -1000000 := by
  have hl := RightB_len h
  unfold loM hiB
  rw [if_pos (by omega), if_neg (by omega), if_pos (by omega)]
theorem up_all {xs : List Int} (h : RightB xs = true) : upM xs (2 * xs.length) = 1000000 := by
  have hl := RightB_len h
  unfold upM hiB
  rw [if_neg (by omega), if_neg (by omega), if_pos rfl]
end Go.Proofs.Ytknhdojciihjlaa
