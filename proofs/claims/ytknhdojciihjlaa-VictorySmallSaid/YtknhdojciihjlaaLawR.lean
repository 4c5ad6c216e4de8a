import Derived.Test.YtknhdojciihjlaaLaw2
namespace Go.Proofs.Ytknhdojciihjlaa

/-- what the reference asks of each limit -/
def PR (xs : List Int) (i : Nat) : Prop := 1 ≤ xs.getD i 0 ∧ xs.getD i 0 ≤ 1000000 ∧ (0 < i → xs.getD (i - 1) 0 < xs.getD i 0)
theorem incr_of : ∀ (xs : List Int) (l : Int), (∀ i, i < xs.length → l < xs.getD i 0) → (∀ i, i + 1 < xs.length → xs.getD i 0 < xs.getD (i + 1) 0) → incr l xs = true
  | [], _, _, _ => rfl
  | x :: xs, l, h1, h2 => by
    have hx := h1 0 (by simp)
    simp only [List.getD_cons_zero] at hx
    have hmono : ∀ i, i < xs.length → x < xs.getD i 0 := by
      intro i
      induction i with
      | zero => intro hi; have := h2 0 (by simpa using hi); simpa using this
      | succ i ih =>
        intro hi
        have := ih (by omega)
        have h3 := h2 (i + 1) (by simpa using hi)
        simp only [List.getD_cons_succ] at h3
        omega
    have ih := incr_of xs x hmono (fun i hi => by have := h2 (i + 1) (by simpa using hi); simpa using this)
    simp [incr, hx, ih]
theorem RightB_iff (xs : List Int) : RightB xs = true ↔ 1 ≤ xs.length ∧ xs.length ≤ 50 ∧ ∀ i, i < xs.length → PR xs i := by
  constructor
  · intro h
    obtain ⟨l1, l2⟩ := RightB_len h
    refine ⟨l1, l2, fun i hi => ?_⟩
    have := RightB_bd h i hi
    exact ⟨this.1, this.2, fun h0 => RightB_lt h (by omega) hi⟩
  · rintro ⟨l1, l2, h⟩
    have hb := h (xs.length - 1) (by omega)
    rw [RightB_rest xs l1 l2 hb.2.1]
    refine incr_of xs 0 (fun i hi => by have := (h i hi).1; omega) (fun i hi => ?_)
    have := (h (i + 1) hi).2.2 (by omega)
    simpa using this
theorem RightB_no {xs : List Int} {i : Nat} (hi : i < xs.length) (h : ¬ PR xs i) : RightB xs = false := by
  apply RightB_not
  intro hr
  exact h (((RightB_iff xs).1 hr).2.2 i hi)

/-- the margins that the reference tries -/
def tr (x : Int) : List Int := [x, x - 1, 0 - x, 1 - x]
def tries (xs : List Int) : List Int := [0, 1000000, -1000000] ++ xs.flatMap tr
theorem tries_len (xs : List Int) : (tries xs).length = 3 + 4 * xs.length := by
  have : (xs.flatMap tr).length = 4 * xs.length := by
    induction xs with
    | nil => rfl
    | cons x xs ih => rw [List.flatMap_cons, List.length_append, ih]; simp [tr]; omega
  simp only [tries, List.length_append, this]; rfl
theorem tries_snoc (xs : List Int) (k : Nat) (h : k < xs.length) : tries (xs.take (k + 1)) = tries (xs.take k) ++ tr (xs.getD k 0) := by
  have : xs.getD k 0 = xs[k] := by simp [List.getD_eq_getElem?_getD, h]
  rw [this]
  unfold tries
  rw [List.take_succ_eq_append_getElem h, List.flatMap_append, ← List.append_assoc]
  congr 1
theorem mem_tries_x {xs : List Int} {i : Nat} (h : i < xs.length) : xs.getD i 0 ∈ tries xs ∧ xs.getD i 0 - 1 ∈ tries xs ∧ 0 - xs.getD i 0 ∈ tries xs ∧ 1 - xs.getD i 0 ∈ tries xs := by
  have hm := getD_mem' h
  have : ∀ y, y ∈ tr (xs.getD i 0) → y ∈ tries xs := fun y hy => List.mem_append.2 (.inr (List.mem_flatMap.2 ⟨_, hm, hy⟩))
  exact ⟨this _ (by simp [tr]), this _ (by simp [tr]), this _ (by simp [tr]), this _ (by simp [tr])⟩
theorem tries_bd {xs : List Int} (h : RightB xs = true) : ∀ y ∈ tries xs, -1000000 ≤ y ∧ y ≤ 1000000 := by
  intro y hy
  rcases List.mem_append.1 hy with hy | hy
  · simp at hy; omega
  · obtain ⟨x, hx, hy⟩ := List.mem_flatMap.1 hy
    obtain ⟨i, hi, rfl⟩ := mem_getD hx
    have := RightB_bd h i hi
    simp only [tr, List.mem_cons, List.not_mem_nil, or_false] at hy
    omega
theorem hiA_mem {xs : List Int} (h : RightB xs = true) {p : Nat} (h1 : xs.length ≤ p) (h2 : p ≤ 2 * xs.length) : hiA xs p ∈ tries xs ∧ - hiA xs p ∈ tries xs := by
  have hl := RightB_len h
  unfold hiA
  by_cases e : p = xs.length
  · rw [if_pos e]
    have := mem_tries_x (xs := xs) (i := 0) (by omega)
    refine ⟨this.2.2.2, ?_⟩
    rw [show -(1 - xs.getD 0 0) = xs.getD 0 0 - 1 by omega]; exact this.2.1
  · rw [if_neg e]
    by_cases e2 : p = 2 * xs.length
    · rw [if_pos e2]
      have := mem_tries_x (xs := xs) (i := xs.length - 1) (by omega)
      refine ⟨this.1, ?_⟩
      rw [show -xs.getD (xs.length - 1) 0 = 0 - xs.getD (xs.length - 1) 0 by omega]; exact this.2.2.1
    · rw [if_neg e2]
      have := mem_tries_x (xs := xs) (i := p - xs.length - 1) (by omega)
      refine ⟨this.1, ?_⟩
      rw [show -xs.getD (p - xs.length - 1) 0 = 0 - xs.getD (p - xs.length - 1) 0 by omega]; exact this.2.2.1
theorem hiB_mem {xs : List Int} (h : RightB xs = true) {p : Nat} (h1 : xs.length ≤ p) (h2 : p ≤ 2 * xs.length) : hiB xs p ∈ tries xs ∧ - hiB xs p ∈ tries xs := by
  have hl := RightB_len h
  unfold hiB
  by_cases e : p = xs.length
  · rw [if_pos e]
    have := mem_tries_x (xs := xs) (i := 0) (by omega)
    refine ⟨this.2.1, ?_⟩
    rw [show -(xs.getD 0 0 - 1) = 1 - xs.getD 0 0 by omega]; exact this.2.2.2
  · rw [if_neg e]
    by_cases e2 : p = 2 * xs.length
    · rw [if_pos e2]
      exact ⟨by simp [tries], by simp [tries]⟩
    · rw [if_neg e2]
      have := mem_tries_x (xs := xs) (i := p - xs.length) (by omega)
      refine ⟨this.2.1, ?_⟩
      rw [show -(xs.getD (p - xs.length) 0 - 1) = 1 - xs.getD (p - xs.length) 0 by omega]; exact this.2.2.2
theorem loM_mem {xs : List Int} (h : RightB xs = true) {p : Nat} (h2 : p ≤ 2 * xs.length) : loM xs p ∈ tries xs ∧ upM xs p ∈ tries xs := by
  unfold loM upM
  by_cases e : p < xs.length
  · rw [if_pos e, if_pos e]
    exact ⟨(hiB_mem h (by omega) (by omega)).2, (hiA_mem h (by omega) (by omega)).2⟩
  · rw [if_neg e, if_neg e]
    exact ⟨(hiA_mem h (by omega) h2).1, (hiB_mem h (by omega) h2).1⟩

/-- what the reference's loop holds behind some tries: whether there is one, the least, the greatest -/
structure Found (q : Int → Bool) (l : List Int) (some : Bool) (lo hi : Int) : Prop where
  none : some = false → ∀ y ∈ l, q y = false
  mem : some = true → lo ∈ l ∧ q lo = true ∧ hi ∈ l ∧ q hi = true
  least : some = true → ∀ y ∈ l, q y = true → lo ≤ y ∧ y ≤ hi
theorem Found.nil (q : Int → Bool) (lo hi : Int) : Found q [] false lo hi := ⟨fun _ y hy => by simp at hy, fun h => by simp at h, fun h => by simp at h⟩
theorem Found.skip {q : Int → Bool} {l : List Int} {s : Bool} {lo hi y : Int} (h : Found q l s lo hi) (hy : q y = false) : Found q (l ++ [y]) s lo hi := by
  refine ⟨fun hs z hz => ?_, fun hs => ?_, fun hs z hz hq => ?_⟩
  · rcases List.mem_append.1 hz with hz | hz
    · exact h.none hs z hz
    · simp at hz; rw [hz]; exact hy
  · have := h.mem hs
    exact ⟨List.mem_append.2 (.inl this.1), this.2.1, List.mem_append.2 (.inl this.2.2.1), this.2.2.2⟩
  · rcases List.mem_append.1 hz with hz | hz
    · exact h.least hs z hz hq
    · simp at hz; subst hz; rw [hy] at hq; cases hq
theorem Found.take {q : Int → Bool} {l : List Int} {s : Bool} {lo hi y : Int} (h : Found q l s lo hi) (hy : q y = true) :
    Found q (l ++ [y]) true (if s = false ∨ y < lo then y else lo) (if s = false ∨ hi < y then y else hi) := by
  refine ⟨(fun hs => by cases hs), fun _ => ?_, fun _ z hz hq => ?_⟩
  · have hm : y ∈ l ++ [y] := by simp
    cases s with
    | false => simp [hy]
    | true =>
      have := h.mem rfl
      refine ⟨?_, ?_, ?_, ?_⟩
      · split
        · exact hm
        · exact List.mem_append.2 (.inl this.1)
      · split
        · exact hy
        · exact this.2.1
      · split
        · exact hm
        · exact List.mem_append.2 (.inl this.2.2.1)
      · split
        · exact hy
        · exact this.2.2.2
  · rcases List.mem_append.1 hz with hz | hz
    · cases s with
      | false => have := h.none rfl z hz; rw [this] at hq; cases hq
      | true =>
        have := h.least rfl z hz hq
        simp only [Bool.true_eq_false, false_or]
        constructor
        · split <;> omega
        · split <;> omega
    · simp at hz; subst hz
      cases s with
      | false => simp
      | true =>
        simp only [Bool.true_eq_false, false_or]
        constructor
        · split <;> omega
        · split <;> omega

theorem found_end {xs : List Int} (h : RightB xs = true) {p : Nat} (h2 : p ≤ 2 * xs.length) {s : Bool} {lo hi : Int}
    (hf : Found (fun y => decide ((xs.length : Int) + ptsN xs y = p)) (tries xs) s lo hi) : s = true ∧ lo = loM xs p ∧ hi = upM xs p := by
  have hm := loM_mem h h2
  have hlu := lo_le h h2
  have lb := lo_bd h h2
  have ub := up_bd h h2
  have q1 : decide ((xs.length : Int) + ptsN xs (loM xs p) = p) = true := by
    rw [decide_eq_true_eq]; exact (pts_iff h lb.1 lb.2 h2).2 ⟨by omega, hlu⟩
  have q2 : decide ((xs.length : Int) + ptsN xs (upM xs p) = p) = true := by
    rw [decide_eq_true_eq]; exact (pts_iff h ub.1 ub.2 h2).2 ⟨hlu, by omega⟩
  cases s with
  | false => have := hf.none rfl _ hm.1; rw [this] at q1; cases q1
  | true =>
    obtain ⟨m1, m2, m3, m4⟩ := hf.mem rfl
    have b1 := tries_bd h _ m1
    have b2 := tries_bd h _ m3
    rw [decide_eq_true_eq] at m2 m4
    have i1 := (pts_iff h b1.1 b1.2 h2).1 m2
    have i2 := (pts_iff h b2.1 b2.2 h2).1 m4
    have l1 := hf.least rfl _ hm.1 q1
    have l2 := hf.least rfl _ hm.2 q2
    exact ⟨rfl, by omega, by omega⟩
theorem found_none {xs : List Int} {p : Int} (hp : p < 0 ∨ 2 * (xs.length : Int) < p) {s : Bool} {lo hi : Int}
    (hf : Found (fun y => decide ((xs.length : Int) + ptsN xs y = p)) (tries xs) s lo hi) : s = false := by
  cases s with
  | false => rfl
  | true =>
    have := (hf.mem rfl).2.1
    have hb := ptsN_le xs lo
    rw [decide_eq_true_eq] at this
    omega
end Go.Proofs.Ytknhdojciihjlaa
