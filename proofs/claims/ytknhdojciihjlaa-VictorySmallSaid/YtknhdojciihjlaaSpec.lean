namespace Go.Proofs.Ytknhdojciihjlaa

/-! The plain mathematics of victory points -/

def incr (last : Int) : List Int → Bool
  | [] => true
  | x :: xs => decide (last < x) && incr x xs

def RightB (xs : List Int) : Bool := decide (1 ≤ xs.length ∧ xs.length ≤ 50 ∧ xs.getD (xs.length - 1) 0 ≤ 1000000) && incr 0 xs

theorem incr_drop (xs : List Int) (k : Nat) (hk : k < xs.length) (l : Int) : incr l (xs.drop k) = (decide (l < xs.getD k 0) && incr (xs.getD k 0) (xs.drop (k+1))) := by
  rw [List.drop_eq_getElem_cons hk]; simp [incr, List.getD_eq_getElem?_getD, hk]

theorem RightB_short (xs : List Int) (h : ¬ 1 ≤ xs.length) : RightB xs = false := by simp [RightB, h]
theorem RightB_long (xs : List Int) (h : ¬ xs.length ≤ 50) : RightB xs = false := by simp [RightB, h]
theorem RightB_last (xs : List Int) (h : 1000000 < xs.getD (xs.length - 1) 0) : RightB xs = false := by
  have : ¬ (xs.getD (xs.length - 1) 0 ≤ 1000000) := by omega
  simp only [RightB, this, and_false, decide_false, Bool.false_and]
theorem RightB_rest (xs : List Int) (h : 1 ≤ xs.length) (h1 : xs.length ≤ 50) (h2 : xs.getD (xs.length - 1) 0 ≤ 1000000) : RightB xs = incr 0 xs := by
  simp only [RightB, h, h1, h2, and_self, decide_true, Bool.true_and]

/-- the least m from the given one on with 4 m m ≥ t -/
def up (t : Nat) : Nat → Nat → Nat
  | 0, m => m
  | f + 1, m => if 4 * m * m < t then up t f (m + 1) else m
def lst (t : Nat) : Nat := up t 400 1

theorem up_ge (t : Nat) : ∀ f m, m ≤ up t f m
  | 0, m => Nat.le_refl _
  | f + 1, m => by
    unfold up; split
    · exact Nat.le_trans (Nat.le_succ _) (up_ge t f (m + 1))
    · exact Nat.le_refl _
theorem up_le (t : Nat) : ∀ f m, up t f m ≤ m + f
  | 0, m => Nat.le_refl _
  | f + 1, m => by
    unfold up; split
    · exact Nat.le_trans (up_le t f (m + 1)) (by omega)
    · omega
theorem up_lt (t : Nat) : ∀ f m j, m ≤ j → j < up t f m → 4 * j * j < t
  | 0, m, j, h, k => by simp [up] at k; omega
  | f + 1, m, j, h, k => by
    unfold up at k
    split at k
    · rcases Nat.eq_or_lt_of_le h with rfl | h'
      · assumption
      · exact up_lt t f (m + 1) j h' k
    · omega
theorem up_at (t : Nat) : ∀ f m, t ≤ 4 * (m + f) * (m + f) → t ≤ 4 * up t f m * up t f m
  | 0, m, h => by simpa [up] using h
  | f + 1, m, h => by
    unfold up; split
    · exact up_at t f (m + 1) (by have : m + 1 + f = m + (f + 1) := by omega
                                  rw [this]; exact h)
    · omega
theorem lst_pos (t : Nat) : 1 ≤ lst t := up_ge t 400 1
theorem lst_le (t : Nat) : lst t ≤ 401 := by have := up_le t 400 1; unfold lst; omega
theorem lst_lt {t j : Nat} (h : 1 ≤ j) (k : j < lst t) : 4 * j * j < t := up_lt t 400 1 j h k
theorem lst_at {t : Nat} (h : t ≤ 115200) : t ≤ 4 * lst t * lst t := up_at t 400 1 (by omega)
theorem sq_mono {a b : Nat} (h : a ≤ b) : 4 * a * a ≤ 4 * b * b := Nat.mul_le_mul (Nat.mul_le_mul_left 4 h) h
/-- it is the least one -/
theorem lst_le_of {t j : Nat} (hj : 1 ≤ j) (h : t ≤ 4 * j * j) : lst t ≤ j := by
  rcases Nat.lt_or_ge j (lst t) with hl | hl
  · have := lst_lt hj hl; omega
  · exact hl
theorem lst_mono {t t' : Nat} (h : t ≤ t') (h' : t' ≤ 115200) : lst t ≤ lst t' := lst_le_of (lst_pos _) (Nat.le_trans h (lst_at h'))
theorem lst_iff {t q : Nat} (h : 1 ≤ q) (h1 : q ≤ lst t) (h2 : t ≤ 115200) : 4 * q * q < t ↔ q < lst t := by
  constructor
  · intro hl
    rcases Nat.eq_or_lt_of_le h1 with rfl | h'
    · have := lst_at h2; omega
    · exact h'
  · exact lst_lt h

def tk (n j : Nat) : Nat := 9 * j * j * n
theorem tk_le {n j : Nat} (hn : n ≤ 128) (hj : j ≤ 10) : tk n j ≤ 115200 := by
  unfold tk
  have h1 : 9 * j * j ≤ 9 * 10 * 10 := Nat.mul_le_mul (Nat.mul_le_mul_left 9 hj) hj
  have := Nat.mul_le_mul h1 hn
  omega
theorem tk_mono {n j : Nat} : tk n j ≤ tk n (j + 1) := by
  unfold tk
  exact Nat.mul_le_mul_right n (Nat.mul_le_mul (Nat.mul_le_mul_left 9 (Nat.le_succ j)) (Nat.le_succ j))
theorem sq_int {q : Nat} (h : q ≤ 401) : (0 : Int) ≤ 4 * q * q ∧ (4 : Int) * q * q ≤ 643204 := by
  have h1 : 4 * q * q ≤ 4 * 401 * 401 := sq_mono h
  have e : (4 : Int) * q * q = ((4 * q * q : Nat) : Int) := by simp
  omega
theorem tk_int (n j : Nat) : (9 : Int) * ((j : Int) + 1) * ((j : Int) + 1) * n = (tk n (j + 1) : Int) := by simp [tk]
theorem nine_int {j : Nat} (h : j < 10) : (0 : Int) ≤ 9 * ((j : Int) + 1) * ((j : Int) + 1) ∧ 9 * ((j : Int) + 1) * ((j : Int) + 1) ≤ 900 := by
  have h1 : 9 * (j + 1) * (j + 1) ≤ 9 * 10 * 10 := Nat.mul_le_mul (Nat.mul_le_mul_left 9 h) h
  have e : (9 : Int) * ((j : Int) + 1) * ((j : Int) + 1) = ((9 * (j + 1) * (j + 1) : Nat) : Int) := by simp
  omega
theorem test_int {n j q : Nat} (h : 1 ≤ q) (h1 : q ≤ lst (tk n (j + 1))) (hn : n ≤ 128) (hj : j < 10) :
    (4 : Int) * q * q < 9 * ((j : Int) + 1) * ((j : Int) + 1) * n ↔ q < lst (tk n (j + 1)) := by
  rw [tk_int, ← lst_iff h h1 (tk_le hn (by omega))]
  have e : (4 : Int) * q * q = ((4 * q * q : Nat) : Int) := by simp
  omega
/-- the first j limits of the usual scale -/
def us (n j : Nat) : List Int := (List.range j).map fun i => (lst (tk n (i + 1)) : Int)
theorem us_succ (n j : Nat) : us n (j + 1) = us n j ++ [(lst (tk n (j + 1)) : Int)] := by simp [us, List.range_succ]
theorem us_len (n j : Nat) : (us n j).length = j := by simp [us]
theorem us_get (n j i : Nat) (h : i < j) : (us n j).getD i 0 = (lst (tk n (i + 1)) : Int) := by simp [us, h]
def mm (n j : Nat) : Nat := if j = 0 then 1 else lst (tk n j)
theorem mm_pos (n j : Nat) : 1 ≤ mm n j := by unfold mm; split; omega; exact lst_pos _
theorem mm_le {n j : Nat} (hn : n ≤ 128) (hj : j < 10) : mm n j ≤ lst (tk n (j + 1)) := by
  unfold mm; split
  · exact lst_pos _
  · exact lst_mono tk_mono (tk_le hn (by omega))
theorem mm_succ (n j : Nat) : mm n (j + 1) = lst (tk n (j + 1)) := by simp [mm]

/-- how many elements there are for which something holds -/
def cnt (p : Int → Bool) (xs : List Int) : Int := (xs.filter p).length
theorem cnt_le (p : Int → Bool) (xs : List Int) : 0 ≤ cnt p xs ∧ cnt p xs ≤ xs.length := by
  have := List.length_filter_le p xs
  unfold cnt; omega
theorem cnt_take (p : Int → Bool) (xs : List Int) (k : Nat) (hk : k < xs.length) : cnt p (xs.take (k + 1)) = cnt p (xs.take k) + if p (xs.getD k 0) then 1 else 0 := by
  rw [List.take_succ_eq_append_getElem hk]
  have : xs.getD k 0 = xs[k] := by simp [List.getD_eq_getElem?_getD, hk]
  rw [this]
  unfold cnt
  rw [List.filter_append]
  cases hp : p xs[k] <;> simp [hp]

/-- how many points more than a draw -/
def ptsN (xs : List Int) (m : Int) : Int := cnt (fun x => decide (x ≤ m)) xs - cnt (fun x => decide (x ≤ -m)) xs
def PtsOk (xs : List Int) (m : Int) : Prop := RightB xs = true ∧ -1000000 ≤ m ∧ m ≤ 1000000
theorem RightB_len {xs : List Int} (h : RightB xs = true) : 1 ≤ xs.length ∧ xs.length ≤ 50 := by
  simp [RightB] at h; omega
theorem ptsN_le (xs : List Int) (m : Int) : -(xs.length : Int) ≤ ptsN xs m ∧ ptsN xs m ≤ xs.length := by
  have h1 := cnt_le (fun x => decide (x ≤ m)) xs
  have h2 := cnt_le (fun x => decide (x ≤ -m)) xs
  unfold ptsN; omega

theorem incr_gt : ∀ (xs : List Int) (l : Int), incr l xs = true → ∀ i, i < xs.length → l < xs.getD i 0
  | [], _, _, i, hi => by simp at hi
  | x :: xs, l, h, 0, _ => by simp [incr] at h; simpa using h.1
  | x :: xs, l, h, i + 1, hi => by
    simp [incr] at h
    have := incr_gt xs x h.2 i (by simpa using hi)
    simp only [List.getD_cons_succ]; omega
theorem incr_lt : ∀ (xs : List Int) (l : Int), incr l xs = true → ∀ i j, i < j → j < xs.length → xs.getD i 0 < xs.getD j 0
  | [], _, _, i, j, _, hj => by simp at hj
  | x :: xs, l, h, 0, j + 1, _, hj => by
    simp [incr] at h
    have := incr_gt xs x h.2 j (by simpa using hj)
    simpa using this
  | x :: xs, l, h, i + 1, j + 1, hij, hj => by
    simp [incr] at h
    have := incr_lt xs x h.2 i j (by omega) (by simpa using hj)
    simpa using this
theorem RightB_incr {xs : List Int} (h : RightB xs = true) : incr 0 xs = true := by
  simp [RightB] at h; exact h.2
theorem RightB_lastle {xs : List Int} (h : RightB xs = true) : xs.getD (xs.length - 1) 0 ≤ 1000000 := by
  simp [RightB] at h
  simpa using h.1.2.2
theorem RightB_bd {xs : List Int} (h : RightB xs = true) (i : Nat) (hi : i < xs.length) : 1 ≤ xs.getD i 0 ∧ xs.getD i 0 ≤ 1000000 := by
  have h1 := incr_gt xs 0 (RightB_incr h) i hi
  have h2 := RightB_lastle h
  refine ⟨by omega, ?_⟩
  rcases Nat.lt_or_ge i (xs.length - 1) with hl | hl
  · have := incr_lt xs 0 (RightB_incr h) i (xs.length - 1) hl (by omega); omega
  · have : i = xs.length - 1 := by omega
    rw [this]; exact h2
theorem RightB_lt {xs : List Int} (h : RightB xs = true) {i j : Nat} (hij : i < j) (hj : j < xs.length) : xs.getD i 0 < xs.getD j 0 :=
  incr_lt xs 0 (RightB_incr h) i j hij hj

/-- the least and the greatest margin with p points, where p is at least a draw's -/
def hiA (xs : List Int) (p : Nat) : Int := if p = xs.length then 1 - xs.getD 0 0 else if p = 2 * xs.length then xs.getD (xs.length - 1) 0 else xs.getD (p - xs.length - 1) 0
def hiB (xs : List Int) (p : Nat) : Int := if p = xs.length then xs.getD 0 0 - 1 else if p = 2 * xs.length then 1000000 else xs.getD (p - xs.length) 0 - 1
theorem hiA_bd {xs : List Int} (h : RightB xs = true) {p : Nat} (h1 : xs.length ≤ p) (h2 : p ≤ 2 * xs.length) : -1000000 ≤ hiA xs p ∧ hiA xs p ≤ 1000000 := by
  have hl := RightB_len h
  unfold hiA
  split
  · have := RightB_bd h 0 (by omega); omega
  · split
    · have := RightB_bd h (xs.length - 1) (by omega); omega
    · have := RightB_bd h (p - xs.length - 1) (by omega); omega
theorem hiB_bd {xs : List Int} (h : RightB xs = true) {p : Nat} (h1 : xs.length ≤ p) (h2 : p ≤ 2 * xs.length) : -1000000 ≤ hiB xs p ∧ hiB xs p ≤ 1000000 := by
  have hl := RightB_len h
  unfold hiB
  split
  · have := RightB_bd h 0 (by omega); omega
  · split
    · omega
    · have := RightB_bd h (p - xs.length) (by omega); omega
/-- of all points -/
def loM (xs : List Int) (p : Nat) : Int := if p < xs.length then - hiB xs (2 * xs.length - p) else hiA xs p
def upM (xs : List Int) (p : Nat) : Int := if p < xs.length then - hiA xs (2 * xs.length - p) else hiB xs p

/-- the scale that is made of numbers -/
def runs (last : Int) : List Int → List Int
  | [] => []
  | n :: r => (last + (1 + n)) :: runs (last + (1 + n)) r
def lastOf (last : Int) : List Int → Int
  | [] => last
  | n :: r => lastOf (last + (1 + n)) r
theorem runs_len : ∀ (l : List Int) (a : Int), (runs a l).length = l.length
  | [], _ => rfl
  | _ :: r, _ => by simp [runs, runs_len r]
theorem runs_snoc : ∀ (l : List Int) (a n : Int), runs a (l ++ [n]) = runs a l ++ [lastOf a l + (1 + n)]
  | [], a, n => by simp [runs, lastOf]
  | x :: r, a, n => by simp [runs, lastOf, runs_snoc r]
theorem lastOf_snoc : ∀ (l : List Int) (a n : Int), lastOf a (l ++ [n]) = lastOf a l + (1 + n)
  | [], a, n => by simp [lastOf]
  | x :: r, a, n => by simp [lastOf, lastOf_snoc r]
theorem lastOf_bd : ∀ (l : List Int) (a : Int), (∀ x ∈ l, 0 ≤ x ∧ x ≤ 255) → a ≤ lastOf a l ∧ lastOf a l ≤ a + 256 * l.length
  | [], a, _ => by simp [lastOf]
  | x :: r, a, h => by
    have hx := h x (by simp)
    have := lastOf_bd r (a + (1 + x)) (fun y hy => h y (by simp [hy]))
    simp only [lastOf, List.length_cons]; omega
theorem runs_incr : ∀ (l : List Int) (a : Int), (∀ x ∈ l, 0 ≤ x ∧ x ≤ 255) → incr a (runs a l) = true
  | [], a, _ => rfl
  | x :: r, a, h => by
    have hx := h x (by simp)
    have := runs_incr r (a + (1 + x)) (fun y hy => h y (by simp [hy]))
    simp [runs, incr, this]; omega
theorem runs_last : ∀ (l : List Int) (a : Int), l ≠ [] → (runs a l).getD (l.length - 1) 0 = lastOf a l
  | [], _, h => absurd rfl h
  | [x], a, _ => by simp [runs, lastOf]
  | x :: y :: r, a, _ => by
    have := runs_last (y :: r) (a + (1 + x)) (by simp)
    simpa [runs, lastOf] using this
def scaleS (l : List Int) : List Int := if l = [] then [1] else runs 0 (l.take 50)
theorem scaleS_right (l : List Int) (h : ∀ x ∈ l, 0 ≤ x ∧ x ≤ 255) : RightB (scaleS l) = true ∧ (scaleS l).getD ((scaleS l).length - 1) 0 ≤ 12800 := by
  unfold scaleS
  split
  · exact ⟨rfl, by simp⟩
  · next hne =>
    have hne' : l.take 50 ≠ [] := by
      intro e
      have := congrArg List.length e
      simp at this
      exact hne this
    have h' : ∀ x ∈ l.take 50, 0 ≤ x ∧ x ≤ 255 := fun x hx => h x (List.mem_of_mem_take hx)
    have hlen : (l.take 50).length ≤ 50 := by simp; omega
    have hpos : 1 ≤ (l.take 50).length := by
      rcases Nat.eq_zero_or_pos (l.take 50).length with e | e
      · exact absurd (List.eq_nil_of_length_eq_zero e) hne'
      · exact e
    generalize l.take 50 = q at *
    have hl : (runs 0 q).getD ((runs 0 q).length - 1) 0 = lastOf 0 q := by rw [runs_len]; exact runs_last q 0 hne'
    have hb := lastOf_bd q 0 h'
    have hi := runs_incr q 0 h'
    refine ⟨?_, by rw [hl]; omega⟩
    rw [RightB_rest _ (by rw [runs_len]; exact hpos) (by rw [runs_len]; exact hlen) (by rw [hl]; omega)]
    exact hi

/-- the sums of the points of both teams -/
def totN (xs : List Int) (ms : List Int) : Int := (ms.map (ptsN xs)).sum
def mOk (m : Int) : Bool := decide (-1000000 ≤ m) && decide (m ≤ 1000000)
theorem totN_snoc (xs ms : List Int) (m : Int) : totN xs (ms ++ [m]) = totN xs ms + ptsN xs m := by simp [totN]
theorem totN_app (xs ms ns : List Int) : totN xs (ms ++ ns) = totN xs ms + totN xs ns := by simp [totN]
theorem totN_bd (xs : List Int) : ∀ ms : List Int, xs.length ≤ 50 → -(50 * (ms.length : Int)) ≤ totN xs ms ∧ totN xs ms ≤ 50 * ms.length
  | [], _ => by simp [totN]
  | m :: ms, h => by
    have h1 := totN_bd xs ms h
    have h2 := ptsN_le xs m
    have e : totN xs (m :: ms) = ptsN xs m + totN xs ms := by simp [totN]
    rw [e, List.length_cons]; omega
theorem mul_succ_int (n k : Nat) : ((n * (k + 1) : Nat) : Int) = (n * k : Nat) + n := by rw [Nat.mul_succ]; omega
theorem mul_bd {n k : Nat} (hn : n ≤ 50) (hk : k ≤ 1000000) : n * k ≤ 50000000 := Nat.mul_le_mul hn hk
end Go.Proofs.Ytknhdojciihjlaa
