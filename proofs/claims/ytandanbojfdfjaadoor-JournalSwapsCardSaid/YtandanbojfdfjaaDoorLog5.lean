import Derived.Test.YtandanbojfdfjaaDoorLog4
namespace Go.Proofs.YtandanbojfdfjaaDoor

/-! Plain facts: two bytes exchanged, a line left out -/
theorem pair_set {P r : Bs} {c d : UInt8} : ((P ++ c :: d :: r).set P.length d).set (P.length + 1) c = P ++ d :: c :: r := by
  rw [List.set_append_right _ _ (Nat.le_refl _), List.set_append_right _ _ (by omega)]
  simp
theorem pair_get0 {P r : Bs} {c d : UInt8} : (P ++ c :: d :: r).getD P.length 0 = c := by
  rw [List.getD_eq_getElem?_getD, List.getElem?_append_right (Nat.le_refl _)]; simp
theorem pair_get1 {P r : Bs} {c d : UInt8} : (P ++ c :: d :: r).getD (P.length + 1) 0 = d := by
  rw [List.getD_eq_getElem?_getD, List.getElem?_append_right (by omega)]; simp
/-- the check before line i -/
def chN (l : List Bs) (i : Nat) : Nat := (St.zero.adds (l.take i)).last
theorem chN_lt (l : List Bs) (i : Nat) : chN l i < 9973 := adds_last _ _ (by decide)
theorem chN_succ {l : List Bs} {i : Nat} (h : i < l.length) : chN l (i + 1) = chk (chN l i) (l.getD i []) := by
  unfold chN
  rw [take_one [] h, St.adds_snoc]; rfl
theorem split_pair {t : Bs} {k : Nat} (h : k + 1 < t.length) : t = t.take k ++ t.getD k 0 :: t.getD (k + 1) 0 :: t.drop (k + 2) := by
  have e1 : t.getD k 0 = t[k] := by simp [show k < t.length by omega]
  have e2 : t.getD (k + 1) 0 = t[k + 1] := by simp [h]
  rw [e1, e2]
  have h3 : t.drop k = t[k] :: t.drop (k + 1) := List.drop_eq_getElem_cons (by omega)
  have h4 : t.drop (k + 1) = t[k + 1] :: t.drop (k + 2) := List.drop_eq_getElem_cons h
  rw [← h4, ← h3, List.take_append_drop]
theorem swap_scan {l : List Bs} {i k : Nat} (hl : ∀ t ∈ l, recB t = true) (hi : i < l.length) (hk : k + 1 < (l.getD i []).length) (hne : (l.getD i []).getD k 0 ≠ (l.getD i []).getD (k + 1) 0) :
    scanS (((logB 1 l).set (lenN l i + 5 + k) ((logB 1 l).getD (lenN l i + 6 + k) 0)).set (lenN l i + 6 + k) ((logB 1 l).getD (lenN l i + 5 + k) 0)) = (St.zero.adds (l.take i), 2) := by
  have hr := hl _ (getD_in [] hi)
  have hl' : ∀ t ∈ l.take i, recB t = true := fun t ht => hl t (List.mem_of_mem_take ht)
  have hx : chN l i < 9973 := chN_lt l i
  have e := log_at hi
  rw [show (St.zero.adds (l.take i)).last = chN l i from rfl] at e
  generalize hR : logB (chk (chN l i) (l.getD i [])) (l.drop (i + 1)) = R at e
  generalize l.getD i [] = t at *
  have ht := split_pair hk
  have hlk : (t.take k).length = k := by rw [List.length_take]; omega
  generalize t.take k = a at *
  generalize t.getD k 0 = c at *
  generalize t.getD (k + 1) 0 = d at *
  generalize t.drop (k + 2) = b at *
  have e2 : logB 1 l = (logB 1 (l.take i) ++ (four (chk (chN l i) t) ++ [32]) ++ a) ++ c :: d :: (b ++ 10 :: R) := by
    rw [e]
    unfold lin
    conv => lhs; rw [show four (chk (chN l i) t) ++ [32] ++ t ++ [10] = four (chk (chN l i) t) ++ [32] ++ (a ++ c :: d :: b) ++ [10] by rw [← ht]]
    simp
  have hP : (logB 1 (l.take i) ++ (four (chk (chN l i) t) ++ [32]) ++ a).length = lenN l i + 5 + k := by
    simp [four, hlk, lenN]; omega
  have h6 : lenN l i + 6 + k = (logB 1 (l.take i) ++ (four (chk (chN l i) t) ++ [32]) ++ a).length + 1 := by omega
  rw [h6, ← hP]
  have hg0 := pair_get0 (P := logB 1 (l.take i) ++ (four (chk (chN l i) t) ++ [32]) ++ a) (r := b ++ 10 :: R) (c := c) (d := d)
  have hg1 := pair_get1 (P := logB 1 (l.take i) ++ (four (chk (chN l i) t) ++ [32]) ++ a) (r := b ++ 10 :: R) (c := c) (d := d)
  have hps := pair_set (P := logB 1 (l.take i) ++ (four (chk (chN l i) t) ++ [32]) ++ a) (r := b ++ 10 :: R) (c := c) (d := d)
  rw [← e2] at hg0 hg1 hps
  rw [hg0, hg1, hps]
  have hb := bad_swap (x := chN l i) hx (a := a) (b := b) hne
  rw [← ht] at hb
  have hy : (10 : UInt8) ∉ four (chk (chN l i) t) ++ [32] ++ (a ++ d :: c :: b) := by
    have h0 := lin0_ne (x := chN l i) hr
    unfold lin0 at h0
    intro hm
    have ht' : ∀ z, z ∈ a ++ d :: c :: b → z ∈ t := by
      intro z hz
      rw [ht]
      simp only [List.mem_append, List.mem_cons] at hz ⊢
      rcases hz with h | h | h | h <;> simp [h]
    rcases List.mem_append.1 hm with h | h
    · exact h0 (List.mem_append_left _ h)
    · exact h0 (List.mem_append_right _ (ht' _ h))
  have := scan_bad (l.take i) R hl' hy hb
  simpa using this
theorem four_at {l : List Bs} {i : Nat} (hi : i < l.length) : ((logB 1 l).drop (lenN l i)).take 4 = four (chN l (i + 1)) := by
  rw [chN_succ hi, log_at hi, show lenN l i = (logB 1 (l.take i)).length from rfl, List.drop_left, List.take_append_of_le_length (by rw [lin_len]; omega)]
  simp [lin, four, chN]
theorem left_scan {l : List Bs} {i : Nat} (hl : ∀ t ∈ l, recB t = true) (hi : i + 1 < l.length) (hne : chN l i ≠ chN l (i + 1)) :
    scanS ((logB 1 l).take (lenN l i) ++ (logB 1 l).drop (lenN l (i + 1))) = (St.zero.adds (l.take i), 2) := by
  have hl' : ∀ t ∈ l.take i, recB t = true := fun t ht => hl t (List.mem_of_mem_take ht)
  have hr := hl _ (getD_in [] hi)
  have e1 : (logB 1 l).take (lenN l i) = logB 1 (l.take i) := by rw [log_split l i]; exact List.take_left
  have e2 : (logB 1 l).drop (lenN l (i + 1)) = lin0 (chN l (i + 1)) (l.getD (i + 1) []) ++ 10 :: logB (chk (chN l (i + 1)) (l.getD (i + 1) [])) (l.drop (i + 1 + 1)) := by
    rw [log_at hi, show lenN l (i + 1) = (logB 1 (l.take (i + 1))).length from rfl, List.drop_left, lin_eq, List.append_assoc]; rfl
  rw [e1, e2]
  exact scan_bad _ _ hl' (lin0_ne hr) (bad_left (chN_lt l i) (chN_lt l (i + 1)) hne _)
end Go.Proofs.YtandanbojfdfjaaDoor
