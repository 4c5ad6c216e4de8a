import Derived.Test.YtandanbojfdfjaaDoorWritten
namespace Go.Proofs.YtandanbojfdfjaaDoor

/-! Plain facts on a log that is cut, or changed -/
/-- the length of the first j lines -/
def lenN (l : List Bs) (j : Nat) : Nat := (logB 1 (l.take j)).length
theorem lenN_zero (l : List Bs) : lenN l 0 = 0 := rfl
theorem lenN_all {l : List Bs} {j : Nat} (h : l.length ≤ j) : lenN l j = (logB 1 l).length := by unfold lenN; rw [List.take_of_length_le h]
theorem log_split (l : List Bs) (j : Nat) : logB 1 l = logB 1 (l.take j) ++ logB (St.zero.adds (l.take j)).last (l.drop j) := by
  have := logB_app (l.take j) (l.drop j) .zero
  rw [List.take_append_drop] at this
  exact this
theorem log_at {l : List Bs} {j : Nat} (h : j < l.length) : logB 1 l = logB 1 (l.take j) ++ (lin (St.zero.adds (l.take j)).last (l.getD j []) ++ logB (chk (St.zero.adds (l.take j)).last (l.getD j [])) (l.drop (j + 1))) := by
  rw [log_split l j, List.drop_eq_getElem_cons h]
  have : l.getD j [] = l[j] := by simp [h]
  rw [this]; rfl
theorem lenN_succ {l : List Bs} {j : Nat} (h : j < l.length) : lenN l (j + 1) = lenN l j + ((l.getD j []).length + 6) := by
  unfold lenN
  rw [take_one [] h, show logB 1 (l.take j ++ [l.getD j []]) = logB 1 (l.take j) ++ lin (St.zero.adds (l.take j)).last (l.getD j []) from logB_snoc _ _ .zero, List.length_append, lin_len]
theorem lenN_mono {l : List Bs} : ∀ {i j : Nat}, i ≤ j → lenN l i ≤ lenN l j := by
  intro i j h
  unfold lenN
  obtain ⟨k, rfl⟩ := Nat.exists_eq_add_of_le h
  have e : logB 1 (l.take i ++ (l.drop i).take k) = logB 1 (l.take i) ++ logB (St.zero.adds (l.take i)).last ((l.drop i).take k) := logB_app _ _ .zero
  rw [List.take_add, e, List.length_append]
  omega
theorem lenN_le (l : List Bs) (j : Nat) : lenN l j ≤ (logB 1 l).length := by
  rw [log_split l j, List.length_append]; unfold lenN; omega
theorem not_take {l : Bs} {c : UInt8} (h : c ∉ l) (k : Nat) : c ∉ l.take k := fun hm => h (List.mem_of_mem_take hm)

/-- the last line that ends at n or before -/
def Upto (l : List Bs) (n k j : Nat) : Prop := j ≤ k ∧ lenN l j ≤ n ∧ ∀ i, j ≤ i → i < k → n < lenN l (i + 1)
theorem Upto.zero (l : List Bs) (n : Nat) : Upto l n 0 0 := ⟨Nat.le_refl _, by rw [lenN_zero]; omega, fun i _ h => by omega⟩
theorem Upto.take {l : List Bs} {n k j : Nat} (_ : Upto l n k j) (hn : lenN l (k + 1) ≤ n) : Upto l n (k + 1) (k + 1) := ⟨Nat.le_refl _, hn, fun i h1 h2 => by omega⟩
theorem Upto.leave {l : List Bs} {n k j : Nat} (h : Upto l n k j) (hn : n < lenN l (k + 1)) : Upto l n (k + 1) j := by
  refine ⟨by have := h.1; omega, h.2.1, fun i h1 h2 => ?_⟩
  rcases Nat.lt_or_ge i k with hi | hi
  · exact h.2.2 i h1 hi
  · obtain rfl : i = k := by omega
    exact hn
theorem cut_scan {l : List Bs} {n j : Nat} (hl : ∀ t ∈ l, recB t = true) (hn : n ≤ (logB 1 l).length) (h : Upto l n l.length j) :
    scanS ((logB 1 l).take n) = (St.zero.adds (l.take j), if lenN l j = n then 0 else 1) := by
  obtain ⟨h1, h2, h3⟩ := h
  have hl' : ∀ t ∈ l.take j, recB t = true := fun t ht => hl t (List.mem_of_mem_take ht)
  have hcut : ∃ y, (logB 1 l).take n = logB 1 (l.take j) ++ y ∧ (10 : UInt8) ∉ y ∧ y.length = n - lenN l j := by
    rcases Nat.lt_or_ge j l.length with hj | hj
    · have h4 := h3 j (Nat.le_refl _) hj
      rw [lenN_succ hj] at h4
      refine ⟨(lin0 (St.zero.adds (l.take j)).last (l.getD j [])).take (n - lenN l j), ?_, not_take (lin0_ne (hl _ (getD_in _ hj))) _, ?_⟩
      · rw [log_at hj, List.take_append, List.take_of_length_le (by exact h2), show (logB 1 (l.take j)).length = lenN l j from rfl, lin_eq, List.append_assoc, List.take_append_of_le_length (by rw [lin0_len]; omega)]
      · rw [List.length_take, lin0_len]; omega
    · have e : lenN l j = (logB 1 l).length := lenN_all hj
      refine ⟨[], ?_, by simp, by simp; omega⟩
      rw [List.take_of_length_le (by omega), List.take_of_length_le hj, List.append_nil]
  obtain ⟨y, e1, e2, e3⟩ := hcut
  rw [e1]
  by_cases hy : lenN l j = n
  · rw [if_pos hy]
    have : y = [] := List.eq_nil_of_length_eq_zero (by omega)
    subst this
    rw [List.append_nil, scan_all _ hl']
  · rw [if_neg hy, scan_part _ hl' (fun e => by subst e; simp at e3; omega) e2]
end Go.Proofs.YtandanbojfdfjaaDoor
