import Derived.Test.YtandanbojfdfjaaDoorWritten
namespace Go.Proofs.YtandanbojfdfjaaDoor

/-! Plain facts on a log that is cut, or changed -/
/-- the length of the first j lines -/
def lenN (l : List Bs) (j : Nat) : Nat := (logB 1 (l.take j)).length
theorem lenN_zero (l : List Bs) : lenN l 0 = 0 := rfl
theorem lenN_all {l : List Bs} {j : Nat} (h : l.length ≤ j) : lenN l j = (logB 1 l).length := by unfold lenN; rw [List.take_of_length_le h]
theorem log_split (l : List Bs) (j : Nat) : logB 1 l = logB 1 (l.take j) ++ logB (St.zero.adds (l.take j)).last (l.drop j) := by
  have := logB_app (l.take j) (l.drop j) .zero
  rw [List.take_append_drop] at this
  exact this
theorem log_at {l : List Bs} {j : Nat} (h : j < l.length) : logB 1 l = logB 1 (l.take j) ++ (lin (St.zero.adds (l.take j)).last (l.getD j []) ++ logB (chk (St.zero.adds (l.take j)).last (l.getD j [])) (l.drop (j + 1))) := by
  rw [log_split l j, List.drop_eq_getElem_cons h]
  have : l.getD j [] = l[j] := by simp [h]
  rw [this]; rfl
theorem lenN_succ {l : List Bs} {j : Nat} (h : j < l.length) : lenN l (j + 1) = lenN l j + ((l.getD j []).length + 6) := by
  unfold lenN
  rw [take_one [] h, show logB 1 (l.take j ++ [l.getD j []]) = logB 1 (l.take j) ++ lin (St.zero.adds (l.take j)).last (l.getD j []) from logB_snoc _ _ .zero, List.length_append, lin_len]
theorem lenN_mono {l : List Bs} : ∀ {i j : Nat}, i ≤ j → lenN l i ≤ lenN l j := by
  intro i j h
  unfold lenN
  obtain ⟨k, rfl⟩ := Nat.exists_eq_add_of_le h
  have e : logB 1 (l.take i ++ (l.drop i).take k) = logB 1 (l.take i) ++ logB (St.zero.adds (l.take i)).last ((l.drop i).take k) := logB_app _ _ .zero
  rw [List.take_add, e, List.length_append]
  omega
theorem lenN_le (l : List Bs) (j : Nat) : lenN l j ≤ (logB 1 l).length := by
  rw [log_split l j, List.length_append]; unfold lenN; omega
theorem not_take {l : Bs} {c : UInt8} (h : c ∉ l) (k : Nat) : c ∉ l.take k := fun hm => h (List.mem_of_mem_take hm)

/-- the last line that ends at n or before -/
def Upto (l : List Bs) (n k j : Nat) : Prop := j ≤ k ∧ lenN l j ≤ n ∧ ∀ i, j ≤ i → i < k → n < lenN l (i + 1)
theorem Upto.zero (l : List Bs) (n : Nat) : Upto l n 0 0 := ⟨Nat.le_refl _, by rw [lenN_zero]; omega, fun i _ h => by omega⟩
theorem Upto.take {l : List Bs} {n k j : Nat} (_ : Upto l n k j) (hn : lenN l (k + 1) ≤ n) : Upto l n (k + 1) (k + 1) := ⟨Nat.le_refl _, hn, fun i h1 h2 => by omega⟩
theorem Upto.leave {l : List Bs} {n k j : Nat} (h : Upto l n k j) (hn : n < lenN l (k + 1)) : Upto l n (k + 1) j := by
  refine ⟨by have := h.1; omega, h.2.1, fun i h1 h2 => ?_⟩
  rcases Nat.lt_or_ge i k with hi | hi
  · exact h.2.2 i h1 hi
  · obtain rfl : i = k := by omega
    exact hn
theorem cut_scan {l : List Bs} {n j : Nat} (hl : ∀ t ∈ l, recB t = true) (hn : n ≤ (logB 1 l).length) (h : Upto l n l.length j) :
    scanS ((logB 1 l).take n) = (St.zero.adds (l.take j), if lenN l j = n then 0 else 1) := by
  obtain ⟨h1, h2, h3⟩ := h
  have hl' : ∀ t ∈ l.take j, recB t = true := fun t ht => hl t (List.mem_of_mem_take ht)
  have hcut : ∃ y, (logB 1 l).take n = logB 1 (l.take j) ++ y ∧ (10 : UInt8) ∉ y ∧ y.length = n - lenN l j := by
    rcases Nat.lt_or_ge j l.length with hj | hj
    · have h4 := h3 j (Nat.le_refl _) hj
      rw [lenN_succ hj] at h4
      refine ⟨(lin0 (St.zero.adds (l.take j)).last (l.getD j [])).take (n - lenN l j), ?_, not_take (lin0_ne (hl _ (getD_in _ hj))) _, ?_⟩
      · rw [log_at hj, List.take_append, List.take_of_length_le (by exact h2), show (logB 1 (l.take j)).length = lenN l j from rfl, lin_eq, List.append_assoc, List.take_append_of_le_length (by rw [lin0_len]; omega)]
      · rw [List.length_take, lin0_len]; omega
    · have e : lenN l j = (logB 1 l).length := lenN_all hj
      refine ⟨[], ?_, by simp, by simp; omega⟩
      rw [List.take_of_length_le (by omega), List.take_of_length_le hj, List.append_nil]
  obtain ⟨y, e1, e2, e3⟩ := hcut
  rw [e1]
  by_cases hy : lenN l j = n
  · rw [if_pos hy]
    have : y = [] := List.eq_nil_of_length_eq_zero (by omega)
    subst this
    rw [List.append_nil, scan_all _ hl']
  · rw [if_neg hy, scan_part _ hl' (fun e => by subst e; simp at e3; omega) e2]
end Go.Proofs.YtandanbojfdfjaaDoor

namespace Go.Proofs.YtandanbojfdfjaaDoor

/-! Plain facts on a log whose power ends -/
def KeepA (l : List Bs) (p k : Nat) (n : Int) (b : Bs) (pw : Int) (s : St) (cl : Bool) : Prop :=
  n = k ∧ b = logB 1 (l.take k) ∧ pw = (p : Int) - lenN l k ∧ lenN l k ≤ p ∧ s = St.zero.adds (l.take k) ∧ cl = false
def KeepB (l : List Bs) (k : Nat) (n : Int) (b : Bs) (pw : Int) (s : St) (cl : Bool) : Prop :=
  ∃ (m : Nat) (y : Bs), m ≤ k ∧ n = -1 - (m : Int) ∧ b = logB 1 (l.take m) ++ y ∧ (10 : UInt8) ∉ y ∧ y.length ≤ 66 ∧ pw = 0 ∧ s = St.zero.adds (l.take m) ∧ cl = true

theorem keep_zero (l : List Bs) (p : Nat) : KeepA l p 0 0 [] p .zero false := ⟨rfl, rfl, by rw [lenN_zero]; omega, by rw [lenN_zero]; omega, rfl, rfl⟩
theorem keep_ok {l : List Bs} {p k : Nat} {n : Int} {b : Bs} {pw : Int} {s : St} {cl : Bool} (h : KeepA l p k n b pw s cl) (hl : Few l) (hk : k < l.length) (hp : lenN l (k + 1) ≤ p) :
    ∃ b' pw' s', appR b pw s cl (l.getD k []) = (0, b', pw', s', false) ∧ KeepA l p (k + 1) (n + 1) b' pw' s' false := by
  obtain ⟨rfl, rfl, rfl, h4, rfl, rfl⟩ := h
  have h1 := (hl.take k).log
  have h2 := hl.len _ (getD_in [] hk)
  have h3 := hl.okr _ (getD_in [] hk)
  have h5 := lenN_succ hk
  have e : logB 1 (l.take k ++ [l.getD k []]) = logB 1 (l.take k) ++ lin (St.zero.adds (l.take k)).last (l.getD k []) := logB_snoc _ _ .zero
  refine ⟨_, _, _, ?_, by omega, rfl, rfl, hp, rfl, rfl⟩
  unfold appR
  have u1 : useR ((p : Int) - lenN l k) ((l.getD k []).length + 6) = (l.getD k []).length + 6 := by unfold useR; rw [if_neg (by omega)]; omega
  have u2 : useL ((p : Int) - lenN l k) ((l.getD k []).length + 6) = (p : Int) - lenN l (k + 1) := by unfold useL; rw [if_neg (by omega)]; omega
  rw [if_neg (by decide), if_neg (by rw [h3]; decide), if_neg (by omega), u1, u2, if_neg (by omega), take_one [] hk, e, St.adds_snoc]
theorem keep_fail {l : List Bs} {p k : Nat} {n : Int} {b : Bs} {pw : Int} {s : St} {cl : Bool} (h : KeepA l p k n b pw s cl) (hl : Few l) (hk : k < l.length) (hp : p < lenN l (k + 1)) :
    ∃ b', appR b pw s cl (l.getD k []) = (420, b', 0, s, true) ∧ KeepB l (k + 1) (-1 - n) b' 0 s true := by
  obtain ⟨rfl, rfl, rfl, h4, rfl, rfl⟩ := h
  have h1 := (hl.take k).log
  have h2 := hl.len _ (getD_in [] hk)
  have h3 := hl.okr _ (getD_in [] hk)
  have h5 := lenN_succ hk
  refine ⟨_, ?_, k, (lin0 (St.zero.adds (l.take k)).last (l.getD k [])).take (p - lenN l k), by omega, rfl, rfl, not_take (lin0_ne h3) _, by rw [List.length_take, lin0_len]; omega, rfl, rfl, rfl⟩
  unfold appR
  have u1 : useR ((p : Int) - lenN l k) ((l.getD k []).length + 6) = p - lenN l k := by unfold useR; rw [if_neg (by omega)]; omega
  have u2 : useL ((p : Int) - lenN l k) ((l.getD k []).length + 6) = 0 := by unfold useL; rw [if_neg (by omega)]; omega
  rw [if_neg (by decide), if_neg (by rw [h3]; decide), if_neg (by omega), u1, u2, if_pos (by omega), lin_eq, List.take_append_of_le_length (by rw [lin0_len]; omega)]
theorem keep_closed {l : List Bs} {k : Nat} {n : Int} {b : Bs} {pw : Int} {s : St} {cl : Bool} (h : KeepB l k n b pw s cl) (t : Bs) :
    appR b pw s cl t = (423, b, 0, s, true) ∧ KeepB l (k + 1) n b 0 s true := by
  obtain ⟨m, y, h1, h2, h3, h4, h5, rfl, h7, rfl⟩ := h
  exact ⟨by unfold appR; rw [if_pos rfl], m, y, by omega, h2, h3, h4, h5, rfl, h7, rfl⟩
theorem open_part {l : List Bs} {y : Bs} (m : Nat) (hl : Few l) (hy : (10 : UInt8) ∉ y) (hlen : y.length ≤ 66) :
    openR (logB 1 (l.take m) ++ y) (-1) = (some (St.zero.adds (l.take m)), 0, logB 1 (l.take m), -1) := by
  have h1 := (hl.take m).log
  have hr := (hl.take m).okr
  have hs : (St.zero.adds (l.take m)).size = (logB 1 (l.take m)).length := by rw [adds_size]; simp [St.zero]
  unfold openR
  rw [if_neg (by rw [List.length_append]; omega)]
  by_cases h0 : y = []
  · subst h0
    rw [List.append_nil, scan_all _ hr]
    rfl
  · rw [scan_part _ hr h0 hy, if_neg (show ¬ ((1 : Nat) = 2) by decide)]
    have : cutR 1 (logB 1 (l.take m) ++ y) (-1) (St.zero.adds (l.take m)).size = (0, logB 1 (l.take m), -1) := by
      unfold cutR
      rw [if_neg (by decide), if_neg (by decide), hs, List.take_left]
      rfl
    simp only [this, if_true]
theorem Few.snoc {l : List Bs} {t : Bs} (h : Few l) (hn : l.length < 20) (h1 : recB t = true) (h2 : t.length ≤ 60) : Few (l ++ [t]) := by
  refine ⟨fun u hu => ?_, fun u hu => ?_, by simp; omega⟩ <;> rcases List.mem_append.1 hu with hu | hu
  · exact h.okr _ hu
  · obtain rfl : u = t := by simpa using hu
    exact h1
  · exact h.len _ hu
  · obtain rfl : u = t := by simpa using hu
    exact h2
theorem app_last {l : List Bs} {t : Bs} (h : Few (l ++ [t])) : appR (logB 1 l) (-1) (St.zero.adds l) false t = (0, logB 1 (l ++ [t]), -1, St.zero.adds (l ++ [t]), false) := by
  have h1 := h.okr t (by simp)
  have h2 := h.log
  have e : logB 1 (l ++ [t]) = logB 1 l ++ lin (St.zero.adds l).last t := logB_snoc _ _ .zero
  have hl : (logB 1 l).length + (t.length + 6) ≤ 1320 := by rw [e, List.length_append, lin_len] at h2; exact h2
  rw [app_free h1 (by omega), e, St.adds_snoc]
end Go.Proofs.YtandanbojfdfjaaDoor

namespace Go.Proofs.YtandanbojfdfjaaDoor

/-! Plain facts on a log in which one byte is another one -/
theorem upto_lt {l : List Bs} {n j : Nat} (hn : n < (logB 1 l).length) (h : Upto l n l.length j) : j < l.length := by
  rcases Nat.lt_or_ge j l.length with hj | hj
  · exact hj
  · have := lenN_all hj
    have := h.2.1
    omega
theorem one_scan {l : List Bs} {n j : Nat} {dd : UInt8} (hl : ∀ t ∈ l, recB t = true) (hn : n < (logB 1 l).length) (h : Upto l n l.length j) (h10 : (logB 1 l).getD n 0 ≠ 10) (hto : dd ≠ 10) (hne : (logB 1 l).getD n 0 ≠ dd) :
    (∃ r, (logB 1 l).set n dd = logB 1 (l.take j) ++ r) ∧ scanS ((logB 1 l).set n dd) = (St.zero.adds (l.take j), 2) := by
  have hj := upto_lt hn h
  obtain ⟨h1, h2, h3⟩ := h
  have h4 := h3 j (Nat.le_refl _) hj
  rw [lenN_succ hj] at h4
  have hr := hl _ (getD_in [] hj)
  have hl' : ∀ t ∈ l.take j, recB t = true := fun t ht => hl t (List.mem_of_mem_take ht)
  have hx : (St.zero.adds (l.take j)).last < 9973 := adds_last _ _ (by decide)
  have e := log_at hj
  generalize l.getD j [] = t at *
  generalize logB (chk (St.zero.adds (l.take j)).last t) (l.drop (j + 1)) = R at *
  generalize hxx : (St.zero.adds (l.take j)).last = x at *
  have hP : (logB 1 (l.take j)).length = lenN l j := rfl
  generalize hPP : logB 1 (l.take j) = P at *
  rw [lin_eq, List.append_assoc] at e
  have hge : P.length ≤ n := by omega
  have hQ : (logB 1 l).getD n 0 = (lin0 x t ++ ([10] ++ R)).getD (n - P.length) 0 := by
    rw [e, List.getD_eq_getElem?_getD, List.getD_eq_getElem?_getD, List.getElem?_append_right hge]
  have h0 := lin0_len x t
  have hi : n - P.length < (lin0 x t).length := by
    rcases Nat.lt_or_ge (n - P.length) (lin0 x t).length with h | h
    · exact h
    · exfalso
      have : n - P.length = (lin0 x t).length := by omega
      rw [this] at hQ
      exact h10 (by rw [hQ, List.getD_eq_getElem?_getD, List.getElem?_append_right (Nat.le_refl _)]; simp)
  have hset : (logB 1 l).set n dd = P ++ ((lin0 x t).set (n - P.length) dd ++ 10 :: R) := by
    rw [e, List.set_append_right _ _ hge, List.set_append_left _ _ hi]; rfl
  refine ⟨⟨_, hset⟩, ?_⟩
  have hc : (logB 1 l).getD n 0 = (lin0 x t)[n - P.length] := by
    rw [hQ, List.getD_eq_getElem?_getD, List.getElem?_append_left hi]; simp [hi]
  have hy : (10 : UInt8) ∉ (lin0 x t).set (n - P.length) dd := fun hm => by
    rcases List.mem_or_eq_of_mem_set hm with hm | hm
    · exact lin0_ne hr hm
    · exact hto hm.symm
  have hb : goodB x ((lin0 x t).set (n - P.length) dd ++ [10]) = false := by
    rw [List.set_eq_take_append_cons_drop, if_pos hi]
    refine bad_set hx (t := t) (c := (lin0 x t)[n - P.length]) ?_ (by rw [← hc]; exact hne)
    rw [lin_eq]
    congr 1
    exact (by rw [List.getElem_cons_drop, List.take_append_drop])
  rw [hset]
  have := scan_bad _ R hl' hy (by rw [hxx]; exact hb)
  rwa [hPP] at this
theorem one_open {b : Bs} {s : St} (h : scanS b = (s, 2)) (hb : b.length ≤ 2000) (p : Int) : openR b p = (none, 421, b, p) := by
  unfold openR
  rw [if_neg (by omega), h, if_pos rfl]
theorem one_repair {b : Bs} {s : St} (h : scanS b = (s, 2)) (hb : b.length ≤ 2000) : repairR b 1 = (b.length - s.size, 0, b.take s.size, 0) := by
  unfold repairR
  rw [if_neg (by omega), h]
  have : cutR 2 b 1 s.size = (0, b.take s.size, 0) := by unfold cutR; rw [if_neg (by decide), if_neg (by decide)]; rfl
  simp only [this, if_true]
theorem open_whole {l : List Bs} (h : Few l) (p : Int) : openR (logB 1 l) p = (some (St.zero.adds l), 0, logB 1 l, p) := by
  have := h.log
  unfold openR
  rw [if_neg (by omega), scan_all _ h.okr]
  rfl
end Go.Proofs.YtandanbojfdfjaaDoor

namespace Go.Proofs.YtandanbojfdfjaaDoor

/-! Plain facts: two bytes exchanged, a line left out -/
theorem pair_set {P r : Bs} {c d : UInt8} : ((P ++ c :: d :: r).set P.length d).set (P.length + 1) c = P ++ d :: c :: r := by
  rw [List.set_append_right _ _ (Nat.le_refl _), List.set_append_right _ _ (by omega)]
  simp
theorem pair_get0 {P r : Bs} {c d : UInt8} : (P ++ c :: d :: r).getD P.length 0 = c := by
  rw [List.getD_eq_getElem?_getD, List.getElem?_append_right (Nat.le_refl _)]; simp
theorem pair_get1 {P r : Bs} {c d : UInt8} : (P ++ c :: d :: r).getD (P.length + 1) 0 = d := by
  rw [List.getD_eq_getElem?_getD, List.getElem?_append_right (by omega)]; simp
/-- the check before line i -/
def chN (l : List Bs) (i : Nat) : Nat := (St.zero.adds (l.take i)).last
theorem chN_lt (l : List Bs) (i : Nat) : chN l i < 9973 := adds_last _ _ (by decide)
theorem chN_succ {l : List Bs} {i : Nat} (h : i < l.length) : chN l (i + 1) = chk (chN l i) (l.getD i []) := by
  unfold chN
  rw [take_one [] h, St.adds_snoc]; rfl
theorem split_pair {t : Bs} {k : Nat} (h : k + 1 < t.length) : t = t.take k ++ t.getD k 0 :: t.getD (k + 1) 0 :: t.drop (k + 2) := by
  have e1 : t.getD k 0 = t[k] := by simp [show k < t.length by omega]
  have e2 : t.getD (k + 1) 0 = t[k + 1] := by simp [h]
  rw [e1, e2]
  have h3 : t.drop k = t[k] :: t.drop (k + 1) := List.drop_eq_getElem_cons (by omega)
  have h4 : t.drop (k + 1) = t[k + 1] :: t.drop (k + 2) := List.drop_eq_getElem_cons h
  rw [← h4, ← h3, List.take_append_drop]
theorem swap_scan {l : List Bs} {i k : Nat} (hl : ∀ t ∈ l, recB t = true) (hi : i < l.length) (hk : k + 1 < (l.getD i []).length) (hne : (l.getD i []).getD k 0 ≠ (l.getD i []).getD (k + 1) 0) :
    scanS (((logB 1 l).set (lenN l i + 5 + k) ((logB 1 l).getD (lenN l i + 6 + k) 0)).set (lenN l i + 6 + k) ((logB 1 l).getD (lenN l i + 5 + k) 0)) = (St.zero.adds (l.take i), 2) := by
  have hr := hl _ (getD_in [] hi)
  have hl' : ∀ t ∈ l.take i, recB t = true := fun t ht => hl t (List.mem_of_mem_take ht)
  have hx : chN l i < 9973 := chN_lt l i
  have e := log_at hi
  rw [show (St.zero.adds (l.take i)).last = chN l i from rfl] at e
  generalize hR : logB (chk (chN l i) (l.getD i [])) (l.drop (i + 1)) = R at e
  generalize l.getD i [] = t at *
  have ht := split_pair hk
  have hlk : (t.take k).length = k := by rw [List.length_take]; omega
  generalize t.take k = a at *
  generalize t.getD k 0 = c at *
  generalize t.getD (k + 1) 0 = d at *
  generalize t.drop (k + 2) = b at *
  have e2 : logB 1 l = (logB 1 (l.take i) ++ (four (chk (chN l i) t) ++ [32]) ++ a) ++ c :: d :: (b ++ 10 :: R) := by
    rw [e]
    unfold lin
    conv => lhs; rw [show four (chk (chN l i) t) ++ [32] ++ t ++ [10] = four (chk (chN l i) t) ++ [32] ++ (a ++ c :: d :: b) ++ [10] by rw [← ht]]
    simp
  have hP : (logB 1 (l.take i) ++ (four (chk (chN l i) t) ++ [32]) ++ a).length = lenN l i + 5 + k := by
    simp [four, hlk, lenN]; omega
  have h6 : lenN l i + 6 + k = (logB 1 (l.take i) ++ (four (chk (chN l i) t) ++ [32]) ++ a).length + 1 := by omega
  rw [h6, ← hP]
  have hg0 := pair_get0 (P := logB 1 (l.take i) ++ (four (chk (chN l i) t) ++ [32]) ++ a) (r := b ++ 10 :: R) (c := c) (d := d)
  have hg1 := pair_get1 (P := logB 1 (l.take i) ++ (four (chk (chN l i) t) ++ [32]) ++ a) (r := b ++ 10 :: R) (c := c) (d := d)
  have hps := pair_set (P := logB 1 (l.take i) ++ (four (chk (chN l i) t) ++ [32]) ++ a) (r := b ++ 10 :: R) (c := c) (d := d)
  rw [← e2] at hg0 hg1 hps
  rw [hg0, hg1, hps]
  have hb := bad_swap (x := chN l i) hx (a := a) (b := b) hne
  rw [← ht] at hb
  have hy : (10 : UInt8) ∉ four (chk (chN l i) t) ++ [32] ++ (a ++ d :: c :: b) := by
    have h0 := lin0_ne (x := chN l i) hr
    unfold lin0 at h0
    intro hm
    have ht' : ∀ z, z ∈ a ++ d :: c :: b → z ∈ t := by
      intro z hz
      rw [ht]
      simp only [List.mem_append, List.mem_cons] at hz ⊢
      rcases hz with h | h | h | h <;> simp [h]
    rcases List.mem_append.1 hm with h | h
    · exact h0 (List.mem_append_left _ h)
    · exact h0 (List.mem_append_right _ (ht' _ h))
  have := scan_bad (l.take i) R hl' hy hb
  simpa using this
theorem four_at {l : List Bs} {i : Nat} (hi : i < l.length) : ((logB 1 l).drop (lenN l i)).take 4 = four (chN l (i + 1)) := by
  rw [chN_succ hi, log_at hi, show lenN l i = (logB 1 (l.take i)).length from rfl, List.drop_left, List.take_append_of_le_length (by rw [lin_len]; omega)]
  simp [lin, four, chN]
theorem left_scan {l : List Bs} {i : Nat} (hl : ∀ t ∈ l, recB t = true) (hi : i + 1 < l.length) (hne : chN l i ≠ chN l (i + 1)) :
    scanS ((logB 1 l).take (lenN l i) ++ (logB 1 l).drop (lenN l (i + 1))) = (St.zero.adds (l.take i), 2) := by
  have hl' : ∀ t ∈ l.take i, recB t = true := fun t ht => hl t (List.mem_of_mem_take ht)
  have hr := hl _ (getD_in [] hi)
  have e1 : (logB 1 l).take (lenN l i) = logB 1 (l.take i) := by rw [log_split l i]; exact List.take_left
  have e2 : (logB 1 l).drop (lenN l (i + 1)) = lin0 (chN l (i + 1)) (l.getD (i + 1) []) ++ 10 :: logB (chk (chN l (i + 1)) (l.getD (i + 1) [])) (l.drop (i + 1 + 1)) := by
    rw [log_at hi, show lenN l (i + 1) = (logB 1 (l.take (i + 1))).length from rfl, List.drop_left, lin_eq, List.append_assoc]; rfl
  rw [e1, e2]
  exact scan_bad _ _ hl' (lin0_ne hr) (bad_left (chN_lt l i) (chN_lt l (i + 1)) hne _)
end Go.Proofs.YtandanbojfdfjaaDoor
