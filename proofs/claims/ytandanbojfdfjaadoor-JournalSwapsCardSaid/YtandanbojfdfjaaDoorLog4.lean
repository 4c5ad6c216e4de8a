import Derived.Test.YtandanbojfdfjaaDoorLog3
namespace Go.Proofs.YtandanbojfdfjaaDoor

/-! Plain facts on a log in which one byte is another one -/
theorem upto_lt {l : List Bs} {n j : Nat} (hn : n < (logB 1 l).length) (h : Upto l n l.length j) : j < l.length := by
  rcases Nat.lt_or_ge j l.length with hj | hj
  · exact hj
  · have := lenN_all hj
    have := h.2.1
    omega
theorem one_scan {l : List Bs} {n j : Nat} {dd : UInt8} (hl : ∀ t ∈ l, recB t = true) (hn : n < (logB 1 l).length) (h : Upto l n l.length j) (h10 : (logB 1 l).getD n 0 ≠ 10) (hto : dd ≠ 10) (hne : (logB 1 l).getD n 0 ≠ dd) :
    (∃ r, (logB 1 l).set n dd = logB 1 (l.take j) ++ r) ∧ scanS ((logB 1 l).set n dd) = (St.zero.adds (l.take j), 2) := by
  have hj := upto_lt hn h
  obtain ⟨h1, h2, h3⟩ := h
  have h4 := h3 j (Nat.le_refl _) hj
  rw [lenN_succ hj] at h4
  have hr := hl _ (getD_in [] hj)
  have hl' : ∀ t ∈ l.take j, recB t = true := fun t ht => hl t (List.mem_of_mem_take ht)
  have hx : (St.zero.adds (l.take j)).last < 9973 := adds_last _ _ (by decide)
  have e := log_at hj
  generalize l.getD j [] = t at *
  generalize logB (chk (St.zero.adds (l.take j)).last t) (l.drop (j + 1)) = R at *
  generalize hxx : (St.zero.adds (l.take j)).last = x at *
  have hP : (logB 1 (l.take j)).length = lenN l j := rfl
  generalize hPP : logB 1 (l.take j) = P at *
  rw [lin_eq, List.append_assoc] at e
  have hge : P.length ≤ n := by omega
  have hQ : (logB 1 l).getD n 0 = (lin0 x t ++ ([10] ++ R)).getD (n - P.length) 0 := by
    rw [e, List.getD_eq_getElem?_getD, List.getD_eq_getElem?_getD, List.getElem?_append_right hge]
  have h0 := lin0_len x t
  have hi : n - P.length < (lin0 x t).length := by
    rcases Nat.lt_or_ge (n - P.length) (lin0 x t).length with h | h
    · exact h
    · exfalso
      have : n - P.length = (lin0 x t).length := by omega
      rw [this] at hQ
      exact h10 (by rw [hQ, List.getD_eq_getElem?_getD, List.getElem?_append_right (Nat.le_refl _)]; simp)
  have hset : (logB 1 l).set n dd = P ++ ((lin0 x t).set (n - P.length) dd ++ 10 :: R) := by
    rw [e, List.set_append_right _ _ hge, List.set_append_left _ _ hi]; rfl
  refine ⟨⟨_, hset⟩, ?_⟩
  have hc : (logB 1 l).getD n 0 = (lin0 x t)[n - P.length] := by
    rw [hQ, List.getD_eq_getElem?_getD, List.getElem?_append_left hi]; simp [hi]
  have hy : (10 : UInt8) ∉ (lin0 x t).set (n - P.length) dd := fun hm => by
    rcases List.mem_or_eq_of_mem_set hm with hm | hm
    · exact lin0_ne hr hm
    · exact hto hm.symm
  have hb : goodB x ((lin0 x t).set (n - P.length) dd ++ [10]) = false := by
    rw [List.set_eq_take_append_cons_drop, if_pos hi]
    refine bad_set hx (t := t) (c := (lin0 x t)[n - P.length]) ?_ (by rw [← hc]; exact hne)
    rw [lin_eq]
    congr 1
    exact (by rw [List.getElem_cons_drop, List.take_append_drop])
  rw [hset]
  have := scan_bad _ R hl' hy (by rw [hxx]; exact hb)
  rwa [hPP] at this
theorem one_open {b : Bs} {s : St} (h : scanS b = (s, 2)) (hb : b.length ≤ 2000) (p : Int) : openR b p = (none, 421, b, p) := by
  unfold openR
  rw [if_neg (by omega), h, if_pos rfl]
theorem one_repair {b : Bs} {s : St} (h : scanS b = (s, 2)) (hb : b.length ≤ 2000) : repairR b 1 = (b.length - s.size, 0, b.take s.size, 0) := by
  unfold repairR
  rw [if_neg (by omega), h]
  have : cutR 2 b 1 s.size = (0, b.take s.size, 0) := by unfold cutR; rw [if_neg (by decide), if_neg (by decide)]; rfl
  simp only [this, if_true]
theorem open_whole {l : List Bs} (h : Few l) (p : Int) : openR (logB 1 l) p = (some (St.zero.adds l), 0, logB 1 l, p) := by
  have := h.log
  unfold openR
  rw [if_neg (by omega), scan_all _ h.okr]
  rfl
end Go.Proofs.YtandanbojfdfjaaDoor
