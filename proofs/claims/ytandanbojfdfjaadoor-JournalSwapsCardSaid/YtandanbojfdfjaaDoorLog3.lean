import Derived.Test.YtandanbojfdfjaaDoorLog2
namespace Go.Proofs.YtandanbojfdfjaaDoor

/-! Plain facts on a log whose power ends -/
def KeepA (l : List Bs) (p k : Nat) (n : Int) (b : Bs) (pw : Int) (s : St) (cl : Bool) : Prop :=
  n = k ∧ b = logB 1 (l.take k) ∧ pw = (p : Int) - lenN l k ∧ lenN l k ≤ p ∧ s = St.zero.adds (l.take k) ∧ cl = false
def KeepB (l : List Bs) (k : Nat) (n : Int) (b : Bs) (pw : Int) (s : St) (cl : Bool) : Prop :=
  ∃ (m : Nat) (y : Bs), m ≤ k ∧ n = -1 - (m : Int) ∧ b = logB 1 (l.take m) ++ y ∧ (10 : UInt8) ∉ y ∧ y.length ≤ 66 ∧ pw = 0 ∧ s = St.zero.adds (l.take m) ∧ cl = true

theorem keep_zero (l : List Bs) (p : Nat) : KeepA l p 0 0 [] p .zero false := ⟨rfl, rfl, by rw [lenN_zero]; omega, by rw [lenN_zero]; omega, rfl, rfl⟩
theorem keep_ok {l : List Bs} {p k : Nat} {n : Int} {b : Bs} {pw : Int} {s : St} {cl : Bool} (h : KeepA l p k n b pw s cl) (hl : Few l) (hk : k < l.length) (hp : lenN l (k + 1) ≤ p) :
    ∃ b' pw' s', appR b pw s cl (l.getD k []) = (0, b', pw', s', false) ∧ KeepA l p (k + 1) (n + 1) b' pw' s' false := by
  obtain ⟨rfl, rfl, rfl, h4, rfl, rfl⟩ := h
  have h1 := (hl.take k).log
  have h2 := hl.len _ (getD_in [] hk)
  have h3 := hl.okr _ (getD_in [] hk)
  have h5 := lenN_succ hk
  have e : logB 1 (l.take k ++ [l.getD k []]) = logB 1 (l.take k) ++ lin (St.zero.adds (l.take k)).last (l.getD k []) := logB_snoc _ _ .zero
  refine ⟨_, _, _, ?_, by omega, rfl, rfl, hp, rfl, rfl⟩
  unfold appR
  have u1 : useR ((p : Int) - lenN l k) ((l.getD k []).length + 6) = (l.getD k []).length + 6 := by unfold useR; rw [if_neg (by omega)]; omega
  have u2 : useL ((p : Int) - lenN l k) ((l.getD k []).length + 6) = (p : Int) - lenN l (k + 1) := by unfold useL; rw [if_neg (by omega)]; omega
  rw [if_neg (by decide), if_neg (by rw [h3]; decide), if_neg (by omega), u1, u2, if_neg (by omega), take_one [] hk, e, St.adds_snoc]
theorem keep_fail {l : List Bs} {p k : Nat} {n : Int} {b : Bs} {pw : Int} {s : St} {cl : Bool} (h : KeepA l p k n b pw s cl) (hl : Few l) (hk : k < l.length) (hp : p < lenN l (k + 1)) :
    ∃ b', appR b pw s cl (l.getD k []) = (420, b', 0, s, true) ∧ KeepB l (k + 1) (-1 - n) b' 0 s true := by
  obtain ⟨rfl, rfl, rfl, h4, rfl, rfl⟩ := h
  have h1 := (hl.take k).log
  have h2 := hl.len _ (getD_in [] hk)
  have h3 := hl.okr _ (getD_in [] hk)
  have h5 := lenN_succ hk
  refine ⟨_, ?_, k, (lin0 (St.zero.adds (l.take k)).last (l.getD k [])).take (p - lenN l k), by omega, rfl, rfl, not_take (lin0_ne h3) _, by rw [List.length_take, lin0_len]; omega, rfl, rfl, rfl⟩
  unfold appR
  have u1 : useR ((p : Int) - lenN l k) ((l.getD k []).length + 6) = p - lenN l k := by unfold useR; rw [if_neg (by omega)]; omega
  have u2 : useL ((p : Int) - lenN l k) ((l.getD k []).length + 6) = 0 := by unfold useL; rw [if_neg (by omega)]; omega
  rw [if_neg (by decide), if_neg (by rw [h3]; decide), if_neg (by omega), u1, u2, if_pos (by omega), lin_eq, List.take_append_of_le_length (by rw [lin0_len]; omega)]
theorem keep_closed {l : List Bs} {k : Nat} {n : Int} {b : Bs} {pw : Int} {s : St} {cl : Bool} (h : KeepB l k n b pw s cl) (t : Bs) :
    appR b pw s cl t = (423, b, 0, s, true) ∧ KeepB l (k + 1) n b 0 s true := by
  obtain ⟨m, y, h1, h2, h3, h4, h5, rfl, h7, rfl⟩ := h
  exact ⟨by unfold appR; rw [if_pos rfl], m, y, by omega, h2, h3, h4, h5, rfl, h7, rfl⟩
theorem open_part {l : List Bs} {y : Bs} (m : Nat) (hl : Few l) (hy : (10 : UInt8) ∉ y) (hlen : y.length ≤ 66) :
    openR (logB 1 (l.take m) ++ y) (-1) = (some (St.zero.adds (l.take m)), 0, logB 1 (l.take m), -1) := by
  have h1 := (hl.take m).log
  have hr := (hl.take m).okr
  have hs : (St.zero.adds (l.take m)).size = (logB 1 (l.take m)).length := by rw [adds_size]; simp [St.zero]
  unfold openR
  rw [if_neg (by rw [List.length_append]; omega)]
  by_cases h0 : y = []
  · subst h0
    rw [List.append_nil, scan_all _ hr]
    rfl
  · rw [scan_part _ hr h0 hy, if_neg (show ¬ ((1 : Nat) = 2) by decide)]
    have : cutR 1 (logB 1 (l.take m) ++ y) (-1) (St.zero.adds (l.take m)).size = (0, logB 1 (l.take m), -1) := by
      unfold cutR
      rw [if_neg (by decide), if_neg (by decide), hs, List.take_left]
      rfl
    simp only [this, if_true]
theorem Few.snoc {l : List Bs} {t : Bs} (h : Few l) (hn : l.length < 20) (h1 : recB t = true) (h2 : t.length ≤ 60) : Few (l ++ [t]) := by
  refine ⟨fun u hu => ?_, fun u hu => ?_, by simp; omega⟩ <;> rcases List.mem_append.1 hu with hu | hu
  · exact h.okr _ hu
  · obtain rfl : u = t := by simpa using hu
    exact h1
  · exact h.len _ hu
  · obtain rfl : u = t := by simpa using hu
    exact h2
theorem app_last {l : List Bs} {t : Bs} (h : Few (l ++ [t])) : appR (logB 1 l) (-1) (St.zero.adds l) false t = (0, logB 1 (l ++ [t]), -1, St.zero.adds (l ++ [t]), false) := by
  have h1 := h.okr t (by simp)
  have h2 := h.log
  have e : logB 1 (l ++ [t]) = logB 1 l ++ lin (St.zero.adds l).last t := logB_snoc _ _ .zero
  have hl : (logB 1 l).length + (t.length + 6) ≤ 1320 := by rw [e, List.length_append, lin_len] at h2; exact h2
  rw [app_free h1 (by omega), e, St.adds_snoc]
end Go.Proofs.YtandanbojfdfjaaDoor
