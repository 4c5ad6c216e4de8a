import Derived.Test.YtandanbojfdfjaaDoorChk1
namespace Go.Proofs.YtandanbojfdfjaaDoor

/-! Plain facts on the bytes of a log -/

/-- the log of some records, after a check -/
def logB : Nat → List Bs → Bs
  | _, [] => []
  | x, t :: r => lin x t ++ logB (chk x t) r
def St.adds (s : St) (l : List Bs) : St := l.foldl St.add s
theorem St.adds_nil (s : St) : s.adds [] = s := rfl
theorem St.adds_cons (s : St) (t : Bs) (l : List Bs) : s.adds (t :: l) = (s.add t).adds l := rfl
theorem St.adds_app (s : St) (l r : List Bs) : s.adds (l ++ r) = (s.adds l).adds r := by simp [St.adds]
theorem St.adds_snoc (s : St) (l : List Bs) (t : Bs) : s.adds (l ++ [t]) = (s.adds l).add t := by simp [St.adds]
theorem logB_app : ∀ (l r : List Bs) (s : St), logB s.last (l ++ r) = logB s.last l ++ logB (s.adds l).last r
  | [], r, s => rfl
  | t :: l, r, s => by
    have := logB_app l r (s.add t)
    show lin s.last t ++ logB (s.add t).last (l ++ r) = _
    rw [this, ← List.append_assoc]; rfl
theorem logB_snoc (l : List Bs) (t : Bs) (s : St) : logB s.last (l ++ [t]) = logB s.last l ++ lin (s.adds l).last t := by
  rw [logB_app]; simp [logB]
theorem adds_recs : ∀ (l : List Bs) (s : St), (s.adds l).recs = s.recs ++ l
  | [], s => by simp [St.adds]
  | t :: l, s => by
    rw [St.adds_cons, adds_recs l (s.add t)]; simp [St.add]
theorem adds_size : ∀ (l : List Bs) (s : St), (s.adds l).size = s.size + (logB s.last l).length
  | [], s => by simp [St.adds, logB]
  | t :: l, s => by
    rw [St.adds_cons, adds_size l (s.add t)]
    show s.size + t.length + 6 + (logB (chk s.last t) l).length = s.size + (lin s.last t ++ logB (chk s.last t) l).length
    rw [List.length_append, lin_len]; omega
theorem adds_last : ∀ (l : List Bs) (s : St), s.last < 9973 → (s.adds l).last < 9973
  | [], _, h => h
  | t :: l, s, _ => adds_last l (s.add t) (chk_lt _ _)
theorem logB_len : ∀ (l : List Bs) (x : Nat), (logB x l).length = (l.map fun t => t.length + 6).sum
  | [], _ => rfl
  | t :: l, x => by
    show (lin x t ++ logB (chk x t) l).length = _
    rw [List.length_append, lin_len, logB_len l]; simp

/-! lines -/
theorem indexByte_out : ∀ {l : Bs}, (10 : UInt8) ∉ l → Lib.indexByte l 10 = -1
  | [], _ => rfl
  | c :: l, h => by
    have h1 : c ≠ 10 := fun e => h (by simp [e])
    have h2 := indexByte_out (l := l) fun e => h (by simp [e])
    simp [Lib.indexByte, h1, h2]
theorem indexByte_at : ∀ {l : Bs} (r : Bs), (10 : UInt8) ∉ l → Lib.indexByte (l ++ 10 :: r) 10 = l.length
  | [], r, _ => by simp [Lib.indexByte]
  | c :: l, r, h => by
    have h1 : c ≠ 10 := fun e => h (by simp [e])
    have h2 := indexByte_at (l := l) r fun e => h (by simp [e])
    have h3 : ¬ ((l.length : Int) = -1) := by omega
    simp [Lib.indexByte, h1, h2, h3]
theorem lns_line {l : Bs} (r : Bs) (h : (10 : UInt8) ∉ l) : lns (l ++ 10 :: r) = (l ++ [10]) :: lns r := by
  have hc : cutN (l ++ 10 :: r) = l.length + 1 := by
    unfold cutN; rw [indexByte_at r h, if_neg (by omega)]; simp
  rw [lns_cons (by simp), hc]
  congr 1
  · simp [List.take_append, List.take_of_length_le]
  · congr 1
    simp [List.drop_append, List.drop_eq_nil_of_le]
theorem lns_part {l : Bs} (h0 : l ≠ []) (h : (10 : UInt8) ∉ l) : lns l = [l] := by
  have hc : cutN l = l.length := by
    unfold cutN; rw [indexByte_out h, if_pos rfl]
  rw [lns_cons h0, hc]
  simp [lns_nil]
theorem ends_line (l : Bs) : ends (l ++ [10]) = true := by
  unfold ends Lib.hasSuffix
  rw [List.isSuffixOf_iff_suffix]
  exact ⟨l, rfl⟩
theorem ends_part {l : Bs} (h : (10 : UInt8) ∉ l) : ends l = false := by
  rw [Bool.eq_false_iff]
  intro e
  unfold ends Lib.hasSuffix at e
  rw [List.isSuffixOf_iff_suffix] at e
  obtain ⟨q, rfl⟩ := e
  exact h (by simp)
theorem sgo_bad {y r : Bs} {s : St} (h : (10 : UInt8) ∉ y) (hb : goodB s.last (y ++ [10]) = false) : sgo (lns (y ++ 10 :: r)) s = (s, 2) := by
  rw [lns_line r h]
  unfold sgo
  rw [ends_line, hb]; rfl
theorem sgo_part {y : Bs} {s : St} (h0 : y ≠ []) (h : (10 : UInt8) ∉ y) : sgo (lns y) s = (s, 1) := by
  rw [lns_part h0 h]
  unfold sgo
  rw [ends_part h]; rfl
theorem sgo_end (s : St) : sgo (lns []) s = (s, 0) := by rw [lns_nil]; rfl

/-- a line without its end -/
def lin0 (x : Nat) (t : Bs) : Bs := four (chk x t) ++ [32] ++ t
theorem lin_eq (x : Nat) (t : Bs) : lin x t = lin0 x t ++ [10] := rfl
theorem lin0_len (x : Nat) (t : Bs) : (lin0 x t).length = t.length + 5 := by simp [lin0, four]
theorem dig_ne (n : Nat) : dig n ≠ 10 := by
  intro h
  have := dig_nat n
  rw [h] at this
  simp at this
  omega
theorem rec_ne {t : Bs} (h : recB t = true) : (10 : UInt8) ∉ t := by
  intro hm
  unfold recB at h
  simp only [Bool.and_eq_true, List.all_eq_true] at h
  have := h.2 10 hm
  exact absurd this (by decide)
theorem lin0_ne {x : Nat} {t : Bs} (h : recB t = true) : (10 : UInt8) ∉ lin0 x t := by
  unfold lin0 four
  have := rec_ne h
  have d := fun n => (dig_ne n).symm
  simp [this, d]
theorem lin_mid (x : Nat) (t : Bs) : mid (lin x t) = t := by
  unfold mid lin
  simp [four]
theorem mid_gen {p m : Bs} (h : p.length = 5) : mid (p ++ m ++ [10]) = m := by
  unfold mid
  rw [List.append_assoc, List.drop_left' h]
  have : (p ++ (m ++ [10])).length - 6 = m.length := by simp; omega
  rw [this]; simp
theorem good_iff {x : Nat} {l : Bs} : goodB x l = true ↔ ∃ t, recB t = true ∧ l = lin x t := by
  unfold goodB
  constructor
  · intro h
    simp only [Bool.and_eq_true, beq_iff_eq] at h
    exact ⟨mid l, h.2.1, h.2.2.symm⟩
  · rintro ⟨t, h, rfl⟩
    simp [lin_mid, h, lin_len]
theorem good_not {x : Nat} {l : Bs} (h : ∀ t, recB t = true → l ≠ lin x t) : goodB x l = false := by
  rw [Bool.eq_false_iff]
  intro e
  obtain ⟨t, h1, h2⟩ := good_iff.1 e
  exact h t h1 h2
theorem sgo_lin {s : St} {t : Bs} (r : Bs) (h : recB t = true) : sgo (lns (lin s.last t ++ r)) s = sgo (lns r) (s.add t) := by
  rw [lin_eq, List.append_assoc]
  show sgo (lns (lin0 s.last t ++ 10 :: r)) s = _
  rw [lns_line r (lin0_ne h)]
  have hg : goodB s.last (lin0 s.last t ++ [10]) = true := good_iff.2 ⟨t, h, rfl⟩
  have hm : mid (lin0 s.last t ++ [10]) = t := lin_mid s.last t
  conv => lhs; unfold sgo
  rw [ends_line, hg, hm]; rfl
theorem sgo_log : ∀ (l : List Bs) (s : St) (r : Bs), (∀ t ∈ l, recB t = true) → sgo (lns (logB s.last l ++ r)) s = sgo (lns r) (s.adds l)
  | [], s, r, _ => rfl
  | t :: l, s, r, h => by
    show sgo (lns ((lin s.last t ++ logB (chk s.last t) l) ++ r)) s = _
    rw [List.append_assoc, sgo_lin _ (h t (by simp))]
    exact sgo_log l (s.add t) r fun u hu => h u (by simp [hu])
/-- the scan of a log with something behind -/
theorem scan_log (l : List Bs) (r : Bs) (h : ∀ t ∈ l, recB t = true) : scanS (logB 1 l ++ r) = sgo (lns r) (St.zero.adds l) := sgo_log l .zero r h
theorem scan_part (l : List Bs) {y : Bs} (h : ∀ t ∈ l, recB t = true) (h0 : y ≠ []) (hy : (10 : UInt8) ∉ y) : scanS (logB 1 l ++ y) = (St.zero.adds l, 1) := by rw [scan_log l y h, sgo_part h0 hy]
theorem scan_all (l : List Bs) (h : ∀ t ∈ l, recB t = true) : scanS (logB 1 l) = (St.zero.adds l, 0) := by
  have := scan_log l [] h
  rw [List.append_nil, sgo_end] at this
  exact this
theorem scan_bad (l : List Bs) {y : Bs} (r : Bs) (h : ∀ t ∈ l, recB t = true) (hy : (10 : UInt8) ∉ y) (hb : goodB (St.zero.adds l).last (y ++ [10]) = false) : scanS (logB 1 l ++ (y ++ 10 :: r)) = (St.zero.adds l, 2) := by
  rw [scan_log l _ h, sgo_bad hy hb]

/-! damaged lines -/
theorem dig_inj {a b : Nat} (h : dig a = dig b) : a % 10 = b % 10 := by
  have := dig_nat a
  have := dig_nat b
  rw [h] at *
  omega
theorem four_inj {p q : Nat} (hp : p < 10000) (hq : q < 10000) (h : four p = four q) : p = q := by
  unfold four at h
  simp only [List.cons.injEq, and_true] at h
  have h1 := dig_inj h.1
  have h2 := dig_inj h.2.1
  have h3 := dig_inj h.2.2.1
  have h4 := dig_inj h.2.2.2
  omega
theorem lin_parts {x y : Nat} {t u : Bs} (h : lin x t = lin y u) : t = u ∧ chk x t = chk y u := by
  have h1 : t = u := by rw [← lin_mid x t, h, lin_mid]
  have h2 : four (chk x t) = four (chk y u) := by
    have := congrArg (List.take 4) h
    simpa [lin, four] using this
  have := chk_lt x t
  have := chk_lt y u
  exact ⟨h1, four_inj (by omega) (by omega) h2⟩
theorem fol_app (x : Nat) (a b : Bs) : fol x (a ++ b) = fol (fol x a) b := by simp [fol]
theorem fol_cons (x : Nat) (c : UInt8) (b : Bs) : fol x (c :: b) = fol (stp x c) b := rfl
theorem chk_fol {x y : Nat} (hx : x < 9973) (hy : y < 9973) {t u : Bs} (hl : t.length = u.length) (h : chk x t = chk y u) : fol x t = fol y u := by
  have h1 := fol_lt hx t
  have h2 := fol_lt hy u
  unfold chk at h
  omega
/-- another byte makes another check -/
theorem chk_set {x : Nat} (hx : x < 9973) {a b : Bs} {c d : UInt8} (h : chk x (a ++ c :: b) = chk x (a ++ d :: b)) : c = d := by
  have h1 := chk_fol hx hx (by simp) h
  rw [fol_app, fol_app, fol_cons, fol_cons] at h1
  have h2 := fol_inj b (stp_lt _ _) (stp_lt _ _) h1
  unfold stp at h2
  have := c.toNat_lt
  have := d.toNat_lt
  apply UInt8.toNat_inj.1
  omega
theorem chk_swap {x : Nat} (hx : x < 9973) {a b : Bs} {c d : UInt8} (h : chk x (a ++ c :: d :: b) = chk x (a ++ d :: c :: b)) : c = d := by
  have h1 := chk_fol hx hx (by simp) h
  rw [fol_app, fol_app, fol_cons, fol_cons, fol_cons, fol_cons] at h1
  have h2 := fol_inj b (stp_lt _ _) (stp_lt _ _) h1
  unfold stp at h2
  have := c.toNat_lt
  have := d.toNat_lt
  apply UInt8.toNat_inj.1
  omega
/-- a byte of a line is another one -/
theorem bad_set {x : Nat} (hx : x < 9973) {t a b : Bs} {c d : UInt8} (h : lin x t = a ++ c :: b ++ [10]) (hcd : c ≠ d) : goodB x (a ++ d :: b ++ [10]) = false := by
  refine good_not fun u _ he => hcd ?_
  have hl := congrArg List.length h
  have hl2 := congrArg List.length he
  rw [lin_len] at hl hl2
  simp only [List.length_append, List.length_cons, List.length_nil] at hl hl2
  have hdrop : ∀ k, (lin x t).drop (a.length + 1 + k) = (lin x u).drop (a.length + 1 + k) := by
    intro k
    rw [h, ← he]
    simp [List.drop_append]
    have : a.length + 1 + k - a.length = k + 1 := by omega
    rw [this]; simp
  by_cases ha : a.length < 5
  · have h5 : (lin x t).drop 5 = (lin x u).drop 5 := by
      have := hdrop (4 - a.length)
      rwa [show a.length + 1 + (4 - a.length) = 5 by omega] at this
    have htu : t = u := by
      have : t ++ [10] = u ++ [10] := by simpa [lin, four] using h5
      simpa using this
    subst htu
    rw [h] at he
    simp at he
    exact he.symm
  · have htake : (lin x t).take 4 = (lin x u).take 4 := by
      rw [h, ← he]
      simp [List.take_append, show 4 - a.length = 0 by omega]
    have h4 : four (chk x t) = four (chk x u) := by simpa [lin, four] using htake
    have h1 := chk_lt x t
    have h2 := chk_lt x u
    have hc := four_inj (by omega) (by omega) h4
    have hp : (a.take 5).length = 5 := by simp; omega
    have ht : t = a.drop 5 ++ c :: b := by
      have h1 := lin_mid x t
      rw [h, ← List.take_append_drop 5 a, List.append_assoc (a.take 5), mid_gen hp] at h1
      exact h1.symm
    have hu : u = a.drop 5 ++ d :: b := by
      have h1 := lin_mid x u
      rw [← he, ← List.take_append_drop 5 a, List.append_assoc (a.take 5), mid_gen hp] at h1
      exact h1.symm
    rw [ht, hu] at hc
    exact chk_set hx hc
/-- two neighbouring bytes of the record are exchanged -/
theorem bad_swap {x : Nat} (hx : x < 9973) {a b : Bs} {c d : UInt8} (hcd : c ≠ d) : goodB x (four (chk x (a ++ c :: d :: b)) ++ [32] ++ (a ++ d :: c :: b) ++ [10]) = false := by
  refine good_not fun u _ he => hcd ?_
  have hu : u = a ++ d :: c :: b := by
    have := congrArg mid he
    rw [lin_mid] at this
    rw [← this]
    exact mid_gen (p := four (chk x (a ++ c :: d :: b)) ++ [32]) rfl
  subst hu
  have h4 : four (chk x (a ++ c :: d :: b)) = four (chk x (a ++ d :: c :: b)) := by
    have := congrArg (List.take 4) he
    simpa [lin, four] using this
  have h1 := chk_lt x (a ++ c :: d :: b)
  have h2 := chk_lt x (a ++ d :: c :: b)
  exact chk_swap hx (four_inj (by omega) (by omega) h4)
/-- a line that is read with another check before -/
theorem bad_left {x y : Nat} (hx : x < 9973) (hy : y < 9973) (hxy : x ≠ y) (u : Bs) : goodB x (lin y u) = false := by
  refine good_not fun v _ he => hxy ?_
  obtain ⟨rfl, h⟩ := lin_parts he
  exact (chk_inj hy hx u h).symm
end Go.Proofs.YtandanbojfdfjaaDoor
