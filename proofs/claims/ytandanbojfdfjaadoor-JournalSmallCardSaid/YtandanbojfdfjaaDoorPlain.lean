import Derived.Test.YtandanbojfdfjaaDoorScan2
namespace Go.Proofs.YtandanbojfdfjaaDoor

/-! Plain facts on the scan -/

theorem sgo_good : ∀ (l : List Bs) (s : St), (sgo l s).1.size ≤ s.size + l.flatten.length ∧ (sgo l s).1.recs.length ≤ s.recs.length + l.length ∧ (s.last < 9973 → (sgo l s).1.last < 9973) ∧ (sgo l s).2 ≤ 2
  | [], s => by simp [sgo]
  | x :: r, s => by
    unfold sgo
    split
    · split
      · next he hg =>
        obtain ⟨h1, h2, h3, h4⟩ := sgo_good r (s.add (mid x))
        obtain ⟨_, _, h6⟩ := good_len hg
        refine ⟨?_, ?_, fun _ => h3 (chk_lt _ _), h4⟩
        · simp [St.add] at h1 ⊢; omega
        · simp [St.add] at h2 ⊢; omega
      · simp
    · simp

theorem lns_pos : ∀ (n : Nat) (l : Bs), l.length = n → ∀ x ∈ lns l, 1 ≤ x.length := by
  intro n
  induction n using Nat.strongRecOn with
  | _ n ih =>
    intro l hl x hx
    by_cases h : l = []
    · subst h; rw [lns_nil] at hx; simp at hx
    · have hc := cutN_bd h
      rw [lns_cons h] at hx
      rcases List.mem_cons.1 hx with rfl | hx
      · simp; omega
      · exact ih _ (by rw [List.length_drop]; omega) (l.drop (cutN l)) rfl x hx

theorem scan_size (b : Bs) : (scanS b).1.size ≤ b.length := by
  have h := (sgo_good (lns b) .zero).1
  rw [lns_flat _ b rfl] at h
  unfold scanS
  simpa [St.zero] using h
theorem scan_recs (b : Bs) : (scanS b).1.recs.length ≤ b.length := by
  have h := (sgo_good (lns b) .zero).2.1
  have h2 := len_flat (lns b) (lns_pos _ b rfl)
  rw [lns_flat _ b rfl] at h2
  have h0 : St.zero.recs.length = 0 := rfl
  show (sgo (lns b) .zero).1.recs.length ≤ _
  omega
theorem scan_last (b : Bs) : (scanS b).1.last < 9973 := (sgo_good (lns b) .zero).2.2.1 (by decide)
theorem scan_tail (b : Bs) : (scanS b).2 ≤ 2 := (sgo_good (lns b) .zero).2.2.2
end Go.Proofs.YtandanbojfdfjaaDoor
