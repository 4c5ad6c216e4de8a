import Derived.Test.YtandanbojfdfjaaDoorBy
namespace Go.Proofs.YtandanbojfdfjaaDoor
open Go.ChangeShapes Go.WideShapes Go.ChangeAt Go.RowKit

theorem eql_nil_s (a : Option Addr) (n c : Nat) (w : World) : (binOp .eql 22 (.slice a n c) (.slice none 0 0)).run Tryd.prog w = .ok (.bool a.isNone) w := by
  have h := run_equal_slice_nil (P := Tryd.prog) w 22 9 a n c (by kernel_rfl)
  unfold binOp
  simp [h]
theorem oneCells_scs (rs : List Bs) : ∀ u ∈ scs rs, u.oneCell' = true := by
  intro u hu
  obtain ⟨c, _, rfl⟩ := List.mem_map.1 hu
  rfl

theorem cloneS_any (A : Option Addr) (rs : List Bs) (c : Nat) (w : World) (hr : Rd w w.heap.size A (scs rs)) (hA : A = none → rs = []) (hA2 : A = none → c = 0) (hlen : rs.length ≤ 2000000) :
    Calls Tryd.prog 39 #[.slice A rs.length c] w fun e w' => ∃ v, e = .returned v ∧ w'.ownsRow w.heap.size 9 1 v rs.length (scs rs) ∧ Below w.heap.size w w' := by
  rcases A with _ | ad
  · obtain rfl := hA rfl
    obtain rfl := hA2 rfl
    have hq := eql_nil_s none 0 0
    go_enter Tryd.func39, Tryd.ntmps39
    go_wp2_with fail
    go_ret
    exact ⟨_, rfl, World.ownsRow_nil _ _ _ _, Below.refl _ _⟩
  · have HR := Lib.hid hr
    clear hr hA hA2
    have hq := eql_nil_s (some ad) rs.length c
    go_enter Tryd.func39, Tryd.ntmps39
    go_wp2_with (at_builtin; refine ap_many rfl (.tmp 5) (.tmp 6) 22 rfl eStr (some ad) rs.length c (scs rs) (Own.built w 9 0 [] (Below.refl _ _) rfl (by omega)) rfl rfl (by simp) (HR.out.alloc _) (oneCells_scs rs) (by omega) ?_; intro v1 w1 own1 hsz1)
    go_ret
    exact ⟨_, rfl, by simpa using own1.row, own1.bel⟩

theorem row_rd {w : World} {base : Nat} {e : TypeId} {n : Nat} {v : Value} {xs : List Value} (h : w.ownsRow base e 1 v n xs) : ∃ A c, v = .slice A n c ∧ n ≤ c ∧ Rd w w.heap.size A xs ∧ (A = none → xs = []) ∧ (A = none → c = 0) := by
  have hl := h.1
  rcases h.2 with ⟨rfl, rfl⟩ | ⟨g, cap, cur, rfl, hg, hh, hn, hm, hs, ht⟩
  · have : xs = [] := List.eq_nil_of_length_eq_zero (by simpa using hl)
    subst this
    exact ⟨none, 0, rfl, Nat.le_refl _, Rd.nil, fun _ => rfl, fun _ => rfl⟩
  · refine ⟨_, cap, rfl, hn, fun h0 => ⟨g, 0, rfl, (Array.getElem?_eq_some_iff.1 hh).1, fun j u hu => ?_⟩, (fun h => by cases h), (fun h => by cases h)⟩
    have := h.cells (g := g) rfl j u hu
    rw [add_lit'] at this
    exact this

/-- Records -/
theorem records_any (base L D : Nat) (r : Option Nat) (s : St) (cl : Bool) (w : World) (hL : LogAt w base L D r s cl) (hn : s.recs.length ≤ 2000000) :
    Calls Tryd.prog 16 #[.pointer (some ⟨L, 0, none⟩)] w fun e w' => ∃ v, e = .returned v ∧ w'.ownsRow w.heap.size 9 1 v s.recs.length (scs s.recs) ∧ Below w.heap.size w w' := by
  obtain ⟨v, _, hL, hr⟩ := hL
  obtain ⟨A, c, rfl, hnc, hrd, h1, h2⟩ := row_rd hr
  have c1 := hL.cell 1 _ rfl
  have HC := Lib.hid (cloneS_any A s.recs c w hrd (fun h => by simpa [scs] using h1 h) h2 hn)
  clear hL hr hrd h1 h2
  go_enter Tryd.func16, Tryd.ntmps16
  go_wp2_with fail
  refine HC.out.mono ?_
  rintro e w1 ⟨v1, rfl, hr1, hb1⟩
  go_wp2_with fail
  go_ret
  exact ⟨_, rfl, hr1, hb1⟩
theorem records_nil (w : World) :
    Calls Tryd.prog 16 #[.pointer none] w fun e w' => e = .returned (.slice none 0 0) ∧ w = w' := by
  go_enter Tryd.func16, Tryd.ntmps16
  go_wp2_with fail
  go_ret
  exact ⟨rfl, rfl⟩
theorem last_nil (w : World) : Calls Tryd.prog 24 #[.pointer none] w fun e w' => e = .returned (.int .i64 0) ∧ w = w' := by
  go_enter Tryd.func24, Tryd.ntmps24
  go_wp2_with fail
  go_ret
  exact ⟨rfl, rfl⟩
theorem size_nil (w : World) : Calls Tryd.prog 17 #[.pointer none] w fun e w' => e = .returned (.int .i64 0) ∧ w = w' := by
  go_enter Tryd.func17, Tryd.ntmps17
  go_wp2_with fail
  go_ret
  exact ⟨rfl, rfl⟩
end Go.Proofs.YtandanbojfdfjaaDoor
