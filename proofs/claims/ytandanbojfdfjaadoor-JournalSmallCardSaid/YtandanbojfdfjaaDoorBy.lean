import Derived.Test.YtandanbojfdfjaaDoorOps1
import Derived.Laws.Cover3
namespace Go.Proofs.YtandanbojfdfjaaDoor
open Go.ChangeShapes Go.WideShapes Go.ChangeAt Go.RowKit

theorem eByte : Elem Tryd.prog 26 5 (.int .u8 0) 1 1 := ⟨by kernel_rfl, by kernel_rfl, rfl, by omega, by omega⟩
theorem oneCells_bcs (b : Bs) : ∀ u ∈ bcs b, u.oneCell' = true := by
  intro u hu
  obtain ⟨c, _, rfl⟩ := List.mem_map.1 hu
  rfl

theorem eql_nil (a : Option Addr) (n c : Nat) (w : World) : (binOp .eql 26 (.slice a n c) (.slice none 0 0)).run Tryd.prog w = .ok (.bool a.isNone) w := by
  have h := run_equal_slice_nil (P := Tryd.prog) w 26 5 a n c (by kernel_rfl)
  unfold binOp
  simp [h]

theorem cloneB_any (A : Option Addr) (b : Bs) (c : Nat) (w : World) (hr : Rd w w.heap.size A (bcs b)) (hA : A = none → b = []) (hA2 : A = none → c = 0) (hlen : b.length ≤ 2000000) :
    Calls Tryd.prog 37 #[.slice A b.length c] w fun e w' => ∃ v, e = .returned v ∧ w'.ownsRow w.heap.size 5 1 v b.length (bcs b) ∧ Below w.heap.size w w' := by
  rcases A with _ | ad
  · obtain rfl := hA rfl
    obtain rfl := hA2 rfl
    have hq := eql_nil none 0 0
    go_enter Tryd.func37, Tryd.ntmps37
    go_wp2_with fail
    go_ret
    exact ⟨_, rfl, World.ownsRow_nil _ _ _ _, Below.refl _ _⟩
  · have HR := Lib.hid hr
    clear hr hA hA2
    have hq := eql_nil (some ad) b.length c
    go_enter Tryd.func37, Tryd.ntmps37
    go_wp2_with (at_builtin; refine ap_many rfl (.tmp 5) (.tmp 6) 26 rfl eByte (some ad) b.length c (bcs b) (Own.built w 5 0 [] (Below.refl _ _) rfl (by omega)) rfl rfl (by simp) (HR.out.alloc _) (oneCells_bcs b) (by omega) ?_; intro v1 w1 own1 hsz1)
    go_ret
    exact ⟨_, rfl, by simpa using own1.row, own1.bel⟩
end Go.Proofs.YtandanbojfdfjaaDoor

namespace Go.Proofs.YtandanbojfdfjaaDoor
open Go.ChangeShapes Go.WideShapes Go.ChangeAt Go.RowKit

/-- bytes in memory, in whatever block of bytes -/
def By (w : World) (v : Value) (b : Bs) : Prop :=
  (v = .slice none 0 0 ∧ b = []) ∨ ∃ g o c cs, v = .slice (some ⟨g, o, none⟩) b.length c ∧ Blk w g 5 cs ∧ b.length ≤ c ∧ (∀ j u, (bcs b)[j]? = some u → cs[o + j]? = some u) ∧ o + c ≤ cs.size

theorem By.nil (w : World) : By w (.slice none 0 0) [] := .inl ⟨rfl, rfl⟩
theorem By.kp {w w' : World} {S : Nat → Prop} {v : Value} {b : Bs} (h : By w v b) (hk : Kp w w' S) (hS : ∀ k cs, Blk w k 5 cs → ¬ S k) : By w' v b := by
  rcases h with h | ⟨g, o, c, cs, rfl, hB, hc, hr⟩
  · exact .inl h
  · exact .inr ⟨g, o, c, cs, rfl, hk.blk hB (hS _ _ hB), hc, hr⟩
theorem blk_ne {w : World} {k t t' : Nat} {cs cs' : Array Value} (h : Blk w k t cs) (h' : Blk w k t' cs') : t = t' := by
  have := Eq.trans h.symm h'
  simp at this
  exact this.2
theorem By.kp1 {w w' : World} {D t : Nat} {cs : Array Value} {v : Value} {b : Bs} (h : By w v b) (hk : Kp w w' (fun k => k = D)) (hD : Blk w D t cs) (ht : t ≠ 5) : By w' v b :=
  h.kp hk fun k cs' hB e => by subst e; exact ht (blk_ne hD hB)
theorem By.below {w w' : World} {v : Value} {b : Bs} (h : By w v b) (hb : Below w.heap.size w w') : By w' v b :=
  h.kp (Kp.of_below hb (fun _ => False)) fun _ _ _ h => h
theorem By.row {w : World} {base : Nat} {v : Value} {b : Bs} (h : w.ownsRow base 5 1 v b.length (bcs b)) : By w v b := by
  rcases h.2 with ⟨rfl, h0⟩ | ⟨g, cap, cur, rfl, hg, hh, hn, hm, hs, ht⟩
  · exact .inl ⟨rfl, List.eq_nil_of_length_eq_zero h0⟩
  · refine .inr ⟨g, 0, cap, cur, rfl, hh, hn, fun j u hu => ?_, by rw [hs]; omega⟩
    rw [← ht, List.getElem?_take] at hu
    split at hu
    · rw [Nat.zero_add]; simpa using hu
    · cases hu
theorem By.form {w : World} {v : Value} {b : Bs} (h : By w v b) : ∃ A c, v = .slice A b.length c ∧ Rd w w.heap.size A (bcs b) ∧ b.length ≤ c ∧ (A = none → b = []) ∧ (A = none → c = 0) ∧
    (∀ D t cs, Blk w D t cs → t ≠ 5 → ∀ ad, A = some ad → ad.block ≠ D) := by
  rcases h with ⟨rfl, rfl⟩ | ⟨g, o, c, cs, rfl, hB, hc, hr, _⟩
  · exact ⟨none, 0, rfl, Rd.nil, Nat.le_refl _, fun _ => rfl, fun _ => rfl, fun _ _ _ _ _ _ h => by cases h⟩
  · refine ⟨_, c, rfl, fun _ => ⟨g, o, rfl, hB.lt, fun j u hu => hB.cell _ u (hr j u hu)⟩, hc, (fun h => by cases h), (fun h => by cases h), fun D t cs' hD ht ad e => ?_⟩
    obtain rfl := Option.some.inj e
    rintro rfl
    exact ht (blk_ne hD hB)
/-- part of them -/
theorem By.take {w : World} {A : Option Addr} {n c : Nat} {b : Bs} (h : By w (.slice A n c) b) (k : Nat) (hk : k ≤ b.length) : By w (.slice A k c) (b.take k) := by
  rcases h with ⟨h, rfl⟩ | ⟨g, o, c', cs, h, hB, hc, hr, hz⟩
  · obtain ⟨rfl, rfl, rfl⟩ : A = none ∧ n = 0 ∧ c = 0 := by simpa using h
    obtain rfl : k = 0 := by simpa using hk
    exact .inl ⟨rfl, rfl⟩
  · obtain ⟨rfl, rfl, rfl⟩ : A = some ⟨g, o, none⟩ ∧ n = b.length ∧ c = c' := by simpa using h
    refine .inr ⟨g, o, c, cs, by rw [List.length_take, Nat.min_eq_left hk], hB, by rw [List.length_take]; omega, fun j u hu => hr j u ?_, hz⟩
    rw [← bcs_take, List.getElem?_take] at hu
    split at hu
    · exact hu
    · cases hu

/-- a log in memory: r is the block of its records -/
def LogAt (w : World) (base L D : Nat) (r : Option Nat) (s : St) (cl : Bool) : Prop :=
  ∃ v, v.ownBlock = r ∧ Blk w L 68 (lg (.pointer (some ⟨D, 0, none⟩)) v s.last s.size cl) ∧ w.ownsRow base 9 1 v s.recs.length (scs s.recs)
theorem LogAt.kp {w w' : World} {S : Nat → Prop} {base L D : Nat} {r : Option Nat} {s : St} {cl : Bool} (h : LogAt w base L D r s cl) (hk : Kp w w' S) (h1 : ¬ S L) (h2 : ∀ k, r = some k → ¬ S k) : LogAt w' base L D r s cl := by
  obtain ⟨v, rfl, hL, hr⟩ := h
  exact ⟨v, rfl, hk.blk hL h1, hk.row hr h2⟩
theorem LogAt.below {w w' : World} {base L D : Nat} {r : Option Nat} {s : St} {cl : Bool} (h : LogAt w base L D r s cl) (hb : Below w.heap.size w w') : LogAt w' base L D r s cl :=
  h.kp (Kp.of_below hb (fun _ => False)) (fun h => h) (fun _ _ h => h)
theorem LogAt.ge {w : World} {base L D : Nat} {r : Option Nat} {s : St} {cl : Bool} (h : LogAt w base L D r s cl) : ∀ k, r = some k → base ≤ k := by
  obtain ⟨v, rfl, _, hr⟩ := h
  exact row_ge hr
theorem row_blk {w : World} {base : Nat} {e : TypeId} {size n : Nat} {v : Value} {xs : List Value} (hr : w.ownsRow base e size v n xs) {k : Nat} (hk : v.ownBlock = some k) : ∃ cs, Blk w k e cs := by
  rcases hr.2 with ⟨rfl, _⟩ | ⟨g, cap, cur, rfl, hb, hgg, rest⟩
  · cases hk
  · obtain rfl : g = k := by simpa [Value.ownBlock] using hk
    exact ⟨_, hgg⟩
theorem LogAt.blk {w : World} {base L D : Nat} {r : Option Nat} {s : St} {cl : Bool} (h : LogAt w base L D r s cl) : ∃ cs, Blk w L 68 cs := by
  obtain ⟨v, rfl, hL, hr⟩ := h
  exact ⟨_, hL⟩
theorem LogAt.rblk {w : World} {base L D : Nat} {r : Option Nat} {s : St} {cl : Bool} (h : LogAt w base L D r s cl) : ∀ k, r = some k → ∃ cs, Blk w k 9 cs := by
  obtain ⟨v, rfl, hL, hr⟩ := h
  exact fun k hk => row_blk hr hk

/-- a disk in memory -/
def DiskAt (w : World) (D : Nat) (b : Bs) (p : Int) : Prop := ∃ v, Blk w D 28 (dsk v p) ∧ By w v b
theorem DiskAt.blk {w : World} {D : Nat} {b : Bs} {p : Int} (h : DiskAt w D b p) : ∃ cs, Blk w D 28 cs := by obtain ⟨v, h, _⟩ := h; exact ⟨_, h⟩
theorem DiskAt.lt {w : World} {D : Nat} {b : Bs} {p : Int} (h : DiskAt w D b p) : D < w.heap.size := by obtain ⟨v, h, _⟩ := h; exact h.lt
theorem DiskAt.kp {w w' : World} {S : Nat → Prop} {D : Nat} {b : Bs} {p : Int} (h : DiskAt w D b p) (hk : Kp w w' S) (h1 : ¬ S D) (h2 : ∀ k cs, Blk w k 5 cs → ¬ S k) : DiskAt w' D b p := by
  obtain ⟨v, hD, hB⟩ := h
  exact ⟨v, hk.blk hD h1, hB.kp hk h2⟩
theorem DiskAt.below {w w' : World} {D : Nat} {b : Bs} {p : Int} (h : DiskAt w D b p) (hb : Below w.heap.size w w') : DiskAt w' D b p :=
  h.kp (Kp.of_below hb (fun _ => False)) (fun h => h) (fun _ _ _ h => h)
end Go.Proofs.YtandanbojfdfjaaDoor
