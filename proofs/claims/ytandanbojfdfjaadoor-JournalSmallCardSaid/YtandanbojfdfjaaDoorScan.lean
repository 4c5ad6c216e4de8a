import Derived.Test.YtandanbojfdfjaaDoorLines
namespace Go.Proofs.YtandanbojfdfjaaDoor
open Go.ChangeShapes Go.WideShapes Go.ChangeAt Go.RowKit Go.Shelf

theorem lines_any (v : Value) (w : World) (A : Option Addr) (n c : Nat) (hv : v = .slice A n c) : Calls Tryd.prog 57 #[v] w fun e w' => e = .returned (.func (.func 68) #[] #[.pointer (some ⟨w.heap.size, 0, none⟩)]) ∧ w' = w.alloc (.cells #[v] 26) := by
  subst hv
  go_enter Tryd.func57, Tryd.ntmps57
  go_wp2_with fail
  go_ret
  exact ⟨rfl, rfl⟩

/-- the state after some lines that were taken -/
structure St where
  recs : List Bs
  last : Nat
  size : Nat
def St.zero : St := ⟨[], 1, 0⟩
def St.add (s : St) (t : Bs) : St := ⟨s.recs ++ [t], chk s.last t, s.size + t.length + 6⟩
def run (l : List Bs) : St := l.foldl (fun s x => s.add (mid x)) .zero
theorem run_snoc (l : List Bs) (x : Bs) : run (l ++ [x]) = (run l).add (mid x) := by simp [run]
/-- a line with its end -/
def ends (x : Bs) : Bool := Lib.hasSuffix x [10]
/-- all of these lines are taken -/
def taken : List Bs → Prop := fun l => ∀ k x, l[k]? = some x → ends x = true ∧ goodB (run (l.take k)).last x = true
theorem taken_nil : taken [] := fun k x h => by simp at h
theorem taken_snoc {l : List Bs} {x : Bs} (h : taken l) (h1 : ends x = true) (h2 : goodB (run l).last x = true) : taken (l ++ [x]) := by
  intro k y hk
  rcases Nat.lt_or_ge k l.length with hl | hl
  · rw [List.getElem?_append_left hl] at hk
    have := h k y hk
    rwa [List.take_append_of_le_length (by omega)]
  · have : k = l.length := by
      have := (List.getElem?_eq_some_iff.1 hk).1
      simp at this; omega
    subst this
    simp at hk
    subst hk
    simpa using ⟨h1, h2⟩

theorem taken_init {l : List Bs} {x : Bs} (h : taken (l ++ [x])) : taken l ∧ ends x = true ∧ goodB (run l).last x = true := by
  refine ⟨fun k y hk => ?_, ?_⟩
  · have hl := (List.getElem?_eq_some_iff.1 hk).1
    have := h k y (by rw [List.getElem?_append_left hl]; exact hk)
    rwa [List.take_append_of_le_length (by omega)] at this
  · have := h l.length x (by simp)
    simpa using this
theorem good_len {k : Nat} {x : Bs} (h : goodB k x = true) : 6 ≤ x.length ∧ (mid x).length ≤ 200 ∧ (mid x).length + 6 = x.length := by
  unfold goodB at h
  simp at h
  have := mid_len h.1
  exact ⟨h.1, recB_le h.2.1, by omega⟩
theorem run_size : ∀ (n : Nat) (l : List Bs), l.length = n → taken l → (run l).recs.length = l.length ∧ (run l).size = l.flatten.length
  | 0, l, hl, _ => by
    have : l = [] := List.eq_nil_of_length_eq_zero hl
    subst this; exact ⟨rfl, rfl⟩
  | n + 1, l, hl, ht => by
    rcases List.eq_nil_or_concat l with rfl | ⟨q, x, rfl⟩
    · simp at hl
    · rw [List.concat_eq_append] at *
      obtain ⟨h1, _, h3⟩ := taken_init ht
      obtain ⟨i1, i2⟩ := run_size n q (by simpa using hl) h1
      obtain ⟨_, _, h5⟩ := good_len h3
      rw [run_snoc]
      refine ⟨by simp [St.add, i1], ?_⟩
      simp [St.add, i2]
      omega
theorem run_last (l : List Bs) : (run l).last < 9973 := by
  rcases List.eq_nil_or_concat l with rfl | ⟨q, x, rfl⟩
  · decide
  · rw [List.concat_eq_append, run_snoc]; exact chk_lt _ _
theorem lns_flat : ∀ (n : Nat) (l : Bs), l.length = n → (lns l).flatten = l := by
  intro n
  induction n using Nat.strongRecOn with
  | _ n ih =>
    intro l hl
    by_cases h : l = []
    · subst h; rw [lns_nil]; rfl
    · have := cutN_bd h
      rw [lns_cons h, List.flatten_cons, ih _ (by rw [List.length_drop]; omega) (l.drop (cutN l)) rfl, List.take_append_drop]
theorem flat_prefix {pre all : List Bs} (h : pre <+: all) : pre.flatten.length ≤ all.flatten.length := by
  obtain ⟨q, rfl⟩ := h
  simp
theorem len_flat : ∀ (l : List Bs), (∀ x ∈ l, 1 ≤ x.length) → l.length ≤ l.flatten.length
  | [], _ => by simp
  | x :: l, h => by
    have := len_flat l fun y hy => h y (List.mem_cons_of_mem _ hy)
    have h1 := h x (by simp)
    rw [List.flatten_cons, List.length_append, List.length_cons]; omega

theorem Kp.below_n {A B : World} {S : Nat → Prop} {n : Nat} (h : Kp A B S) (hn : n ≤ A.heap.size) (hS : ∀ k, S k → n ≤ k) : Below n A B :=
  ⟨h.os, h.tape, h.output, h.size, fun k hk => h.block k (by omega) (fun hs => by have := hS k hs; omega)⟩

/-- what the scan has made between two rounds, and what it leaves -/
structure ScM (w : World) (L T2 T3 T4 Bc : Nat) (s : St) (W : World) : Prop where
  log : ∃ v, Blk W L 68 (lg (.pointer none) v s.last s.size false) ∧ W.ownsRow w.heap.size 9 1 v s.recs.length (scs s.recs) ∧ v.ownBlock ≠ some Bc
  t4 : Blk W T4 29 #[.pointer (some ⟨L, 0, none⟩)]
  bel : Below w.heap.size w W
  siz : w.heap.size + 5 ≤ W.heap.size

theorem ScM.keep {w W W' : World} {L T2 T3 T4 Bc : Nat} {s : St} (h : ScM w L T2 T3 T4 Bc s W) (hk : ∀ k cs t, k ≠ Bc → Blk W k t cs → Blk W' k t cs) (hL : L ≠ Bc) (h4 : T4 ≠ Bc) (hb : Below w.heap.size w W') (hs : W.heap.size ≤ W'.heap.size) : ScM w L T2 T3 T4 Bc s W' := by
  obtain ⟨v, h1, h2, h3⟩ := h.log
  refine ⟨⟨v, hk _ _ _ hL h1, ?_, h3⟩, hk _ _ _ h4 h.t4, hb, Nat.le_trans h.siz hs⟩
  refine ⟨h2.1, ?_⟩
  rcases h2.2 with hh | ⟨g, cap, cur, rfl, hb', hgg, rest⟩
  · exact .inl hh
  · exact .inr ⟨g, cap, cur, rfl, hb', hk g _ _ (fun e => h3 (by simp [Value.ownBlock, e])) hgg, rest⟩
end Go.Proofs.YtandanbojfdfjaaDoor
