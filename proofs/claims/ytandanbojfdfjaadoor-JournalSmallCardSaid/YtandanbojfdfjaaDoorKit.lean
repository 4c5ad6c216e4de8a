import Derived.WalkKit
import Derived.ProofKit
import Derived.OpenShut
import Derived.ShutString
import Derived.ChangeOld
import Derived.Below
import Derived.LoopTactic
import Derived.Outline
import Derived.BigQuiet
import Derived.Lib.Hide
import Derived.Handy
namespace Go.Proofs.YtandanbojfdfjaaDoor
open Go.ChangeShapes Go.WideShapes Go.ChangeAt Go.RowKit

/-! Words for memory -/

theorem add_lit' (b off j : Nat) : (⟨b, off, none⟩ : Addr).add j = ⟨b, off + j, none⟩ := by
  unfold Addr.add; split
  · next h => subst h; rfl
  · rfl

theorem bcell {B : Nat} {W w1 : World} (hb : Below B W w1) (b o : Nat) (h : b < B) : w1.cell? ⟨b, o, none⟩ = W.cell? ⟨b, o, none⟩ :=
  hb.cell (p := ⟨b, o, none⟩) h

theorem bcells {B : Nat} {W w1 : World} (hb : Below B W w1) : ∀ b o, b < B → w1.cell? ⟨b, o, none⟩ = W.cell? ⟨b, o, none⟩ := fun b o h => hb.cell (p := ⟨b, o, none⟩) h
theorem bfrozen {B : Nat} {W w1 : World} (hb : Below B W w1) : ∀ b o, b < B → w1.frozen? ⟨b, o, none⟩ = W.frozen? ⟨b, o, none⟩ := fun b o h => hb.frozen (p := ⟨b, o, none⟩) h
theorem cell_lt {w : World} {b o : Nat} {v : Value} (h : w.cell? ⟨b, o, none⟩ = some v) : b < w.heap.size :=
  World.block_lt_of_cell? w _ h

theorem below_drewN {B : Nat} {a w : World} (h : Below B a w) (n : Nat) : Below B a (w.drewN n) := ⟨h.os, h.tape, h.output, h.size, h.block⟩

/-- nothing but draws -/
def Qt (w w' : World) : Prop := ∃ n, w' = w.drewN n
theorem Qt.refl (w : World) : Qt w w := ⟨0, rfl⟩
theorem Qt.of_eq {w w' : World} (h : w = w') : Qt w w' := ⟨0, h.symm⟩
theorem Qt.drewN {w w' : World} (h : Qt w w') (n : Nat) : Qt w (w'.drewN n) := by obtain ⟨m, rfl⟩ := h; exact ⟨m + n, World.drewN_drewN _ _ _⟩
theorem Qt.trans {a b c : World} (h : Qt a b) (k : Qt b c) : Qt a c := by obtain ⟨n, rfl⟩ := k; exact h.drewN n
theorem Qt.cell {w w' : World} (h : Qt w w') (p : Addr) : w'.cell? p = w.cell? p := by obtain ⟨m, rfl⟩ := h; rfl
theorem Qt.size {w w' : World} (h : Qt w w') : w'.heap.size = w.heap.size := by obtain ⟨m, rfl⟩ := h; rfl
theorem Qt.below {w w' : World} (h : Qt w w') (B : Nat) : Below B w w' := by obtain ⟨m, rfl⟩ := h; exact below_drewN (Below.refl _ _) m
theorem quiet_left {P : Program} {f : FuncId} {args : Array Value} {w : World} {n : Nat} {v : Value}
    (h : Calls P f args (w.drewN n) fun e w' => e = .returned v ∧ w.drewN n = w') : Calls P f args (w.drewN n) fun e w'' => e = .returned v ∧ ∃ m, w'' = w.drewN m :=
  h.mono fun _ _ ⟨he, hm⟩ => ⟨he, n, hm.symm⟩
theorem quiet_qt {P : Program} {f : FuncId} {args : Array Value} {w : World} {n : Nat} {v : Value}
    (h : Calls P f args (w.drewN n) fun e w' => e = .returned v ∧ Qt (w.drewN n) w') : Calls P f args (w.drewN n) fun e w'' => e = .returned v ∧ ∃ m, w'' = w.drewN m :=
  h.mono fun _ _ ⟨he, m, hm⟩ => ⟨he, n + m, by rw [hm, World.drewN_drewN]⟩

/-- the slice with address A and cells cs can be read in w, below block B -/
def Rd (w : World) (B : Nat) (A : Option Addr) (cs : List Value) : Prop :=
  0 < cs.length → ∃ b off, A = some ⟨b, off, none⟩ ∧ b < B ∧ ∀ j u, cs[j]? = some u → w.cell? ⟨b, off + j, none⟩ = some u

theorem Rd.nil {w : World} {B : Nat} {A : Option Addr} : Rd w B A [] := fun h => absurd h (by simp)
theorem Rd.keep {w w' : World} {B B' : Nat} {A : Option Addr} {cs : List Value} (h : Rd w B A cs) (hb : Below B w w') (hB : B ≤ B') : Rd w' B' A cs := fun h0 => by
  obtain ⟨b, off, e, hlt, hc⟩ := h h0
  exact ⟨b, off, e, by omega, fun j u hu => (bcell hb b _ hlt).trans (hc j u hu)⟩
theorem Rd.drew {w : World} {B : Nat} {A : Option Addr} {cs : List Value} (h : Rd w B A cs) : Rd w.drew B A cs := h
theorem Rd.more {w : World} {B B' : Nat} {A : Option Addr} {cs : List Value} (h : Rd w B A cs) (hB : B ≤ B') : Rd w B' A cs := h.keep (Below.refl _ _) hB
theorem Rd.qt {w w' : World} {B : Nat} {A : Option Addr} {cs : List Value} (h : Rd w B A cs) (hq : Qt w w') : Rd w' B A cs := h.keep (hq.below _) (Nat.le_refl _)
theorem Rd.cut {w : World} {B : Nat} {b off : Nat} {cs : List Value} (h : Rd w B (some ⟨b, off, none⟩) cs) (k : Nat) : Rd w B (some ⟨b, off + k, none⟩) (cs.drop k) := fun h0 => by
  have hk : k < cs.length := by rw [List.length_drop] at h0; omega
  obtain ⟨b', off', e, hlt, hc⟩ := h (by omega)
  simp at e
  obtain ⟨rfl, rfl⟩ := e
  refine ⟨b, off + k, rfl, hlt, fun j u hu => ?_⟩
  rw [Nat.add_assoc]
  exact hc _ u (by simpa using hu)
theorem Rd.take {w : World} {B : Nat} {A : Option Addr} {cs : List Value} (h : Rd w B A cs) (k : Nat) : Rd w B A (cs.take k) := fun h0 => by
  have hk : 0 < cs.length := by simp at h0; omega
  obtain ⟨b', off', e, hlt, hc⟩ := h hk
  refine ⟨b', off', e, hlt, fun j u hu => hc j u ?_⟩
  rw [List.getElem?_take] at hu
  split at hu
  · exact hu
  · cases hu

/-- cells of a list of integers -/
abbrev ics (k : IntKind) (xs : List Int) : List Value := xs.map (Value.int k)

theorem ics_get {k : IntKind} {xs : List Int} {i : Nat} (h : i < xs.length) : (ics k xs)[i]? = some (.int k (xs.getD i 0)) := by
  simp [h]

theorem Rd.int {w : World} {B : Nat} {A : Option Addr} {k : IntKind} {xs : List Int} (h : Rd w B A (ics k xs)) (h0 : 0 < xs.length) :
    ∃ b off, A = some ⟨b, off, none⟩ ∧ b < B ∧ ∀ i, i < xs.length → w.cell? ⟨b, off + i, none⟩ = some (.int k (xs.getD i 0)) := by
  obtain ⟨b, off, e, hlt, hc⟩ := h (by simpa using h0)
  exact ⟨b, off, e, hlt, fun i hi => hc i _ (ics_get hi)⟩

/-- v, of n elements with the cells xs, is a row of the call's own, begun in w0 -/
structure Own (w0 w : World) (e : TypeId) (size : Nat) (v : Value) (n : Nat) (xs : List Value) : Prop where
  row : w.ownsRow w0.heap.size e size v n xs
  bel : Below w0.heap.size w0 w

section
variable {w0 w w' : World} {e : TypeId} {size : Nat} {v : Value} {n : Nat} {xs : List Value}
theorem Own.nil (e : TypeId) (size : Nat) (h : Below w0.heap.size w0 w) : Own w0 w e size (.slice none 0 0) 0 [] := ⟨World.ownsRow_nil _ _ _ _, h⟩
theorem Own.size_le (h : Own w0 w e size v n xs) : w0.heap.size ≤ w.heap.size := h.bel.size
/-- the row is kept while nothing older than now is written -/
theorem ownsRow_later {base : Nat} (h : w.ownsRow base e size v n xs) (hb : Below w.heap.size w w') : w'.ownsRow base e size v n xs := by
  refine h.kept (row := none) ⟨hb.os, hb.tape, hb.output, hb.size, fun k hk _ => hb.block k hk⟩ ?_
  cases hv : v.ownBlock <;> simp
theorem Own.later (h : Own w0 w e size v n xs) (hb : Below w.heap.size w w') : Own w0 w' e size v n xs :=
  ⟨ownsRow_later h.row hb, h.bel.trans (hb.mono h.bel.size)⟩
theorem Own.alloc (h : Own w0 w e size v n xs) (o : Obj) : Own w0 (w.alloc o) e size v n xs := h.later ((Below.refl _ _).alloc (Nat.le_refl _) _)
theorem Own.drew (h : Own w0 w e size v n xs) : Own w0 w.drew e size v n xs := h.later ((Below.refl _ _).drew)
theorem Own.drewN (h : Own w0 w e size v n xs) (k : Nat) : Own w0 (w.drewN k) e size v n xs := h.later (below_drewN (Below.refl _ _) k)
theorem Own.rd (h : Own w0 w e size v n xs) : ∃ A c, v = .slice A n c ∧ n ≤ c ∧ Rd w w.heap.size A xs := by
  rcases h.row.2 with ⟨rfl, rfl⟩ | ⟨g, cap, cur, rfl, hg, hh, hn, hm, hs, ht⟩
  · have : xs = [] := List.eq_nil_of_length_eq_zero (by simpa using h.row.1)
    subst this
    exact ⟨none, 0, rfl, Nat.le_refl _, Rd.nil⟩
  · refine ⟨_, cap, rfl, hn, fun h0 => ⟨g, 0, rfl, (Array.getElem?_eq_some_iff.1 hh).1, fun j u hu => ?_⟩⟩
    have := h.row.cells (g := g) rfl j u hu
    rw [add_lit'] at this
    exact this
/-- the row of another beginning -/
theorem Own.from_ {w1 : World} (h : Own w1 w e size v n xs) (hb : Below w0.heap.size w0 w1) : Own w0 w e size v n xs := by
  refine ⟨⟨h.row.1, ?_⟩, hb.trans (h.bel.mono hb.size)⟩
  rcases h.row.2 with hh | ⟨g, cap, cur, hv, hg, rest⟩
  · exact .inl hh
  · exact .inr ⟨g, cap, cur, hv, Nat.le_trans hb.size hg, rest⟩
end

theorem Own.form {w0 w : World} {e : TypeId} {size : Nat} {v : Value} {n : Nat} {xs : List Value} (h : Own w0 w e size v n xs) (hn : 0 < n) :
    ∃ g c, v = .slice (some ⟨g, 0, none⟩) n c ∧ n ≤ c ∧ w0.heap.size ≤ g ∧ g < w.heap.size ∧ (∀ j u, xs[j]? = some u → w.cell? ⟨g, j, none⟩ = some u) ∧ ∀ j, w.frozen? ⟨g, j, none⟩ = false := by
  rcases h.row.2 with ⟨_, rfl⟩ | ⟨g, cap, cur, rfl, hg, hh, hnc, _⟩
  · omega
  · refine ⟨g, cap, rfl, hnc, hg, (Array.getElem?_eq_some_iff.1 hh).1, fun j u hu => ?_, fun j => h.row.frozenAt j⟩
    have := h.row.cells (g := g) rfl j u hu
    rw [add_lit', Nat.zero_add] at this
    exact this
theorem Own.store {w0 w : World} {e : TypeId} {size : Nat} {g c : Nat} {n : Nat} {xs : List Value} (h : Own w0 w e size (.slice (some ⟨g, 0, none⟩) n c) n xs) (j : Nat) (u : Value) :
    Own w0 (w.setCell ⟨g, j, none⟩ u) e size (.slice (some ⟨g, 0, none⟩) n c) n (xs.set j u) :=
  ⟨(h.row.stored j u).1, h.bel.setCell (p := ⟨g, j, none⟩) (by
    have := (h.row.lt g (by simp [Value.ownBlock])).1
    exact this) u⟩

/-- the facts of an element type that append asks -/
structure Elem (P : Program) (t e : TypeId) (z : Value) (size bytes : Nat) : Prop where
  ht : P.underlying t = some (.slice e)
  info : (P.info? e).map (fun i => (i.zero, i.size, i.bytes)) = some (some z, size, bytes)
  hzs : z.cells.size = size
  hsz : 0 < size
  hby : bytes ≤ 1024

theorem small_bytes {n bytes : Nat} (hn : n ≤ 137438953472) (hb : bytes ≤ 1024) : n * bytes ≤ 140737488355328 :=
  Nat.le_trans (Nat.mul_le_mul hn hb) (by omega)

theorem run_append_of_nil {P : Program} (w : World) (base : Nat) (t ty e : TypeId) (i : TypeInfo) (size : Nat) (ht : P.underlying t = some (.slice e)) (hi : P.info? e = some i)
    (v : Value) (n : Nat) (xs : List Value) (hown : w.ownsRow base e size v n xs) (c : Nat) : (Builtin.append_ #[t, t] ty #[v, .slice none 0 c]).run P w = .ok v w := by
  rcases hown.2 with ⟨rfl, rfl⟩ | ⟨g, cap, cur, rfl, _, _, hnc, _⟩
  · simp [Builtin.append_, run_underlying ht, sizeOf, typeInfo, hi, Builtin.lenOf, Builtin.firstCells]
  · simp [Builtin.append_, run_underlying ht, sizeOf, typeInfo, hi, Builtin.lenOf, Builtin.firstCells, hnc, storeCells]

/-- append(s, one element), the element just laid in a block of its own -/
theorem ap_one {P : Program} {ops : Array Oper} {rest : List Oper} {o : Oper} {a : Act} {Q : Exit → Act → World → Prop} {w w0 : World} (hgd : o.guard = none) (s x : Operand) (t : TypeId)
    (ho : o.op = .call { callee := .builtin .append, args := #[s, x], argTypes := #[t, t] })
    {e : TypeId} {z : Value} {size bytes : Nat} (hE : Elem P t e z size bytes)
    {v : Value} {n : Nat} {xs : List Value} (news : List Value) (hown : Own w0 w e size v n xs)
    (hs : a.eval s = v) (hx : a.eval x = .slice (some ⟨w.heap.size, 0, none⟩) 1 1) (hl : news.length = size) (h1 : ∀ u ∈ news, u.oneCell' = true) (hn : n < 137438953472)
    (h : ∀ v' w', Own w0 w' e size v' (n + 1) (xs ++ news) → w.heap.size < w'.heap.size → wpList P ops Q rest (a.put o.dst v') w') :
    wpList P ops Q (o :: rest) a (w.alloc (.cells news.toArray e)) := by
  obtain ⟨i, hi, hz0, hz1, hz2⟩ := info_parts hE.info
  have hown' := hown.alloc (.cells news.toArray e)
  refine wpList_append_own _ hgd s x t ho w0.heap.size e i z size bytes hE.ht hi hz0 hz1 hz2 hE.hzs hE.hsz v n xs hs hown'.row ⟨w.heap.size, 0, none⟩ 1 1 news hx (by omega) ?_ h1 (by simp only [maxLen]; omega)
    (small_bytes (by omega) hE.hby) (by have := hown'.bel.size; simpa using this) ?_
  · intro j u hu
    rw [add_lit']
    rw [cell_of_row _ w.heap.size (0 + j) news.toArray e (0, 0) (heap_alloc_new w _)]
    simpa using hu
  · intro v' w' hr hg _
    refine h v' w' ⟨hr, hown'.bel.grown hg hown'.bel.size (fun k hk => (hown'.row.lt k hk).1)⟩ ?_
    have := hg.size
    simp at this
    omega

/-- append(s, l...), as a run -/
theorem run_ap {P : Program} {w w0 : World} (t ty : TypeId) {e : TypeId} {z : Value} {size bytes : Nat} (hE : Elem P t e z size bytes)
    {v : Value} {n : Nat} {xs : List Value} (A : Option Addr) (m c : Nat) (news : List Value) (hown : Own w0 w e size v n xs)
    (hl : news.length = m * size) (hrd : Rd w w.heap.size A news) (h1 : ∀ u ∈ news, u.oneCell' = true) (hn : n + m ≤ 137438953472) :
    ∃ v' w', (Builtin.append_ #[t, t] ty #[v, .slice A m c]).run P w = .ok v' w' ∧ Own w0 w' e size v' (n + m) (xs ++ news) ∧ w.heap.size ≤ w'.heap.size := by
  obtain ⟨i, hi, hz0, hz1, hz2⟩ := info_parts hE.info
  have own_of : ∀ v' w', w'.ownsRow w0.heap.size e size v' (n + m) (xs ++ news) → w.grownBy w' v.ownBlock → Own w0 w' e size v' (n + m) (xs ++ news) ∧ w.heap.size ≤ w'.heap.size :=
    fun v' w' hr hg => ⟨⟨hr, hown.bel.grown hg hown.bel.size (fun k hk => (hown.row.lt k hk).1)⟩, hg.size⟩
  by_cases hm : m = 0
  · subst hm
    have hn0 : news = [] := List.eq_nil_of_length_eq_zero (by simpa using hl)
    subst hn0
    rcases A with _ | ad
    · exact ⟨v, w, run_append_of_nil (P := P) w w0.heap.size t ty e i size hE.ht hi v n xs hown.row c, by simpa using hown, Nat.le_refl _⟩
    · obtain ⟨v', w', hr, h2, h3, _⟩ := run_append_own (P := P) w w0.heap.size t ty e i z size bytes hE.ht hi hz0 hz1 hz2 hE.hzs hE.hsz v n xs hown.row ad 0 c [] (by simp) (by simp) h1 (by simp only [maxLen]; omega) (small_bytes (by omega) hE.hby) hown.bel.size
      exact ⟨v', w', hr, own_of v' w' h2 h3⟩
  · have h0 : 0 < news.length := by rw [hl]; exact Nat.mul_pos (by omega) hE.hsz
    obtain ⟨b, off, rfl, hlt, hc⟩ := hrd h0
    obtain ⟨v', w', hr, h2, h3, _⟩ := run_append_own (P := P) w w0.heap.size t ty e i z size bytes hE.ht hi hz0 hz1 hz2 hE.hzs hE.hsz v n xs hown.row ⟨b, off, none⟩ m c news hl (fun j u hu => by rw [add_lit']; exact hc j u hu) h1 (by simp only [maxLen]; omega) (small_bytes (by omega) hE.hby) hown.bel.size
    exact ⟨v', w', hr, own_of v' w' h2 h3⟩

theorem wp_ap {P : Program} {o : Oper} {a : Act} {K : Act → World → Prop} {Q : Exit → Act → World → Prop} {w w0 : World} (s x : Operand) (t : TypeId)
    (ho : o.op = .call { callee := .builtin .append, args := #[s, x], argTypes := #[t, t] })
    {e : TypeId} {z : Value} {size bytes : Nat} (hE : Elem P t e z size bytes)
    {v : Value} {n : Nat} {xs : List Value} (A : Option Addr) (m c : Nat) (news : List Value) (hown : Own w0 w e size v n xs)
    (hs : a.eval s = v) (hx : a.eval x = .slice A m c) (hl : news.length = m * size) (hrd : Rd w w.heap.size A news) (h1 : ∀ u ∈ news, u.oneCell' = true) (hn : n + m ≤ 137438953472)
    (h : ∀ v' w', Own w0 w' e size v' (n + m) (xs ++ news) → w.heap.size ≤ w'.heap.size → K (a.put o.dst v') w') : o.wp P a w K Q := by
  obtain ⟨v', w', hr, h2, h3⟩ := run_ap (P := P) t o.type hE A m c news hown hl hrd h1 hn
  unfold Oper.wp execOp
  simp only [ho, resolve, invoke, builtin, Sem.run_bind, Sem.run_pure, Result.andThen_ok, List.map_toArray, List.map_cons, List.map_nil, hs, hx, hr]
  exact h v' w' h2 h3

/-- append(s, l...) -/
theorem ap_many {P : Program} {ops : Array Oper} {rest : List Oper} {o : Oper} {a : Act} {Q : Exit → Act → World → Prop} {w w0 : World} (hgd : o.guard = none) (s x : Operand) (t : TypeId)
    (ho : o.op = .call { callee := .builtin .append, args := #[s, x], argTypes := #[t, t] })
    {e : TypeId} {z : Value} {size bytes : Nat} (hE : Elem P t e z size bytes)
    {v : Value} {n : Nat} {xs : List Value} (A : Option Addr) (m c : Nat) (news : List Value) (hown : Own w0 w e size v n xs)
    (hs : a.eval s = v) (hx : a.eval x = .slice A m c) (hl : news.length = m * size) (hrd : Rd w w.heap.size A news) (h1 : ∀ u ∈ news, u.oneCell' = true) (hn : n + m ≤ 137438953472)
    (h : ∀ v' w', Own w0 w' e size v' (n + m) (xs ++ news) → w.heap.size ≤ w'.heap.size → wpList P ops Q rest (a.put o.dst v') w') :
    wpList P ops Q (o :: rest) a w :=
  wpList_plain hgd fun _ hK => wp_ap s x t ho hE A m c news hown hs hx hl hrd h1 hn fun v' w' h2 h3 => hK _ _ (h v' w' h2 h3)

/-- .. at a step of a region that draws its order -/
theorem step_ap {P : Program} {ops : Array Oper} {o : Oper} {a : Act} {K : Act → World → Prop} {Q : Exit → Act → World → Prop} {E : Prop} {w w0 : World} (hgd : o.guard = none) (s x : Operand) (t : TypeId)
    (ho : o.op = .call { callee := .builtin .append, args := #[s, x], argTypes := #[t, t] })
    {e : TypeId} {z : Value} {size bytes : Nat} (hE : Elem P t e z size bytes)
    {v : Value} {n : Nat} {xs : List Value} (A : Option Addr) (m c : Nat) (news : List Value) (hown : Own w0 w e size v n xs)
    (hs : a.eval s = v) (hx : a.eval x = .slice A m c) (hl : news.length = m * size) (hrd : Rd w w.heap.size A news) (h1 : ∀ u ∈ news, u.oneCell' = true) (hn : n + m ≤ 137438953472)
    (h : ∀ v' w', Own w0 w' e size v' (n + m) (xs ++ news) → w.heap.size ≤ w'.heap.size → K (a.put o.dst v') w') :
    if Region.wanted o (yielded ops a.tmps) = true then Oper.wp P o a w K Q else E := by
  rw [if_pos (by simp [Region.wanted, hgd])]
  exact wp_ap s x t ho hE A m c news hown hs hx hl hrd h1 hn h

/-- a slice literal -/
theorem Own.built (w0 : World) {w : World} (e : TypeId) {size : Nat} (n : Nat) (news : List Value) (hb : Below w0.heap.size w0 w) (hl : news.length = n * size) (hn : n ≤ 137438953472) :
    Own w0 (w.alloc (.cells news.toArray e)) e size (.slice (some ⟨w.heap.size, 0, none⟩) n n) n news :=
  ⟨⟨hl, .inr ⟨w.heap.size, n, news.toArray, rfl, hb.size, heap_alloc_new w _, Nat.le_refl _, by simp only [maxLen]; omega, by simp [hl], by rw [← hl]; simp⟩⟩, hb.alloc hb.size _⟩

theorem Rd.built {w : World} {e : TypeId} (news : List Value) : Rd (w.alloc (.cells news.toArray e)) (w.alloc (.cells news.toArray e)).heap.size (some ⟨w.heap.size, 0, none⟩) news :=
  fun _ => ⟨w.heap.size, 0, rfl, by simp, fun j u hu => by
    rw [cell_of_row _ w.heap.size (0 + j) news.toArray e (0, 0) (heap_alloc_new w _)]
    simpa using hu⟩
theorem below_alloc (w : World) (o : Obj) : Below w.heap.size w (w.alloc o) := (Below.refl _ _).alloc (Nat.le_refl _) _
theorem Rd.alloc {w : World} {A : Option Addr} {cs : List Value} (h : Rd w w.heap.size A cs) (o : Obj) : Rd (w.alloc o) (w.alloc o).heap.size A cs := h.keep (below_alloc w o) (by simp)
theorem Rd.now {w w' : World} {A : Option Addr} {cs : List Value} (h : Rd w w.heap.size A cs) (hb : Below w.heap.size w w') : Rd w' w'.heap.size A cs := h.keep hb hb.size
theorem Rd.qtn {w w' : World} {A : Option Addr} {cs : List Value} (h : Rd w w.heap.size A cs) (hb : Qt w w') : Rd w' w'.heap.size A cs := h.now (hb.below _)

/-- an argument that is a slice of integers (the shell's word for it, opened) -/
theorem rd_of_row {k : IntKind} {w : World} {a : Option Addr} {len cap : Nat} {zs : List Int}
    (h : (a = none ∧ len = 0 ∧ cap = 0 ∧ zs = []) ∨ ∃ x, a = some x ∧ len ≤ cap ∧ cap ≤ maxLen ∧ zs.length = cap ∧ (∀ i, i < zs.length → w.cell? (x.add i) = some (.int k (zs.getD i 0))) ∧ ∀ n ∈ zs, (Lit.int k n).wf = true) :
    len ≤ cap ∧ cap ≤ maxLen ∧ Rd w w.heap.size a (ics k (zs.take len)) ∧ (zs.take len).length = len ∧ ∀ n ∈ zs.take len, (Lit.int k n).wf = true := by
  rcases h with ⟨rfl, rfl, rfl, rfl⟩ | ⟨x, rfl, hl, hm, hz, hc, hw⟩
  · exact ⟨Nat.le_refl _, Nat.zero_le _, Rd.nil, rfl, by simp⟩
  · refine ⟨hl, hm, fun h0 => ?_, by rw [List.length_take]; omega, fun n hn => hw n (List.mem_of_mem_take hn)⟩
    have hpos : 0 < zs.length := by
      rcases Nat.eq_zero_or_pos zs.length with e | e
      · have : zs = [] := List.eq_nil_of_length_eq_zero e
        subst this; simp at h0
      · exact e
    obtain ⟨b, off, spot⟩ := x
    have h1 := hc 0 hpos
    have hspot : spot = none := by simpa [Addr.add] using World.cell?_spot h1
    subst hspot
    refine ⟨b, off, rfl, ?_, fun j u hu => ?_⟩
    · have := hc 0 hpos
      rw [add_lit'] at this
      exact cell_lt this
    · have hj : j < zs.length := by
        have := (List.getElem?_eq_some_iff.1 hu).1
        simp at this; omega
      have := hc j hj
      rw [add_lit'] at this
      rw [this, ← hu]
      have hjt : j < (zs.take len).length := by
        have := (List.getElem?_eq_some_iff.1 hu).1
        simpa using this
      rw [ics_get hjt]
      congr 2
      rw [List.getD_eq_getElem?_getD, List.getD_eq_getElem?_getD, List.getElem?_take, if_pos (by rw [List.length_take] at hjt; omega)]

/-- min of two integers -/
theorem min_step {P : Program} {ops : Array Oper} {Q : Exit → Act → World → Prop} {rest : List Oper} {a : Act} {w : World} {t ty : TypeId} {pos : String} {after : Array Edge} {d : Option Tmp} (s x : Operand) (k : IntKind) (m n r : Int)
    (hs : a.eval s = .int k m) (hx : a.eval x = .int k n) (hr : min m n = r) (h : wpList P ops Q rest (a.put d (.int k r)) w) :
    wpList P ops Q (⟨d, .call { callee := .builtin .min, args := #[s, x], argTypes := #[t, t] }, ty, pos, after, none⟩ :: rest) a w := by
  refine wpList_plain rfl fun K hK => ?_
  unfold Oper.wp execOp
  simp only [resolve, invoke, builtin, Sem.run_bind, Sem.run_pure, Result.andThen_ok, List.map_toArray, List.map_cons, List.map_nil, hs, hx]
  have e : (Builtin.min_ #[t, t] ty #[Value.int k m, Value.int k n]).run P w = .ok (.int k r) w := by
    subst hr
    have e2 : (if n < m then n else m) = min m n := by split <;> omega
    simp [Builtin.min_, Builtin.min2, List.foldlM, e2]
  rw [e]
  exact hK _ _ h

/-- max of two integers -/
theorem max_step {P : Program} {ops : Array Oper} {Q : Exit → Act → World → Prop} {rest : List Oper} {a : Act} {w : World} {t ty : TypeId} {pos : String} {after : Array Edge} {d : Option Tmp} (s x : Operand) (k : IntKind) (m n r : Int)
    (hs : a.eval s = .int k m) (hx : a.eval x = .int k n) (hr : max m n = r) (h : wpList P ops Q rest (a.put d (.int k r)) w) :
    wpList P ops Q (⟨d, .call { callee := .builtin .max, args := #[s, x], argTypes := #[t, t] }, ty, pos, after, none⟩ :: rest) a w := by
  refine wpList_plain rfl fun K hK => ?_
  unfold Oper.wp execOp
  simp only [resolve, invoke, builtin, Sem.run_bind, Sem.run_pure, Result.andThen_ok, List.map_toArray, List.map_cons, List.map_nil, hs, hx]
  have e : (Builtin.max_ #[t, t] ty #[Value.int k m, Value.int k n]).run P w = .ok (.int k r) w := by
    subst hr
    have e2 : (if m < n then n else m) = max m n := by split <;> omega
    simp [Builtin.max_, Builtin.max2, List.foldlM, e2]
  rw [e]
  exact hK _ _ h

/-- a call of function f goes into it (for a function value whose number is a letter) -/
def Enters (P : Program) (f : FuncId) : Prop := ∀ args w, (callFunc f args).run P w = .ok (.enter f args) w
theorem enters_of {P : Program} {f : FuncId} {fn : Func} (hf : P.funcs[f]? = some fn) (hn : (fn.name == "runtime.NumGoroutine") = false) (hb : fn.body.isNone = false) : Enters P f := by
  intro args w
  simp only [callFunc, program, Sem.run, Bind.bind, Sem.bind, hf, hn, hb, Pure.pure, Bool.false_eq_true, if_false]
end Go.Proofs.YtandanbojfdfjaaDoor
