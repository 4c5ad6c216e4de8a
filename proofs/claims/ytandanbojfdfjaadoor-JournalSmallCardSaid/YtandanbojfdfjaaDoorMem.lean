import Derived.Test.YtandanbojfdfjaaDoorKit
import Derived.Maps.AppendAt
namespace Go.Proofs.YtandanbojfdfjaaDoor
open Go.ChangeShapes Go.WideShapes Go.ChangeAt Go.RowKit

/-! Blocks known whole, and what a call leaves as it was -/

abbrev Blk (w : World) (L t : Nat) (cs : Array Value) : Prop := w.heap[L]? = some (.cells cs t (0, 0))

theorem Blk.cell {w : World} {L t : Nat} {cs : Array Value} (h : Blk w L t cs) (i : Nat) (v : Value) (hv : cs[i]? = some v) : w.cell? ⟨L, i, none⟩ = some v := by
  rw [cell_of_row _ L i cs t (0, 0) h]; exact hv
theorem Blk.frozen {w : World} {L t : Nat} {cs : Array Value} (h : Blk w L t cs) (i : Nat) : w.frozen? ⟨L, i, none⟩ = false := frozen_of_row w L i cs t h
theorem Blk.lt {w : World} {L t : Nat} {cs : Array Value} (h : Blk w L t cs) : L < w.heap.size := (Array.getElem?_eq_some_iff.1 h).1
theorem Blk.set {w : World} {L t : Nat} {cs : Array Value} (h : Blk w L t cs) (i : Nat) (v : Value) : Blk (w.setCell ⟨L, i, none⟩ v) L t (cs.setIfInBounds i v) := heap_setCell_same w L i cs t v h
theorem Blk.new (w : World) (cs : Array Value) (t : Nat) : Blk (w.alloc (.cells cs t)) w.heap.size t cs := heap_alloc_new w _

/-- what is not in S is as it was -/
structure Kp (w w' : World) (S : Nat → Prop) : Prop where
  os : w'.os = w.os
  tape : w'.tape = w.tape
  output : w'.output = w.output
  size : w.heap.size ≤ w'.heap.size
  block : ∀ k, k < w.heap.size → ¬ S k → w'.heap[k]? = w.heap[k]?

theorem Kp.refl (w : World) (S : Nat → Prop) : Kp w w S := ⟨rfl, rfl, rfl, Nat.le_refl _, fun _ _ _ => rfl⟩
theorem Kp.mono {w w' : World} {S T : Nat → Prop} (h : Kp w w' S) (hST : ∀ k, k < w.heap.size → S k → T k) : Kp w w' T := ⟨h.os, h.tape, h.output, h.size, fun k hk hn => h.block k hk fun hs => hn (hST k hk hs)⟩
theorem Kp.of_below {w w' : World} (h : Below w.heap.size w w') (S : Nat → Prop) : Kp w w' S := ⟨h.os, h.tape, h.output, h.size, fun k hk _ => h.block k hk⟩
theorem Kp.trans {a b c : World} {S : Nat → Prop} (h : Kp a b S) (k : Kp b c S) : Kp a c S :=
  ⟨k.os.trans h.os, k.tape.trans h.tape, k.output.trans h.output, Nat.le_trans h.size k.size, fun j hj hn => (k.block j (by have := h.size; omega) hn).trans (h.block j hj hn)⟩
theorem Kp.below {w0 w w' : World} {S : Nat → Prop} (h : Kp w w' S) (hb : Below w0.heap.size w0 w) (hS : ∀ k, S k → w0.heap.size ≤ k) : Below w0.heap.size w0 w' :=
  ⟨h.os.trans hb.os, h.tape.trans hb.tape, h.output.trans hb.output, Nat.le_trans hb.size h.size, fun k hk => (h.block k (by have := hb.size; omega) (fun hs => by have := hS k hs; omega)).trans (hb.block k hk)⟩
theorem Kp.blk {w w' : World} {S : Nat → Prop} (h : Kp w w' S) {L t : Nat} {cs : Array Value} (hB : Blk w L t cs) (hn : ¬ S L) : Blk w' L t cs := (h.block L hB.lt hn).trans hB
theorem Kp.set (w : World) (L i : Nat) (v : Value) : Kp w (w.setCell ⟨L, i, none⟩ v) (fun k => k = L) :=
  ⟨rfl, rfl, rfl, by simp, fun k _ hn => heap_setCell_other w ⟨L, i, none⟩ k v hn⟩
theorem Kp.of_grown {w w' : World} {r : Option Nat} (h : w.grownBy w' r) : Kp w w' (fun k => r = some k) :=
  ⟨h.os, h.tape, h.output, h.size, fun k hk hn => h.block k hk fun e => hn e.symm⟩
theorem Kp.row {w w' : World} {S : Nat → Prop} (h : Kp w w' S) {base : Nat} {e : TypeId} {size n : Nat} {v : Value} {xs : List Value} (hr : w.ownsRow base e size v n xs)
    (hn : ∀ k, v.ownBlock = some k → ¬ S k) : w'.ownsRow base e size v n xs := by
  refine ⟨hr.1, ?_⟩
  rcases hr.2 with hh | ⟨g, cap, cur, rfl, hb, hgg, rest⟩
  · exact .inl hh
  · exact .inr ⟨g, cap, cur, rfl, hb, (h.block g (Array.getElem?_eq_some_iff.1 hgg).1 (hn g rfl)).trans hgg, rest⟩
/-- a block and a row of other elements are not one -/
theorem row_ne {w : World} {L t : Nat} {cs : Array Value} (hB : Blk w L t cs) {base : Nat} {e : TypeId} {size n : Nat} {v : Value} {xs : List Value} (hr : w.ownsRow base e size v n xs) (ht : e ≠ t) :
    v.ownBlock ≠ some L := by
  intro hv
  rcases hr.2 with ⟨rfl, _⟩ | ⟨g, cap, cur, rfl, hb, hgg, rest⟩
  · cases hv
  · obtain rfl : g = L := by simpa [Value.ownBlock] using hv
    rw [hB] at hgg
    simp at hgg
    exact ht hgg.2.symm

theorem row_form {w : World} {base : Nat} {e : TypeId} {size n : Nat} {v : Value} {xs : List Value} (hr : w.ownsRow base e size v (n + 1) xs) : ∃ g c, v = .slice (some ⟨g, 0, none⟩) (n + 1) c := by
  rcases hr.2 with ⟨_, h⟩ | ⟨g, cap, cur, rfl, _⟩
  · omega
  · exact ⟨g, cap, rfl⟩

theorem row_ge {w : World} {base : Nat} {e : TypeId} {size n : Nat} {v : Value} {xs : List Value} (hr : w.ownsRow base e size v n xs) : ∀ k, v.ownBlock = some k → base ≤ k := by
  intro k hk
  rcases hr.2 with ⟨rfl, _⟩ | ⟨g, cap, cur, rfl, hb, _⟩
  · cases hk
  · simp [Value.ownBlock] at hk; omega
theorem Kp.below2 {w w' : World} {S : Nat → Prop} (h : Kp w w' S) (hw : 2 ≤ w.heap.size) (hS : ∀ k, S k → 2 ≤ k) : Below 2 w w' :=
  ⟨h.os, h.tape, h.output, by have := h.size; omega, fun k hk => h.block k (by omega) (fun hs => by have := hS k hs; omega)⟩

/-- append(s, one element), the element just laid in a block of its own; the rest is kept -/
theorem ap_one_at {P : Program} {ops : Array Oper} {rest : List Oper} {o : Oper} {a : Act} {Q : Exit → Act → World → Prop} {w : World} (base : Nat) (hgd : o.guard = none) (s x : Operand) (t : TypeId)
    (ho : o.op = .call { callee := .builtin .append, args := #[s, x], argTypes := #[t, t] })
    {e : TypeId} {z : Value} {size bytes : Nat} (hE : Elem P t e z size bytes)
    {v : Value} {n : Nat} {xs : List Value} (news : List Value) (hown : w.ownsRow base e size v n xs) (hbase : base ≤ w.heap.size)
    (hs : a.eval s = v) (hx : a.eval x = .slice (some ⟨w.heap.size, 0, none⟩) 1 1) (hl : news.length = size) (h1 : ∀ u ∈ news, u.oneCell' = true) (hn : n < 137438953472)
    (h : ∀ v' w', w'.ownsRow base e size v' (n + 1) (xs ++ news) → Kp w w' (fun k => v.ownBlock = some k) → (∀ k, v'.ownBlock = some k → v.ownBlock = some k ∨ w.heap.size ≤ k) → wpList P ops Q rest (a.put o.dst v') w') :
    wpList P ops Q (o :: rest) a (w.alloc (.cells news.toArray e)) := by
  obtain ⟨i, hi, hz0, hz1, hz2⟩ := info_parts hE.info
  have hk : Kp w (w.alloc (.cells news.toArray e)) (fun k => v.ownBlock = some k) := Kp.of_below (below_alloc w _) _
  have hown' : (w.alloc (.cells news.toArray e)).ownsRow base e size v n xs := ownsRow_later hown (below_alloc w _)
  refine wpList_append_own_at _ hgd s x t ho base e i z size bytes hE.ht hi hz0 hz1 hz2 hE.hzs hE.hsz v n xs hs hown' ⟨w.heap.size, 0, none⟩ 1 1 news hx (by omega) ?_ h1 (by simp only [maxLen]; omega)
    (small_bytes (by omega) hE.hby) (by simp; omega) ?_
  · intro j u hu
    rw [add_lit']
    rw [cell_of_row _ w.heap.size (0 + j) news.toArray e (0, 0) (heap_alloc_new w _)]
    simpa using hu
  · intro v' w' hr hg _ hv
    refine h v' w' hr (hk.trans (Kp.of_grown hg)) fun k hk => ?_
    rcases hv with hv | hv
    · exact .inl (hv ▸ hk)
    · rw [hv] at hk
      right
      simp at hk
      omega
end Go.Proofs.YtandanbojfdfjaaDoor
