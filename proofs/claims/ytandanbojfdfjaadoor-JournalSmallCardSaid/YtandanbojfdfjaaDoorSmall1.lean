/- Lists of steps that are written down: as does takes them. No condition. -/
import Derived.Test.YtandanbojfdfjaaDoorFull
namespace Go.Proofs.YtandanbojfdfjaaDoor
open Go.ChangeShapes Go.WideShapes Go.ChangeAt Go.RowKit

abbrev Stp := Nat × ByteArray × Int
/-- a list of steps as cells -/
def scl : List Stp → List Value
  | [] => []
  | s :: l => .int .u8 (s.1 : Int) :: .string s.2.1 :: .int .i64 s.2.2 :: scl l
def stepOk (s : Stp) : Prop := s.1 < 256 ∧ s.2.1.size ≤ 300 ∧ -(2^63) ≤ s.2.2 ∧ s.2.2 < 2^63
def allOk : List Stp → Prop
  | [] => True
  | s :: l => stepOk s ∧ allOk l
theorem allOk.mem : ∀ {l : List Stp}, allOk l → ∀ s ∈ l, stepOk s
  | [], _, s, h => by simp at h
  | x :: l, h, s, hs => by
    rcases List.mem_cons.1 hs with rfl | hs
    · exact h.1
    · exact allOk.mem h.2 s hs
theorem okK (k : Nat) (h : k < 256) : stepOk (k, ⟨#[]⟩, 0) := ⟨h, by show 0 ≤ 300; omega, by show -(2^63) ≤ (0 : Int); omega, by show (0 : Int) < 2^63; omega⟩
theorem okT (t : ByteArray) (h : t.size ≤ 300) : stepOk (0, t, 0) := ⟨by show 0 < 256; omega, h, by show -(2^63) ≤ (0 : Int); omega, by show (0 : Int) < 2^63; omega⟩
theorem okN (n : Int) (h : -(2^63) ≤ n) (h2 : n < 2^63) : stepOk (6, ⟨#[]⟩, n) := ⟨by show 6 < 256; omega, by show 0 ≤ 300; omega, h, h2⟩
theorem scl_get : ∀ (l : List Stp) (k : Nat) (s : Stp), l[k]? = some s → (scl l)[k * 3]? = some (.int .u8 (s.1 : Int)) ∧ (scl l)[k * 3 + 1]? = some (.string s.2.1) ∧ (scl l)[k * 3 + 2]? = some (.int .i64 s.2.2)
  | [], k, s, h => by simp at h
  | x :: l, 0, s, h => by
    simp at h; subst h
    simp [scl]
  | x :: l, k + 1, s, h => by
    have := scl_get l k s (by simpa using h)
    refine ⟨?_, ?_, ?_⟩
    · rw [show (k + 1) * 3 = k * 3 + 1 + 1 + 1 by omega]; simpa [scl] using this.1
    · rw [show (k + 1) * 3 + 1 = (k * 3 + 1) + 1 + 1 + 1 by omega]; simpa [scl] using this.2.1
    · rw [show (k + 1) * 3 + 2 = (k * 3 + 2) + 1 + 1 + 1 by omega]; simpa [scl] using this.2.2

theorem steps_new (w : World) (G : Nat) (l : List Stp) (hB : Blk w G 54 (scl l).toArray) (hok : ∀ s ∈ l, stepOk s) :
    Steps w (some ⟨G, 0, none⟩) l.length (fun k => (l.getD k (0, .empty, 0)).1) (fun k => (l.getD k (0, .empty, 0)).2.1) (fun k => (l.getD k (0, .empty, 0)).2.2) := by
  have hg : ∀ k, k < l.length → ∃ s, l[k]? = some s ∧ l.getD k (0, .empty, 0) = s ∧ stepOk s := fun k hk =>
    ⟨l[k], by simp [hk], by simp [hk], hok _ (List.getElem_mem hk)⟩
  refine ⟨fun _ => ⟨G, 0, rfl, hB.lt, fun k hk => ?_⟩, fun k hk => ?_, fun k hk => ?_, fun k hk => ?_⟩
  · obtain ⟨s, h1, h2, _⟩ := hg k hk
    obtain ⟨a, b, c⟩ := scl_get l k s h1
    simp only [h2, Nat.zero_add]
    exact ⟨hB.cell _ _ (by simpa using a), hB.cell _ _ (by simpa using b), hB.cell _ _ (by simpa using c)⟩
  · obtain ⟨s, h1, h2, h3⟩ := hg k hk
    simp only [h2]; exact h3.1
  · obtain ⟨s, h1, h2, h3⟩ := hg k hk
    simp only [h2]; exact h3.2.1
  · obtain ⟨s, h1, h2, h3⟩ := hg k hk
    simp only [h2]; exact h3.2.2

/-- does with steps that are built -/
theorem does_new (A : Option Addr) (n c : Nat) (b : Bs) (p : Int) (l : List Stp) (m : Nat) (w w' : World) (g : Nat) (cs : Array Value) (hw : w' = w.alloc (.cells cs 54)) (hg : w.heap.size = g) (hcs : cs = (scl l).toArray) (hm : l.length = m) (hok : allOk l) (hm2 : m ≤ 1000)
    (hr : Rd w w.heap.size A (bcs b)) (hn : b.length = n) (hc : n ≤ c) (hb : n ≤ 100000) (hl : -(2^63) ≤ p) (hh : p < 2^63) (hT : Tb w) :
    Calls Tryd.prog 25 #[.slice A n c, .int .i64 p, .slice (some ⟨g, 0, none⟩) m m] w' fun e w2 => e = .returned (.bool true) ∧ Below w.heap.size w w2 := by
  subst hw hg hcs hm
  have hT2 : Tb (w.alloc (.cells (scl l).toArray 54)) := hT.below (below_alloc w _) hT.lt
  refine (does_any A n c b p (some ⟨w.heap.size, 0, none⟩) l.length l.length _ _ _ _ (hr.alloc _) hn hc hb hl hh (steps_new _ w.heap.size l (Blk.new w _ 54) hok.mem) hm2 hT2).mono ?_
  rintro e w2 ⟨rfl, hb2⟩
  exact ⟨rfl, (below_alloc w _).trans (hb2.mono (by simp))⟩

/-- bytes that are built, as a string -/
theorem conv_built (W : World) (l : Bs) (n : Nat) (g : Nat) (cs : Array Value) (hg : W.heap.size = g) (hcs : cs = (bcs l).toArray) (hn : l.length = n) :
    (convert 26 9 (.slice (some ⟨g, 0, none⟩) n n)).run Tryd.prog (W.alloc (.cells cs 5)) = .ok (.string ⟨l.toArray⟩) (W.alloc (.cells cs 5)) := by
  subst hg hcs hn
  refine By.conv (.inr ⟨W.heap.size, 0, l.length, (bcs l).toArray, rfl, Blk.new W _ 5, Nat.le_refl _, fun j u h => ?_, by simp⟩)
  rw [Nat.zero_add]
  simpa using h

/-- a byte, n times -/
def repX (ch : UInt8) (n : Nat) : ByteArray := ⟨(Lib.repeatL [ch] n).toArray⟩
theorem repX_size (ch : UInt8) (n : Nat) : (repX ch n).size = n := by
  show (Lib.repeatL [ch] n).toArray.size = n
  rw [List.size_toArray, Lib.repeatL_length]; simp
theorem rep_new (ch : UInt8) (n : Nat) (h2 : 2 ≤ n) (h3 : n ≤ 300) (W : World) : Calls Tryd.prog 27 #[.string ⟨#[ch]⟩, .int .i64 (n : Int)] W fun e w' => e = .returned (.string (repX ch n)) ∧ Below W.heap.size W w' :=
  Tryd.strings_Repeat_main ⟨#[ch]⟩ n W h2 (by omega) (by show 1 * n ≤ _; omega) (by show 0 < 1; omega)
theorem chkR_nat (x : Int) (l : Bs) : (chkR x l).1 ≤ 10000 := by
  unfold chkR
  split
  · have := chk_lt x.toNat l
    show chk x.toNat l ≤ 10000
    omega
  · exact Nat.zero_le _
theorem linR_len (x : Int) (l : Bs) : ((linR x l).1).length ≤ l.length + 6 := by
  unfold linR
  split
  · show (lin x.toNat l).length ≤ _
    rw [lin_eq, List.length_append, lin0_len]; simp
  · exact Nat.zero_le _

/-- append of a string to bytes of the call's own -/
theorem ap_str {ops : Array Oper} {rest : List Oper} {o : Oper} {a : Act} {Q : Exit → Act → World → Prop} {w w0 : World} (hgd : o.guard = none) (s x : Operand)
    (ho : o.op = .call { callee := .builtin .append, args := #[s, x], argTypes := #[26, 9] })
    {v : Value} {n : Nat} {xs : List Value} (st : ByteArray) (hown : Own w0 w 5 1 v n xs)
    (hs : a.eval s = v) (hx : a.eval x = .string st) (hn : n + st.size ≤ 137438953472)
    (h : ∀ v' w', Own w0 w' 5 1 v' (n + st.size) (xs ++ bcs st.data.toList) → wpList Tryd.prog ops Q rest (a.put o.dst v') w') :
    wpList Tryd.prog ops Q (o :: rest) a w := by
  refine wpList_plain hgd fun K hK => ?_
  obtain ⟨i, hi, hz0, hz1, hz2⟩ := info_parts (show (Tryd.prog.info? 5).map (fun i => (i.zero, i.size, i.bytes)) = some (some (Value.int .u8 0), 1, 1) by kernel_rfl)
  obtain ⟨v', w', hr, h2, h3, h4⟩ := Lib.run_append_own_string (P := Tryd.prog) w w0.heap.size 26 9 o.type 5 i (by kernel_rfl) (by kernel_rfl) hi hz0 hz1 hz2 v n xs hown.row st (by simp only [maxLen]; omega) (by omega) hown.bel.size
  unfold Oper.wp execOp
  simp only [ho, resolve, invoke, builtin, Sem.run_bind, Sem.run_pure, Result.andThen_ok, List.map_toArray, List.map_cons, List.map_nil, hs, hx, hr]
  exact hK _ _ (h _ _ ⟨h2, hown.bel.grown h3 hown.bel.size (fun k hk => (hown.row.lt k hk).1)⟩)

/-- one byte of bytes of the call's own is written -/
theorem own_set {w0 w : World} {v : Value} {n : Nat} {b : Bs} (h : Own w0 w 5 1 v n (bcs b)) (hn : b.length = n) (k : Nat) (hk : k < n) :
    ∃ g c u, v = .slice (some ⟨g, 0, none⟩) n c ∧ w.cell? ⟨g, k, none⟩ = some u ∧ w.frozen? ⟨g, k, none⟩ = false ∧ n ≤ c ∧
      ∀ ch : UInt8, Below w0.heap.size w0 (w.setCell ⟨g, k, none⟩ (.int .u8 (ch.toNat : Int))) ∧ Rd (w.setCell ⟨g, k, none⟩ (.int .u8 (ch.toNat : Int))) (w.setCell ⟨g, k, none⟩ (.int .u8 (ch.toNat : Int))).heap.size (some ⟨g, 0, none⟩) (bcs (b.set k ch)) := by
  subst hn
  rcases h.row.2 with ⟨rfl, h0⟩ | ⟨g, cap, cur, rfl, hg, hh, hnc, hm, hs, ht⟩
  · omega
  · have hB : By w (.slice (some ⟨g, 0, none⟩) b.length cap) b := By.row h.row
    rcases hB with ⟨h1, _⟩ | ⟨g', o, c', cs, e, hB, hc, hr, hz⟩
    · cases h1
    · cases e
      have hu := hr k (.int .u8 ((b.getD k 0).toNat : Int)) (by simp [bcs, hk])
      rw [Nat.zero_add] at hu
      refine ⟨g, cap, _, rfl, hB.cell k _ hu, hB.frozen k, hc, fun ch => ⟨(Kp.set w g k _).below h.bel (fun k' e => by subst e; exact hg), ?_⟩⟩
      have hs2 := By.setAt hB rfl hc hr hz hk (ch := ch)
      rw [Nat.zero_add] at hs2
      obtain ⟨A, c2, e2, hrd, _⟩ := hs2.form
      simp only [Value.slice.injEq] at e2
      obtain ⟨rfl, _, rfl⟩ := e2
      exact hrd
end Go.Proofs.YtandanbojfdfjaaDoor
