import Derived.Test.YtandanbojfdfjaaDoorBy
import Derived.Deep.RegionLaw
namespace Go.Proofs.YtandanbojfdfjaaDoor
open Go.ChangeShapes Go.WideShapes Go.ChangeAt Go.RowKit

/-! One step after the other of a region that draws its order, where one operation alone may come up -/
section
variable {P : Program} {md : Region.Mode} {ops : Array Oper} {Q : Exit → Act → World → Prop} {fuel : Nat} {listed : Array Bool} {a : Act} {w : World}

theorem any_op (i : Nat) {o : Oper} (hr : Region.ready md ops listed = [i]) (ho : ops[i]? = some o) (hw : Region.wanted o (yielded ops a.tmps) = true)
    (h : o.wp P a w (wpAny P md ops Q fuel (listed.setIfInBounds i true)) Q) : wpAny P md ops Q (fuel + 1) listed a w :=
  wpAny_ready hr (by simp) (AllReady.cons ho (fun _ hK => by rw [if_pos hw]; exact Oper.wp_mono hK h) AllReady.nil)
/-- two may come up -/
theorem any_two (i j : Nat) {o o' : Oper} (hr : Region.ready md ops listed = [i, j]) (ho : ops[i]? = some o) (hw : Region.wanted o (yielded ops a.tmps) = true) (ho' : ops[j]? = some o') (hw' : Region.wanted o' (yielded ops a.tmps) = true)
    (h : o.wp P a w (wpAny P md ops Q fuel (listed.setIfInBounds i true)) Q) (h' : o'.wp P a w (wpAny P md ops Q fuel (listed.setIfInBounds j true)) Q) : wpAny P md ops Q (fuel + 1) listed a w :=
  wpAny_ready hr (by simp) (AllReady.cons ho (fun _ hK => by rw [if_pos hw]; exact Oper.wp_mono hK h) (AllReady.cons ho' (fun _ hK => by rw [if_pos hw']; exact Oper.wp_mono hK h') AllReady.nil))

theorem op_val {o : Oper} {K : Act → World → Prop} {w' : World} (v : Value) (hrun : (execOp a.eval o).run P w = .ok (.value v) w') (h : K (a.put o.dst v) w') : o.wp P a w K Q := by
  unfold Oper.wp
  rw [hrun]
  exact h
theorem op_pure {o : Oper} {K : Act → World → Prop} (v : Value) (hrun : (execOp a.eval o).run P w = .ok (.value v) w) (h : K (a.put o.dst v) w) : o.wp P a w K Q := op_val v hrun h
theorem op_load {o : Oper} {K : Act → World → Prop} {t : TypeId} (x : Operand) (ad : Addr) (v : Value) (hop : o.op = .load t x) (ht : (isAgg t).run P w = .ok false w) (hx : a.eval x = .pointer (some ad)) (hc : w.cell? ad = some v) (h : K (a.put o.dst v) w) : o.wp P a w K Q := by
  refine op_val (w' := w) v ?_ h
  unfold execOp
  rw [hop]
  simp only [hx]
  simp [go_sem, ht, hc]
theorem op_conv {o : Oper} {K : Act → World → Prop} {w' : World} {s d : TypeId} (x : Operand) (u v : Value) (hop : o.op = .convert s d x) (hx : a.eval x = u) (hc : (convert s d u).run P w = .ok v w') (h : K (a.put o.dst v) w') : o.wp P a w K Q := by
  refine op_val (w' := w') v ?_ h
  unfold execOp
  rw [hop]
  simp only [hx, Sem.run_bind, hc, Result.andThen_ok, Sem.run_pure]
theorem op_call {o : Oper} {K : Act → World → Prop} (f : FuncId) (xs : Array Operand) (ts : Array TypeId) (args : Array Value) (hop : o.op = .call { callee := .value (.func f), args := xs, argTypes := ts }) (hx : xs.map a.eval = args) (hf : Enters P f)
    (hc : Calls P f args w fun e w' => ∃ v, e = .returned v ∧ K (a.put o.dst v) w') : o.wp P a w K Q := by
  unfold Oper.wp execOp
  have h0 : a.eval (.func f) = .func (.func f) #[] #[] := rfl
  have h1 := hf args w
  simp only [hop, resolve, h0, hx, invoke, Deferred.ofValue, Sem.run_bind, Sem.run_pure, Result.andThen_ok, Array.append_empty, Array.empty_append, h1]
  refine hc.mono ?_
  rintro e w' ⟨v, rfl, hr⟩
  exact hr

/-! The same, the step's result at hand (the goal stays 'wpAny ..') -/
theorem any_pure (i : Nat) {o : Oper} (v : Value) (hr : Region.ready md ops listed = [i]) (ho : ops[i]? = some o) (hw : Region.wanted o (yielded ops a.tmps) = true) (hrun : (execOp a.eval o).run P w = .ok (.value v) w)
    (h : wpAny P md ops Q fuel (listed.setIfInBounds i true) (a.put o.dst v) w) : wpAny P md ops Q (fuel + 1) listed a w := any_op i hr ho hw (op_pure v hrun h)
theorem any_skip (i : Nat) {o : Oper} (hr : Region.ready md ops listed = [i]) (ho : ops[i]? = some o) (hw : Region.wanted o (yielded ops a.tmps) = false)
    (h : wpAny P md ops Q fuel (listed.setIfInBounds i true) (a.put o.dst undef) w) : wpAny P md ops Q (fuel + 1) listed a w :=
  wpAny_ready hr (by simp) (AllReady.cons ho (fun _ hK => by rw [if_neg (by rw [hw]; exact Bool.false_ne_true)]; exact hK _ _ h) AllReady.nil)
theorem any_val (i : Nat) {o : Oper} {w' : World} (v : Value) (hr : Region.ready md ops listed = [i]) (ho : ops[i]? = some o) (hw : Region.wanted o (yielded ops a.tmps) = true) (hrun : (execOp a.eval o).run P w = .ok (.value v) w')
    (h : wpAny P md ops Q fuel (listed.setIfInBounds i true) (a.put o.dst v) w') : wpAny P md ops Q (fuel + 1) listed a w := any_op i hr ho hw (op_val v hrun h)
theorem any_load (i : Nat) {o : Oper} {t : TypeId} (x : Operand) (ad : Addr) (v : Value) (hr : Region.ready md ops listed = [i]) (ho : ops[i]? = some o) (hw : Region.wanted o (yielded ops a.tmps) = true) (hop : o.op = .load t x) (ht : (isAgg t).run P w = .ok false w) (hx : a.eval x = .pointer (some ad)) (hc : w.cell? ad = some v)
    (h : wpAny P md ops Q fuel (listed.setIfInBounds i true) (a.put o.dst v) w) : wpAny P md ops Q (fuel + 1) listed a w := any_op i hr ho hw (op_load x ad v hop ht hx hc h)
theorem any_conv (i : Nat) {o : Oper} {w' : World} {s d : TypeId} (x : Operand) (u v : Value) (hr : Region.ready md ops listed = [i]) (ho : ops[i]? = some o) (hw : Region.wanted o (yielded ops a.tmps) = true) (hop : o.op = .convert s d x) (hx : a.eval x = u) (hc : (convert s d u).run P w = .ok v w')
    (h : wpAny P md ops Q fuel (listed.setIfInBounds i true) (a.put o.dst v) w') : wpAny P md ops Q (fuel + 1) listed a w := any_op i hr ho hw (op_conv x u v hop hx hc h)
theorem any_call (i : Nat) {o : Oper} (f : FuncId) (xs : Array Operand) (ts : Array TypeId) (args : Array Value) (hr : Region.ready md ops listed = [i]) (ho : ops[i]? = some o) (hw : Region.wanted o (yielded ops a.tmps) = true) (hop : o.op = .call { callee := .value (.func f), args := xs, argTypes := ts }) (hx : xs.map a.eval = args) (hf : Enters P f)
    (hc : Calls P f args w fun e w' => ∃ v, e = .returned v ∧ wpAny P md ops Q fuel (listed.setIfInBounds i true) (a.put o.dst v) w') : wpAny P md ops Q (fuel + 1) listed a w := any_op i hr ho hw (op_call f xs ts args hop hx hf hc)
/-- a call, and something that makes a value, may come up -/
theorem any_call_val (i j : Nat) {o o' : Oper} {w' : World} (f : FuncId) (xs : Array Operand) (ts : Array TypeId) (args : Array Value) (v' : Value) (hr : Region.ready md ops listed = [i, j]) (ho : ops[i]? = some o) (ho' : ops[j]? = some o')
    (hw : Region.wanted o (yielded ops a.tmps) = true) (hw' : Region.wanted o' (yielded ops a.tmps) = true) (hop : o.op = .call { callee := .value (.func f), args := xs, argTypes := ts }) (hx : xs.map a.eval = args) (hf : Enters P f)
    (hrun : (execOp a.eval o').run P w = .ok (.value v') w')
    (hc : Calls P f args w fun e w' => ∃ v, e = .returned v ∧ wpAny P md ops Q fuel (listed.setIfInBounds i true) (a.put o.dst v) w')
    (h : wpAny P md ops Q fuel (listed.setIfInBounds j true) (a.put o'.dst v') w') : wpAny P md ops Q (fuel + 1) listed a w :=
  any_two i j hr ho hw ho' hw' (op_call f xs ts args hop hx hf hc) (op_val v' hrun h)
end
/-- the function returns behind its last region -/
theorem end_ret {P : Program} {fn : Func} {R : Ending → World → Prop} {K : Act → World → Prop} {Q' : Exit → Act → World → Prop} {a : Act} {w : World} {v : Value} (hQ : Q' = bodyPost P fn R) (hK : ∀ (a : Act) (w : World), Code.wp P Code.ret Q' a w → K a w)
    (hr : (results fn a.tmps).run P w = .ok v w) (hd : a.defers = []) (hR : R (.returned v) w) : Exit.then K Q' .normal a w := by
  subst hQ
  exact hK a w (wp_ret (bodyPost_ret hr hd hR))
theorem en14 : Enters Tryd.prog 14 := enters_of Tryd.func14 (by kernel_rfl) (by kernel_rfl)
theorem en15 : Enters Tryd.prog 15 := enters_of Tryd.func15 (by kernel_rfl) (by kernel_rfl)
theorem en16 : Enters Tryd.prog 16 := enters_of Tryd.func16 (by kernel_rfl) (by kernel_rfl)
theorem en17 : Enters Tryd.prog 17 := enters_of Tryd.func17 (by kernel_rfl) (by kernel_rfl)
theorem en24 : Enters Tryd.prog 24 := enters_of Tryd.func24 (by kernel_rfl) (by kernel_rfl)
end Go.Proofs.YtandanbojfdfjaaDoor

namespace Go.Proofs.YtandanbojfdfjaaDoor
open Go.ChangeShapes Go.WideShapes Go.ChangeAt Go.RowKit

section
variable {P : Program} {md : Region.Mode} {ops : Array Oper} {Q : Exit → Act → World → Prop} {fuel : Nat} {listed : Array Bool} {a : Act} {w : World}
/-- a call and a load may come up -/
theorem any_call_load (i j : Nat) {o o' : Oper} (f : FuncId) (xs : Array Operand) (ts : Array TypeId) (args : Array Value) {t : TypeId} (x : Operand) (ad : Addr) (v' : Value) (hr : Region.ready md ops listed = [i, j]) (ho : ops[i]? = some o) (ho' : ops[j]? = some o')
    (hw : Region.wanted o (yielded ops a.tmps) = true) (hw' : Region.wanted o' (yielded ops a.tmps) = true) (hop : o.op = .call { callee := .value (.func f), args := xs, argTypes := ts }) (hx : xs.map a.eval = args) (hf : Enters P f)
    (hop' : o'.op = .load t x) (ht : (isAgg t).run P w = .ok false w) (hx' : a.eval x = .pointer (some ad)) (hc' : w.cell? ad = some v')
    (hc : Calls P f args w fun e w' => ∃ v, e = .returned v ∧ wpAny P md ops Q fuel (listed.setIfInBounds i true) (a.put o.dst v) w')
    (h : wpAny P md ops Q fuel (listed.setIfInBounds j true) (a.put o'.dst v') w) : wpAny P md ops Q (fuel + 1) listed a w :=
  any_two i j hr ho hw ho' hw' (op_call f xs ts args hop hx hf hc) (op_load x ad v' hop' ht hx' hc' h)
/-- append(s, l...) comes up -/
theorem any_ap (i : Nat) {o : Oper} {w0 : World} (s x : Operand) (t : TypeId) (hr : Region.ready md ops listed = [i]) (ho : ops[i]? = some o) (hw : Region.wanted o (yielded ops a.tmps) = true)
    (hop : o.op = .call { callee := .builtin .append, args := #[s, x], argTypes := #[t, t] }) {e : TypeId} {z : Value} {size bytes : Nat} (hE : Elem P t e z size bytes) {v : Value} {n : Nat} {xs : List Value} (A : Option Addr) (m c : Nat) (news : List Value) (hown : Own w0 w e size v n xs)
    (hs : a.eval s = v) (hx : a.eval x = .slice A m c) (hl : news.length = m * size) (hrd : Rd w w.heap.size A news) (h1 : ∀ u ∈ news, u.oneCell' = true) (hn : n + m ≤ 137438953472)
    (h : ∀ v' w', Own w0 w' e size v' (n + m) (xs ++ news) → w.heap.size ≤ w'.heap.size → wpAny P md ops Q fuel (listed.setIfInBounds i true) (a.put o.dst v') w') : wpAny P md ops Q (fuel + 1) listed a w :=
  any_op i hr ho hw (wp_ap s x t hop hE A m c news hown hs hx hl hrd h1 hn h)
/-- .. or something that reads -/
theorem any_ap_val (i j : Nat) {o o' : Oper} {w0 w2 : World} (s x : Operand) (t : TypeId) (u : Value) (hr : Region.ready md ops listed = [i, j]) (ho : ops[i]? = some o) (ho' : ops[j]? = some o') (hw : Region.wanted o (yielded ops a.tmps) = true) (hw' : Region.wanted o' (yielded ops a.tmps) = true)
    (hop : o.op = .call { callee := .builtin .append, args := #[s, x], argTypes := #[t, t] }) {e : TypeId} {z : Value} {size bytes : Nat} (hE : Elem P t e z size bytes) {v : Value} {n : Nat} {xs : List Value} (A : Option Addr) (m c : Nat) (news : List Value) (hown : Own w0 w e size v n xs)
    (hs : a.eval s = v) (hx : a.eval x = .slice A m c) (hl : news.length = m * size) (hrd : Rd w w.heap.size A news) (h1 : ∀ u ∈ news, u.oneCell' = true) (hn : n + m ≤ 137438953472) (hrun : (execOp a.eval o').run P w = .ok (.value u) w2)
    (h : ∀ v' w', Own w0 w' e size v' (n + m) (xs ++ news) → w.heap.size ≤ w'.heap.size → wpAny P md ops Q fuel (listed.setIfInBounds i true) (a.put o.dst v') w')
    (h' : wpAny P md ops Q fuel (listed.setIfInBounds j true) (a.put o'.dst u) w2) : wpAny P md ops Q (fuel + 1) listed a w :=
  any_two i j hr ho hw ho' hw' (wp_ap s x t hop hE A m c news hown hs hx hl hrd h1 hn h) (op_val u hrun h')
/-- two conversions, or loads, may come up -/
theorem any_val_val (i j : Nat) {o o' : Oper} {w1 w2 : World} (v v' : Value) (hr : Region.ready md ops listed = [i, j]) (ho : ops[i]? = some o) (ho' : ops[j]? = some o')
    (hw : Region.wanted o (yielded ops a.tmps) = true) (hw' : Region.wanted o' (yielded ops a.tmps) = true) (hrun : (execOp a.eval o).run P w = .ok (.value v) w1) (hrun' : (execOp a.eval o').run P w = .ok (.value v') w2)
    (h : wpAny P md ops Q fuel (listed.setIfInBounds i true) (a.put o.dst v) w1)
    (h' : wpAny P md ops Q fuel (listed.setIfInBounds j true) (a.put o'.dst v') w2) : wpAny P md ops Q (fuel + 1) listed a w :=
  any_two i j hr ho hw ho' hw' (op_val v hrun h) (op_val v' hrun' h')

theorem ex_slice_h {o : Oper} {t : TypeId} {x y : Operand} {A : Option Addr} {n c m s : Nat} (hop : o.op = .slice t x none (some y) none) (ht : P.underlying t = some (.slice (P.elem t))) (hs : (sizeOf (P.elem t)).run P w = .ok s w)
    (hx : a.eval x = .slice A n c) (hy : a.eval y = .int .i64 (m : Int)) (hm : m ≤ c) : (execOp a.eval o).run P w = .ok (.value (.slice A m c)) w := by
  unfold execOp
  rw [hop]
  have h := run_slice_h (P := P) w t A n c ht .i64 (m : Int) (by omega) (by omega)
  have e : sliced A 0 (m : Int).toNat c s = .slice A m c := by
    unfold sliced
    rcases A with _ | ⟨b, o, sp⟩
    · simp
    · simp [Addr.add]
  simp only [Option.map, hx, hy, Sem.run_bind, run_sliceAt_slice (P := P) w t _ _ _ _ ht, h, hs, Result.andThen_ok, Sem.run_pure, e]
theorem ex_slice_lh {o : Oper} {t : TypeId} {x y z : Operand} {k off n c : Nat} {lo hi : Int} {l h s : Nat} (hop : o.op = .slice t x (some y) (some z) none) (ht : P.underlying t = some (.slice (P.elem t))) (hs : (sizeOf (P.elem t)).run P w = .ok s w) (h1 : s = 1)
    (hx : a.eval x = .slice (some ⟨k, off, none⟩) n c) (hy : a.eval y = .int .i64 lo) (hz : a.eval z = .int .i64 hi) (hl : lo = (l : Int)) (hh : hi = (h : Int)) (hlh : l ≤ h) (hhc : h ≤ c) (hlc : l < c) : (execOp a.eval o).run P w = .ok (.value (.slice (some ⟨k, off + l, none⟩) (h - l) (c - l))) w := by
  subst hl hh h1
  unfold execOp
  rw [hop]
  have hrun := run_slice_lh (P := P) w t (some ⟨k, off, none⟩) n c ht .i64 .i64 (l : Int) (h : Int) (by omega) (by omega) (by omega)
  have e : sliced (some ⟨k, off, none⟩) (l : Int).toNat (h : Int).toNat c 1 = .slice (some ⟨k, off + l, none⟩) (h - l) (c - l) := by
    unfold sliced
    rw [if_neg (by omega)]
    simp [add_lit']
  simp only [Option.map, hx, hy, hz, Sem.run_bind, run_sliceAt_slice (P := P) w t _ _ _ _ ht, hrun, hs, Result.andThen_ok, Sem.run_pure, e]
theorem ex_slice_l {o : Oper} {t : TypeId} {x y : Operand} {k off n c : Nat} {lo : Int} {l s : Nat} (hop : o.op = .slice t x (some y) none none) (ht : P.underlying t = some (.slice (P.elem t))) (hs : (sizeOf (P.elem t)).run P w = .ok s w) (h1 : s = 1)
    (hx : a.eval x = .slice (some ⟨k, off, none⟩) n c) (hy : a.eval y = .int .i64 lo) (hl : lo = (l : Int)) (hlh : l ≤ n) (hlc : l < c) : (execOp a.eval o).run P w = .ok (.value (.slice (some ⟨k, off + l, none⟩) (n - l) (c - l))) w := by
  subst hl h1
  unfold execOp
  rw [hop]
  have e : sliced (some ⟨k, off, none⟩) (l : Int).toNat n c 1 = .slice (some ⟨k, off + l, none⟩) (n - l) (c - l) := by
    unfold sliced
    rw [if_neg (by omega)]
    simp [add_lit']
  have hb : (Instr.slice t (.slice (some ⟨k, off, none⟩) n c) (some (.int .i64 (l : Int))) none none).run P w = .ok (sliced (some ⟨k, off, none⟩) (l : Int).toNat n c 1) w := by
    rw [run_slice_any (P := P) w t (some ⟨k, off, none⟩) n c ht]
    simp [Instr.sliceBounds, run_sliceBound, hs, hlh, Result.andThen]
  simp only [Option.map, hx, hy, Sem.run_bind, run_sliceAt_slice (P := P) w t _ _ _ _ ht, hb, Result.andThen_ok, Sem.run_pure, e]
theorem ex_indexAddr {o : Oper} {t : TypeId} {x y : Operand} {k off n c p s : Nat} {m : Int} (hop : o.op = .indexAddr t x y) (ht : P.underlying t = some (.slice (P.elem t))) (hs : (sizeOf (P.elem t)).run P w = .ok s w) (h1 : s = 1)
    (hx : a.eval x = .slice (some ⟨k, off, none⟩) n c) (hy : a.eval y = .int .i64 m) (hm : m = (p : Int)) (hp : p < n) : (execOp a.eval o).run P w = .ok (.value (.pointer (some ⟨k, off + p, none⟩))) w := by
  subst hm h1
  unfold execOp
  rw [hop]
  simp only [hx, hy, Sem.run_bind, run_indexAt_slice (P := P) w t _ _ _ _ _ ht]
  rw [if_pos (by omega)]
  simp only [hs, Result.andThen_ok, Sem.run_pure, Int.toNat_natCast, Nat.mul_one, add_lit']
theorem ex_bin {o : Oper} {op : BinOp} {t t2 : TypeId} {x y : Operand} {u v r : Value} (hop : o.op = .binOp op t x y t2) (hx : a.eval x = u) (hy : a.eval y = v) (hg : (eqGuard op t x y u v).run P w = .ok () w) (hb : (binOp op t u v).run P w = .ok r w) :
    (execOp a.eval o).run P w = .ok (.value r) w := by
  unfold execOp
  rw [hop]
  simp only [hx, hy, Sem.run_bind, hg, hb, Result.andThen_ok, Sem.run_pure]
theorem ex_load {o : Oper} {t : TypeId} (x : Operand) (ad : Addr) (v : Value) (hop : o.op = .load t x) (ht : (isAgg t).run P w = .ok false w) (hx : a.eval x = .pointer (some ad)) (hc : w.cell? ad = some v) : (execOp a.eval o).run P w = .ok (.value v) w := by
  unfold execOp
  rw [hop]
  simp only [hx]
  simp [go_sem, ht, hc]
theorem ex_conv {o : Oper} {w' : World} {s d : TypeId} (x : Operand) (u v : Value) (hop : o.op = .convert s d x) (hx : a.eval x = u) (hc : (convert s d u).run P w = .ok v w') : (execOp a.eval o).run P w = .ok (.value v) w' := by
  unfold execOp
  rw [hop]
  simp only [hx, Sem.run_bind, hc, Result.andThen_ok, Sem.run_pure]
end
theorem ex_index_str {a : Act} {w : World} {o : Oper} {x y : Operand} {s : ByteArray} {m : Int} {p : Nat} (hop : o.op = .index 9 x y) (hx : a.eval x = .string s) (hy : a.eval y = .int .i64 m) (hm : m = (p : Int)) (hp : p < s.size) :
    (execOp a.eval o).run Tryd.prog w = .ok (.value (.int .u8 (s[p].toNat : Int))) w := by
  subst hm
  unfold execOp
  rw [hop]
  simp only [hx, hy]
  simp [go_sem, hp]
theorem bin_neq_u8 (x y : Int) (w : World) (r : Bool) (hr : (x != y) = r) : (binOp .neq 5 (.int .u8 x) (.int .u8 y)).run Tryd.prog w = .ok (.bool r) w := by
  subst hr
  simp [go_sem, binOp]
theorem bin_add_int (t : TypeId) (x y : Int) (w : World) (r : Int) (hr : IntKind.i64.wrap (x + y) = r) : (binOp .add t (.int .i64 x) (.int .i64 y)).run Tryd.prog w = .ok (.int .i64 r) w := by
  subst hr
  simp [go_sem, binOp]
theorem bin_neq_int (t : TypeId) (_h : Tryd.prog.underlying t = some (.int .i64)) (x y : Int) (w : World) (r : Bool) (hr : (x != y) = r) : (binOp .neq t (.int .i64 x) (.int .i64 y)).run Tryd.prog w = .ok (.bool r) w := by
  subst hr
  simp [go_sem, binOp]
theorem bin_eql_str (x y : ByteArray) (w : World) (r : Bool) (hr : (x.toList == y.toList) = r) : (binOp .eql 9 (.string x) (.string y)).run Tryd.prog w = .ok (.bool r) w := by
  subst hr
  simp [go_sem, binOp, Op.stringOp]
theorem bin_eql_int (t : TypeId) (x y : Int) (w : World) (r : Bool) (hr : (x == y) = r) : (binOp .eql t (.int .i64 x) (.int .i64 y)).run Tryd.prog w = .ok (.bool r) w := by
  subst hr
  simp [go_sem, binOp]
theorem bin_lss_int (t : TypeId) (x y : Int) (w : World) (r : Bool) (hr : decide (x < y) = r) : (binOp .lss t (.int .i64 x) (.int .i64 y)).run Tryd.prog w = .ok (.bool r) w := by
  subst hr
  simp [go_sem, binOp]
theorem bin_gtr_int (t : TypeId) (x y : Int) (w : World) (r : Bool) (hr : decide (x > y) = r) : (binOp .gtr t (.int .i64 x) (.int .i64 y)).run Tryd.prog w = .ok (.bool r) w := by
  subst hr
  simp [go_sem, binOp]
theorem bin_neq_str (x y : ByteArray) (w : World) (r : Bool) (hr : (!x.toList == y.toList) = r) : (binOp .neq 9 (.string x) (.string y)).run Tryd.prog w = .ok (.bool r) w := by
  subst hr
  simp [go_sem, binOp, Op.stringOp]
theorem bin_sub_int (t : TypeId) (x y : Int) (w : World) (r : Int) (hr : IntKind.i64.wrap (x - y) = r) : (binOp .sub t (.int .i64 x) (.int .i64 y)).run Tryd.prog w = .ok (.int .i64 r) w := by
  subst hr
  simp [go_sem, binOp]
theorem en20 : Enters Tryd.prog 20 := enters_of Tryd.func20 (by kernel_rfl) (by kernel_rfl)
theorem en19 : Enters Tryd.prog 19 := enters_of Tryd.func19 (by kernel_rfl) (by kernel_rfl)
end Go.Proofs.YtandanbojfdfjaaDoor
