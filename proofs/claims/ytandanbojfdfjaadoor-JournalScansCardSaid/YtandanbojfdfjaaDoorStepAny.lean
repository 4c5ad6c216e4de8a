import Derived.Test.YtandanbojfdfjaaDoorBy
import Derived.Deep.RegionLaw
namespace Go.Proofs.YtandanbojfdfjaaDoor
open Go.ChangeShapes Go.WideShapes Go.ChangeAt Go.RowKit

/-! One step after the other of a region that draws its order, where one operation alone may come up -/
section
variable {P : Program} {md : Region.Mode} {ops : Array Oper} {Q : Exit → Act → World → Prop} {fuel : Nat} {listed : Array Bool} {a : Act} {w : World}

theorem any_op (i : Nat) {o : Oper} (hr : Region.ready md ops listed = [i]) (ho : ops[i]? = some o) (hw : Region.wanted o (yielded ops a.tmps) = true)
    (h : o.wp P a w (wpAny P md ops Q fuel (listed.setIfInBounds i true)) Q) : wpAny P md ops Q (fuel + 1) listed a w :=
  wpAny_ready hr (by simp) (AllReady.cons ho (fun _ hK => by rw [if_pos hw]; exact Oper.wp_mono hK h) AllReady.nil)
/-- two may come up -/
theorem any_two (i j : Nat) {o o' : Oper} (hr : Region.ready md ops listed = [i, j]) (ho : ops[i]? = some o) (hw : Region.wanted o (yielded ops a.tmps) = true) (ho' : ops[j]? = some o') (hw' : Region.wanted o' (yielded ops a.tmps) = true)
    (h : o.wp P a w (wpAny P md ops Q fuel (listed.setIfInBounds i true)) Q) (h' : o'.wp P a w (wpAny P md ops Q fuel (listed.setIfInBounds j true)) Q) : wpAny P md ops Q (fuel + 1) listed a w :=
  wpAny_ready hr (by simp) (AllReady.cons ho (fun _ hK => by rw [if_pos hw]; exact Oper.wp_mono hK h) (AllReady.cons ho' (fun _ hK => by rw [if_pos hw']; exact Oper.wp_mono hK h') AllReady.nil))

theorem op_val {o : Oper} {K : Act → World → Prop} {w' : World} (v : Value) (hrun : (execOp a.eval o).run P w = .ok (.value v) w') (h : K (a.put o.dst v) w') : o.wp P a w K Q := by
  unfold Oper.wp
  rw [hrun]
  exact h
theorem op_pure {o : Oper} {K : Act → World → Prop} (v : Value) (hrun : (execOp a.eval o).run P w = .ok (.value v) w) (h : K (a.put o.dst v) w) : o.wp P a w K Q := op_val v hrun h
theorem op_load {o : Oper} {K : Act → World → Prop} {t : TypeId} (x : Operand) (ad : Addr) (v : Value) (hop : o.op = .load t x) (ht : (isAgg t).run P w = .ok false w) (hx : a.eval x = .pointer (some ad)) (hc : w.cell? ad = some v) (h : K (a.put o.dst v) w) : o.wp P a w K Q := by
  refine op_val (w' := w) v ?_ h
  unfold execOp
  rw [hop]
  simp only [hx]
  simp [go_sem, ht, hc]
theorem op_conv {o : Oper} {K : Act → World → Prop} {w' : World} {s d : TypeId} (x : Operand) (u v : Value) (hop : o.op = .convert s d x) (hx : a.eval x = u) (hc : (convert s d u).run P w = .ok v w') (h : K (a.put o.dst v) w') : o.wp P a w K Q := by
  refine op_val (w' := w') v ?_ h
  unfold execOp
  rw [hop]
  simp only [hx, Sem.run_bind, hc, Result.andThen_ok, Sem.run_pure]
theorem op_call {o : Oper} {K : Act → World → Prop} (f : FuncId) (xs : Array Operand) (ts : Array TypeId) (args : Array Value) (hop : o.op = .call { callee := .value (.func f), args := xs, argTypes := ts }) (hx : xs.map a.eval = args) (hf : Enters P f)
    (hc : Calls P f args w fun e w' => ∃ v, e = .returned v ∧ K (a.put o.dst v) w') : o.wp P a w K Q := by
  unfold Oper.wp execOp
  have h0 : a.eval (.func f) = .func (.func f) #[] #[] := rfl
  have h1 := hf args w
  simp only [hop, resolve, h0, hx, invoke, Deferred.ofValue, Sem.run_bind, Sem.run_pure, Result.andThen_ok, Array.append_empty, Array.empty_append, h1]
  refine hc.mono ?_
  rintro e w' ⟨v, rfl, hr⟩
  exact hr

/-! The same, the step's result at hand (the goal stays 'wpAny ..') -/
theorem any_pure (i : Nat) {o : Oper} (v : Value) (hr : Region.ready md ops listed = [i]) (ho : ops[i]? = some o) (hw : Region.wanted o (yielded ops a.tmps) = true) (hrun : (execOp a.eval o).run P w = .ok (.value v) w)
    (h : wpAny P md ops Q fuel (listed.setIfInBounds i true) (a.put o.dst v) w) : wpAny P md ops Q (fuel + 1) listed a w := any_op i hr ho hw (op_pure v hrun h)
theorem any_skip (i : Nat) {o : Oper} (hr : Region.ready md ops listed = [i]) (ho : ops[i]? = some o) (hw : Region.wanted o (yielded ops a.tmps) = false)
    (h : wpAny P md ops Q fuel (listed.setIfInBounds i true) (a.put o.dst undef) w) : wpAny P md ops Q (fuel + 1) listed a w :=
  wpAny_ready hr (by simp) (AllReady.cons ho (fun _ hK => by rw [if_neg (by rw [hw]; exact Bool.false_ne_true)]; exact hK _ _ h) AllReady.nil)
theorem any_val (i : Nat) {o : Oper} {w' : World} (v : Value) (hr : Region.ready md ops listed = [i]) (ho : ops[i]? = some o) (hw : Region.wanted o (yielded ops a.tmps) = true) (hrun : (execOp a.eval o).run P w = .ok (.value v) w')
    (h : wpAny P md ops Q fuel (listed.setIfInBounds i true) (a.put o.dst v) w') : wpAny P md ops Q (fuel + 1) listed a w := any_op i hr ho hw (op_val v hrun h)
theorem any_load (i : Nat) {o : Oper} {t : TypeId} (x : Operand) (ad : Addr) (v : Value) (hr : Region.ready md ops listed = [i]) (ho : ops[i]? = some o) (hw : Region.wanted o (yielded ops a.tmps) = true) (hop : o.op = .load t x) (ht : (isAgg t).run P w = .ok false w) (hx : a.eval x = .pointer (some ad)) (hc : w.cell? ad = some v)
    (h : wpAny P md ops Q fuel (listed.setIfInBounds i true) (a.put o.dst v) w) : wpAny P md ops Q (fuel + 1) listed a w := any_op i hr ho hw (op_load x ad v hop ht hx hc h)
theorem any_conv (i : Nat) {o : Oper} {w' : World} {s d : TypeId} (x : Operand) (u v : Value) (hr : Region.ready md ops listed = [i]) (ho : ops[i]? = some o) (hw : Region.wanted o (yielded ops a.tmps) = true) (hop : o.op = .convert s d x) (hx : a.eval x = u) (hc : (convert s d u).run P w = .ok v w')
    (h : wpAny P md ops Q fuel (listed.setIfInBounds i true) (a.put o.dst v) w') : wpAny P md ops Q (fuel + 1) listed a w := any_op i hr ho hw (op_conv x u v hop hx hc h)
theorem any_call (i : Nat) {o : Oper} (f : FuncId) (xs : Array Operand) (ts : Array TypeId) (args : Array Value) (hr : Region.ready md ops listed = [i]) (ho : ops[i]? = some o) (hw : Region.wanted o (yielded ops a.tmps) = true) (hop : o.op = .call { callee := .value (.func f), args := xs, argTypes := ts }) (hx : xs.map a.eval = args) (hf : Enters P f)
    (hc : Calls P f args w fun e w' => ∃ v, e = .returned v ∧ wpAny P md ops Q fuel (listed.setIfInBounds i true) (a.put o.dst v) w') : wpAny P md ops Q (fuel + 1) listed a w := any_op i hr ho hw (op_call f xs ts args hop hx hf hc)
/-- a call, and something that makes a value, may come up -/
theorem any_call_val (i j : Nat) {o o' : Oper} {w' : World} (f : FuncId) (xs : Array Operand) (ts : Array TypeId) (args : Array Value) (v' : Value) (hr : Region.ready md ops listed = [i, j]) (ho : ops[i]? = some o) (ho' : ops[j]? = some o')
    (hw : Region.wanted o (yielded ops a.tmps) = true) (hw' : Region.wanted o' (yielded ops a.tmps) = true) (hop : o.op = .call { callee := .value (.func f), args := xs, argTypes := ts }) (hx : xs.map a.eval = args) (hf : Enters P f)
    (hrun : (execOp a.eval o').run P w = .ok (.value v') w')
    (hc : Calls P f args w fun e w' => ∃ v, e = .returned v ∧ wpAny P md ops Q fuel (listed.setIfInBounds i true) (a.put o.dst v) w')
    (h : wpAny P md ops Q fuel (listed.setIfInBounds j true) (a.put o'.dst v') w') : wpAny P md ops Q (fuel + 1) listed a w :=
  any_two i j hr ho hw ho' hw' (op_call f xs ts args hop hx hf hc) (op_val v' hrun h)
end
/-- the function returns behind its last region -/
theorem end_ret {P : Program} {fn : Func} {R : Ending → World → Prop} {K : Act → World → Prop} {Q' : Exit → Act → World → Prop} {a : Act} {w : World} {v : Value} (hQ : Q' = bodyPost P fn R) (hK : ∀ (a : Act) (w : World), Code.wp P Code.ret Q' a w → K a w)
    (hr : (results fn a.tmps).run P w = .ok v w) (hd : a.defers = []) (hR : R (.returned v) w) : Exit.then K Q' .normal a w := by
  subst hQ
  exact hK a w (wp_ret (bodyPost_ret hr hd hR))
theorem en14 : Enters Tryd.prog 14 := enters_of Tryd.func14 (by kernel_rfl) (by kernel_rfl)
theorem en15 : Enters Tryd.prog 15 := enters_of Tryd.func15 (by kernel_rfl) (by kernel_rfl)
theorem en16 : Enters Tryd.prog 16 := enters_of Tryd.func16 (by kernel_rfl) (by kernel_rfl)
theorem en17 : Enters Tryd.prog 17 := enters_of Tryd.func17 (by kernel_rfl) (by kernel_rfl)
theorem en24 : Enters Tryd.prog 24 := enters_of Tryd.func24 (by kernel_rfl) (by kernel_rfl)
end Go.Proofs.YtandanbojfdfjaaDoor
