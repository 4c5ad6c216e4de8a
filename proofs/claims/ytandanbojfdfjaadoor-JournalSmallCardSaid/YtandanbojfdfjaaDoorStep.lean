import Derived.Test.YtandanbojfdfjaaDoorBy
import Derived.Deep.RegionLaw
import Derived.Lib.AppendStr
namespace Go.Proofs.YtandanbojfdfjaaDoor
open Go.ChangeShapes Go.WideShapes Go.ChangeAt Go.RowKit

/-! Steps of a region that draws its order -/

/-- a call of a function of one argument by its contract -/
theorem step_fn {P : Program} {ops : Array Oper} {o : Oper} {a : Act} {K : Act → World → Prop} {Q : Exit → Act → World → Prop} {E : Prop} {w : World} (f : FuncId) (x : Operand) (ts : Array TypeId) (hg : o.guard = none)
    (ho : o.op = .call { callee := .value (.func f), args := #[x], argTypes := ts }) (hf : Enters P f) (R : Value → World → Prop) (hc : Calls P f #[a.eval x] w fun e w' => ∃ v, e = .returned v ∧ R v w')
    (hK : ∀ v w', R v w' → K (a.put o.dst v) w') :
    if Region.wanted o (yielded ops a.tmps) = true then Oper.wp P o a w K Q else E := by
  rw [if_pos (by simp [Region.wanted, hg])]
  unfold Oper.wp execOp
  have h0 : a.eval (.func f) = .func (.func f) #[] #[] := rfl
  have h1 := hf #[a.eval x] w
  generalize hu : a.eval x = u at *
  simp only [ho, resolve, h0, hu, invoke, Deferred.ofValue, Sem.run_bind, Sem.run_pure, Result.andThen_ok, List.map_toArray, List.map_cons, List.map_nil, Array.append_empty, Array.empty_append, h1]
  refine hc.mono ?_
  rintro e w' ⟨v, rfl, hr⟩
  exact hK v w' hr
/-- append of a string to a slice of bytes of the call's own -/
theorem step_aps {P : Program} {ops : Array Oper} {o : Oper} {a : Act} {K : Act → World → Prop} {Q : Exit → Act → World → Prop} {E : Prop} {w : World} (hg : o.guard = none) (s x : Operand) (t u : TypeId)
    (ho : o.op = .call { callee := .builtin .append, args := #[s, x], argTypes := #[t, u] })
    (base : Nat) (e : TypeId) (ht : P.underlying t = some (.slice e)) (hu : P.underlying u = some .string) (hE : (P.info? e).map (fun i => (i.zero, i.size, i.bytes)) = some (some (.int .u8 0), 1, 1))
    (v : Value) (n : Nat) (xs : List Value) (hs : a.eval s = v) (hown : w.ownsRow base e 1 v n xs) (st : ByteArray) (hx : a.eval x = .string st) (hn : n + st.size ≤ 137438953472) (hbase : base ≤ w.heap.size)
    (hK : ∀ v' w', w'.ownsRow base e 1 v' (n + st.size) (xs ++ Lib.strCells st) → w.grownBy w' v.ownBlock → K (a.put o.dst v') w') :
    if Region.wanted o (yielded ops a.tmps) = true then Oper.wp P o a w K Q else E := by
  rw [if_pos (by simp [Region.wanted, hg])]
  obtain ⟨i, hi, hz0, hz1, hz2⟩ := info_parts hE
  obtain ⟨v', w', hr, h2, h3, h4⟩ := Lib.run_append_own_string (P := P) w base t u o.type e i ht hu hi hz0 hz1 hz2 v n xs hown st (by simp only [maxLen]; omega) (by omega) hbase
  unfold Oper.wp execOp
  simp only [ho, resolve, invoke, builtin, Sem.run_bind, Sem.run_pure, Result.andThen_ok, List.map_toArray, List.map_cons, List.map_nil, hs, hx, hr]
  exact hK _ _ h2 h3
end Go.Proofs.YtandanbojfdfjaaDoor
