import Derived.Test.YtandanbojfdfjaaDoorROpen
namespace Go.Proofs.YtandanbojfdfjaaDoor
open Go.ChangeShapes Go.WideShapes Go.ChangeAt Go.RowKit

theorem setLast {cs : Array Value} {o : Nat} {b : Bs} {c : UInt8} (hr : ∀ j u, (bcs b)[j]? = some u → cs[o + j]? = some u) (hs : o + b.length < cs.size) :
    ∀ j u, (bcs (b ++ [c]))[j]? = some u → (cs.setIfInBounds (o + b.length) (.int .u8 (c.toNat : Int)))[o + j]? = some u := by
  intro j u hu
  rw [bcs, List.map_append] at hu
  rcases Nat.lt_trichotomy j b.length with h | h | h
  · rw [List.getElem?_append_left (by simpa using h)] at hu
    rw [Array.getElem?_setIfInBounds_ne (by omega)]
    exact hr j u hu
  · subst h
    rw [List.getElem?_append_right (by simp)] at hu
    simp at hu
    rw [Array.getElem?_setIfInBounds_self_of_lt hs, ← hu]
  · rw [List.getElem?_append_right (by simp; omega)] at hu
    have := (List.getElem?_eq_some_iff.1 hu).1
    simp at this
    omega
/-- append(bytes, one byte), as a run -/
theorem run_ap1 {w : World} {v : Value} {b : Bs} (c : UInt8) (ad : Nat) (ty : TypeId) (hby : By w v b) (hc : w.cell? ⟨ad, 0, none⟩ = some (.int .u8 (c.toNat : Int))) (hn : b.length ≤ 100000000) :
    ∃ v' w', (Builtin.append_ #[26, 26] ty #[v, .slice (some ⟨ad, 0, none⟩) 1 1]).run Tryd.prog w = .ok v' w' ∧ By w' v' (b ++ [c]) ∧ Kp w w' (fun k => v.ownBlock = some k) ∧ ∀ k, v'.ownBlock = some k → v.ownBlock = some k ∨ w.heap.size ≤ k := by
  obtain ⟨i, hi, hz0, hz1, hz2⟩ := info_parts eByte.info
  have hnews : ∀ j u, [Value.int .u8 (c.toNat : Int)][j]? = some u → w.cell? ((⟨ad, 0, none⟩ : Addr).add j) = some u := by
    intro j u hu
    have hj : j = 0 := by have := (List.getElem?_eq_some_iff.1 hu).1; simpa using this
    subst hj
    rw [add_lit', hc]
    simpa using hu
  have own_by : ∀ v' w', w'.ownsRow w.heap.size 5 1 v' (b.length + 1) (bcs b ++ [.int .u8 (c.toNat : Int)]) → By w' v' (b ++ [c]) := fun v' w' hr => by
    refine By.row (base := w.heap.size) ?_
    rw [List.length_append, List.length_singleton, bcs, List.map_append]
    exact hr
  rcases hby with ⟨rfl, rfl⟩ | ⟨g, off, cap, cs, rfl, hB, hc', hr, hz⟩
  · have hown : w.ownsRow w.heap.size 5 1 (.slice none 0 0) 0 [] := World.ownsRow_nil _ _ _ _
    obtain ⟨v', w', hrun, h2, h3, _⟩ := run_append_own (P := Tryd.prog) w w.heap.size 26 ty 5 i (.int .u8 0) 1 1 eByte.ht hi hz0 hz1 hz2 rfl (by omega) (.slice none 0 0) 0 [] hown ⟨ad, 0, none⟩ 1 1 [.int .u8 (c.toNat : Int)] rfl hnews (by simp [Value.oneCell']) (by simp only [maxLen]; omega) (by omega) (Nat.le_refl _)
    exact ⟨v', w', hrun, own_by v' w' h2, Kp.of_grown h3, fun k hk => .inr (row_ge h2 k hk)⟩
  · by_cases hroom : b.length + 1 ≤ cap
    · have hrun := run_append_room_cells (P := Tryd.prog) w 26 ty 5 i eByte.ht hi g off b.length cap ⟨ad, 0, none⟩ 1 1 [.int .u8 (c.toNat : Int)] (by simp [hz1]) hnews (by simp [Value.oneCell']) hroom
        (fun j hj => by
          have hj0 : j = 0 := by simpa using hj
          subst hj0
          rw [cell_of_row _ g _ cs 5 (0, 0) hB, hz1]
          simp
          omega) (fun j hj => hB.frozen _)
      rw [hz1] at hrun
      have e : w.setCells g (off + b.length * 1) [.int .u8 (c.toNat : Int)] = w.setCell ⟨g, off + b.length, none⟩ (.int .u8 (c.toNat : Int)) := by
        rw [Nat.mul_one]; rfl
      rw [e] at hrun
      have hlen : (b ++ [c]).length = b.length + 1 := by simp
      exact ⟨_, _, hrun, .inr ⟨g, off, cap, _, by rw [hlen], hB.set (off + b.length) (.int .u8 (c.toNat : Int)), by omega, setLast hr (by omega), by simpa using hz⟩, (Kp.set _ g _ _).mono (fun k _ hk => by subst hk; rfl), fun k hk => .inl hk⟩
    · obtain ⟨v', w', hrun, h2, h3⟩ := run_append_arg_grows (P := Tryd.prog) w 26 ty 5 i (.int .u8 0) 1 1 eByte.ht hi hz0 hz1 hz2 rfl (by omega) ⟨g, off, none⟩ b.length cap (bcs b) (by simp) (fun j u hu => by rw [add_lit']; exact hB.cell _ u (hr j u hu)) ⟨ad, 0, none⟩ 1 1 [.int .u8 (c.toNat : Int)] rfl hnews (by omega) (by simp only [maxLen]; omega) (by omega)
      exact ⟨v', w', hrun, own_by v' w' h2, (Kp.of_grown h3).mono (fun k _ hk => by cases hk), fun k hk => .inr (row_ge h2 k hk)⟩
theorem step_ap1 {ops : Array Oper} {o : Oper} {a : Act} {K : Act → World → Prop} {Q : Exit → Act → World → Prop} {E : Prop} {w : World} (hgd : o.guard = none) (s x : Operand)
    (ho : o.op = .call { callee := .builtin .append, args := #[s, x], argTypes := #[26, 26] }) {v : Value} {b : Bs} (c : UInt8) (ad : Nat) (hby : By w v b)
    (hs : a.eval s = v) (hx : a.eval x = .slice (some ⟨ad, 0, none⟩) 1 1) (hc : w.cell? ⟨ad, 0, none⟩ = some (.int .u8 (c.toNat : Int))) (hn : b.length ≤ 100000000)
    (h : ∀ v' w', By w' v' (b ++ [c]) → Kp w w' (fun k => v.ownBlock = some k) → (∀ k, v'.ownBlock = some k → v.ownBlock = some k ∨ w.heap.size ≤ k) → K (a.put o.dst v') w') :
    if Region.wanted o (yielded ops a.tmps) = true then Oper.wp Tryd.prog o a w K Q else E := by
  rw [if_pos (by simp [Region.wanted, hgd])]
  obtain ⟨v', w', hr, h2, h3, h4⟩ := run_ap1 c ad o.type hby hc hn
  unfold Oper.wp execOp
  simp only [ho, resolve, invoke, builtin, Sem.run_bind, Sem.run_pure, Result.andThen_ok, List.map_toArray, List.map_cons, List.map_nil, hs, hx, hr]
  exact h v' w' h2 h3 h4

def RDg (w : World) (E : Nat) (b : Bs) (p : Int) (g : Option Nat) : Prop := ∃ v, v.ownBlock = g ∧ Blk w E 83 (dsk v p) ∧ By w v b
def RLg (w : World) (base Y : Nat) (s : St) (cl : Bool) (r : Option Nat) : Prop := ∃ v, v.ownBlock = r ∧ Blk w Y 77 (rl v s.last s.size cl) ∧ w.ownsRow base 9 1 v s.recs.length (scs s.recs)
/-- what the reference's Append leaves -/
def AppQP (w : World) (base E Y : Nat) (g r : Option Nat) (res : Nat × Bs × Int × St × Bool) (e : Ending) (w' : World) : Prop :=
  e = .returned (.int .i64 res.1) ∧ ∃ g' r', RDg w' E res.2.1 res.2.2.1 g' ∧ RLg w' base Y res.2.2.2.1 res.2.2.2.2 r' ∧ (∀ k, g' = some k → g = some k ∨ w.heap.size ≤ k) ∧ (∀ k, r' = some k → r = some k ∨ w.heap.size ≤ k) ∧
    Kp w w' (fun k => k = E ∨ k = Y ∨ g = some k ∨ r = some k)
theorem RDg.kp {w w' : World} {S : Nat → Prop} {E : Nat} {b : Bs} {p : Int} {g : Option Nat} (h : RDg w E b p g) (hk : Kp w w' S) (h1 : ¬ S E) (h2 : ∀ k, g = some k → ¬ S k) : RDg w' E b p g := by
  obtain ⟨v, rfl, hD, hB⟩ := h
  refine ⟨v, rfl, hk.blk hD h1, ?_⟩
  rcases hB with h | ⟨g, o, c, cs, rfl, hB, hc, hr⟩
  · exact .inl h
  · exact .inr ⟨g, o, c, cs, rfl, hk.blk hB (h2 g rfl), hc, hr⟩
theorem RLg.kp {w w' : World} {S : Nat → Prop} {base Y : Nat} {s : St} {cl : Bool} {r : Option Nat} (h : RLg w base Y s cl r) (hk : Kp w w' S) (h1 : ¬ S Y) (h2 : ∀ k, r = some k → ¬ S k) : RLg w' base Y s cl r := by
  obtain ⟨v, rfl, hL, hr⟩ := h
  exact ⟨v, rfl, hk.blk hL h1, hk.row hr h2⟩
theorem RDg.below {w w' : World} {E : Nat} {b : Bs} {p : Int} {g : Option Nat} (h : RDg w E b p g) (hb : Below w.heap.size w w') : RDg w' E b p g := h.kp (Kp.of_below hb (fun _ => False)) (fun h => h) (fun _ _ h => h)
theorem RLg.below {w w' : World} {base Y : Nat} {s : St} {cl : Bool} {r : Option Nat} (h : RLg w base Y s cl r) (hb : Below w.heap.size w w') : RLg w' base Y s cl r := h.kp (Kp.of_below hb (fun _ => False)) (fun h => h) (fun _ _ h => h)
theorem RDg.blk {w : World} {E : Nat} {b : Bs} {p : Int} {g : Option Nat} (h : RDg w E b p g) : ∃ cs, Blk w E 83 cs := by obtain ⟨v, _, h, _⟩ := h; exact ⟨_, h⟩
theorem RLg.blk {w : World} {base Y : Nat} {s : St} {cl : Bool} {r : Option Nat} (h : RLg w base Y s cl r) : ∃ cs, Blk w Y 77 cs := by obtain ⟨v, _, h, _⟩ := h; exact ⟨_, h⟩
theorem RDg.gblk {w : World} {E : Nat} {b : Bs} {p : Int} {g : Option Nat} (h : RDg w E b p g) : ∀ k, g = some k → ∃ cs, Blk w k 5 cs := by
  obtain ⟨v, rfl, _, hB⟩ := h
  intro k hk
  rcases hB with ⟨rfl, _⟩ | ⟨g, o, c, cs', rfl, hB, _⟩
  · simp [Value.ownBlock] at hk
  · have e : g = k := by simpa [Value.ownBlock] using hk
    subst e
    exact ⟨_, hB⟩
theorem RLg.rblk {w : World} {base Y : Nat} {s : St} {cl : Bool} {r : Option Nat} (h : RLg w base Y s cl r) : ∀ k, r = some k → ∃ cs, Blk w k 9 cs := by
  obtain ⟨v, rfl, _, hr⟩ := h
  exact fun k hk => row_blk hr hk

def powK (p : Int) (k : Nat) : Int := if p < 0 then p else p - k
/-- between two rounds of the reference's loop -/
structure ApL (w wr : World) (E : Nat) (b li : Bs) (p : Int) (g : Option Nat) (k : Nat) : Prop where
  disk : ∃ v, Blk wr E 83 (dsk v (powK p k)) ∧ By wr v (b ++ li.take k) ∧ ∀ j, v.ownBlock = some j → g = some j ∨ w.heap.size ≤ j
  keep : Kp w wr (fun j => j = E ∨ g = some j ∨ w.heap.size ≤ j)
  pow : 0 ≤ p → (k : Int) ≤ p

theorem ApL.log {w wr : World} {E base Y k : Nat} {b li : Bs} {p p' : Int} {g r : Option Nat} {s : St} {cl : Bool} (h : ApL w wr E b li p g k) (hL : RLg w base Y s cl r) (hD : RDg w E b p' g) : RLg wr base Y s cl r := by
  obtain ⟨cy, hy⟩ := hL.blk
  obtain ⟨ce, he⟩ := hD.blk
  refine hL.kp h.keep ?_ fun j hj => ?_
  · rintro (e | e | e)
    · subst e; exact absurd (blk_ne hy he) (by decide)
    · obtain ⟨cg, hg⟩ := hD.gblk _ e
      exact absurd (blk_ne hy hg) (by decide)
    · have := hy.lt; omega
  · obtain ⟨cr, hr⟩ := hL.rblk j hj
    rintro (e | e | e)
    · subst e; exact absurd (blk_ne hr he) (by decide)
    · obtain ⟨cg, hg⟩ := hD.gblk _ e
      exact absurd (blk_ne hr hg) (by decide)
    · have := hr.lt; omega
theorem ApL.kpw {w wr : World} {E k : Nat} {b li : Bs} {p : Int} {g : Option Nat} (h : ApL w wr E b li p g k) : Kp w wr (fun j => j = E ∨ g = some j) := h.keep.mono fun j hj e => by
  rcases e with e | e | e
  · exact .inl e
  · exact .inr e
  · omega
/-- the power has failed in the middle -/
theorem ap_weak {w0 w wr : World} {E base Y k n : Nat} {b li : Bs} {p : Int} {g r : Option Nat} {s : St} (h : ApL w wr E b li p g k) (hL : RLg w base Y s false r) (hD : RDg w E b p g) (hb : Below w0.heap.size w0 w) (hz : powK p k = 0) (hkn : k < n) (hE : E < w0.heap.size) (hY : Y < w0.heap.size) :
    useR p n < n ∧ AppQP w0 base E Y g r (420, b ++ li.take (useR p n), useL p n, s, true) (.returned (.int .i64 420)) (wr.setCell ⟨Y, 3, none⟩ (.bool true)) := by
  have hp : ¬ p < 0 := by intro hp; unfold powK at hz; rw [if_pos hp] at hz; omega
  have hpk : p = k := by unfold powK at hz; rw [if_neg hp] at hz; omega
  have hu : useR p n = k := by unfold useR; rw [if_neg hp]; omega
  have hv : useL p n = 0 := by unfold useL; rw [if_neg hp]; omega
  obtain ⟨v, hr, hy, hrow⟩ := h.log hL hD
  obtain ⟨vd, hE', hB, hgo⟩ := h.disk
  rw [hz] at hE'
  have hk := Kp.set wr Y 3 (.bool true)
  have hne : E ≠ Y := by rintro rfl; exact absurd (blk_ne hE' hy) (by decide)
  rw [hu, hv]
  refine ⟨hkn, rfl, vd.ownBlock, r, ⟨vd, rfl, hk.blk hE' hne, hB.kp1 hk hy (by decide)⟩, ⟨v, hr, hy.set 3 (.bool true), hk.row hrow fun j hj e => row_ne hy hrow (show (9 : TypeId) ≠ 77 by decide) (e ▸ hj)⟩, fun j hj => ?_, fun j hj => .inl hj, ?_⟩
  · rcases hgo j hj with e | e
    · exact .inl e
    · exact .inr (Nat.le_trans hb.size e)
  · refine ((Kp.of_below hb _).trans ((h.kpw.mono fun j _ e => ?_).trans (hk.mono fun j _ e => .inr (.inl e))))
    rcases e with e | e
    · exact .inl e
    · exact .inr (.inr (.inl e))
theorem By.ne83 {w : World} {v : Value} {b : Bs} {D t : Nat} {cs : Array Value} (h : By w v b) (hD : Blk w D t cs) (ht : t ≠ 5) : ¬ v.ownBlock = some D := by
  rcases h with ⟨rfl, _⟩ | ⟨g, o, c, cs', rfl, hB, _⟩
  · simp [Value.ownBlock]
  · intro e
    have e : g = D := by simpa [Value.ownBlock] using e
    subst e
    exact ht (blk_ne hD hB)
theorem powK_next (p : Int) (k : Nat) : powK p (k + 1) = if p < 0 then p else powK p k - 1 := by
  unfold powK
  by_cases h : p < 0
  · rw [if_pos h, if_pos h]
  · rw [if_neg h, if_neg h, if_neg h]; omega
theorem ap_next {w wr wa w5 : World} {E k : Nat} {b li : Bs} {p : Int} {g : Option Nat} {vd v5 : Value} {c : UInt8} (h : ApL w wr E b li p g k) (hgo : ∀ j, vd.ownBlock = some j → g = some j ∨ w.heap.size ≤ j) (hE : Blk wa E 83 (dsk vd (powK p (k + 1)))) (hB : By wa vd (b ++ li.take k)) (hka : Kp wr wa (fun j => j = E))
    (h5 : By w5 v5 (b ++ li.take k ++ [c])) (hk5 : Kp wa w5 (fun j => vd.ownBlock = some j)) (hf5 : ∀ j, v5.ownBlock = some j → vd.ownBlock = some j ∨ wa.heap.size ≤ j) (hc : li.take (k + 1) = li.take k ++ [c]) (hp : 0 ≤ p → ((k + 1 : Nat) : Int) ≤ p) :
    ApL w (w5.setCell ⟨E, 0, none⟩ v5) E b li p g (k + 1) := by
  have hE5 := hk5.blk hE (hB.ne83 hE (by decide))
  have hs := Kp.set w5 E 0 v5
  refine ⟨⟨v5, hE5.set 0 v5, ?_, fun j hj => ?_⟩, ?_, hp⟩
  · rw [hc, ← List.append_assoc]
    exact h5.kp1 hs hE5 (by decide)
  · rcases hf5 j hj with e | e
    · exact hgo j e
    · exact .inr (Nat.le_trans h.keep.size (Nat.le_trans hka.size e))
  · refine h.keep.trans ((hka.mono fun j _ e => .inl e).trans ((hk5.mono fun j _ e => ?_).trans (hs.mono fun j _ e => .inl e)))
    rcases hgo j e with e | e
    · exact .inr (.inl e)
    · exact .inr (.inr e)
/-- all has been written -/
theorem ap_done {w0 w wr : World} {E base Y n : Nat} {b li : Bs} {p : Int} {g r : Option Nat} {s : St} (h : ApL w wr E b li p g n) (hL : RLg w base Y s false r) (hD : RDg w E b p g) (hb : Below w0.heap.size w0 w) (hn : li.take n = li) :
    ¬ useR p n < n ∧ (∃ g', RDg wr E (b ++ li) (useL p n) g' ∧ ∀ k, g' = some k → g = some k ∨ w0.heap.size ≤ k) ∧ Kp w0 wr (fun j => j = E ∨ g = some j) := by
  obtain ⟨vd, hE', hB, hgo⟩ := h.disk
  have hpow := h.pow
  rw [hn] at hB
  have hv : useL p n = powK p n := by
    unfold useL powK
    by_cases hp : p < 0
    · rw [if_pos hp, if_pos hp]
    · rw [if_neg hp, if_neg hp]
      have := hpow (by omega)
      omega
  refine ⟨?_, ⟨vd.ownBlock, ⟨vd, rfl, by rw [hv]; exact hE', hB⟩, fun j hj => ?_⟩, (Kp.of_below hb _).trans h.kpw⟩
  · unfold useR
    by_cases hp : p < 0
    · rw [if_pos hp]; omega
    · rw [if_neg hp]
      have := hpow (by omega)
      omega
  · rcases hgo j hj with e | e
    · exact .inl e
    · exact .inr (Nat.le_trans hb.size e)
theorem ap_end {w0 wr w3 w4 : World} {E base Y ck c1 g4 cp4 : Nat} {b : Bs} {p : Int} {g r : Option Nat} {s : St} {t X : ByteArray} {A1 : Option Addr}
    (hf : ¬ useR p X.size < X.size ∧ (∃ g', RDg wr E (b ++ X.data.toList) (useL p X.size) g' ∧ ∀ k, g' = some k → g = some k ∨ w0.heap.size ≤ k) ∧ Kp w0 wr (fun j => j = E ∨ g = some j)) (hL : RLg w0 base Y s false r) (hD : RDg w0 E b p g)
    (hy : Blk wr Y 77 (rl (.slice A1 s.recs.length c1) s.last s.size false)) (hrow : wr.ownsRow base 9 1 (.slice A1 s.recs.length c1) s.recs.length (scs s.recs)) (hr : (Value.slice A1 s.recs.length c1).ownBlock = r) (hk3 : Kp wr w3 (fun k => k = Y))
    (hr4 : w4.ownsRow base 9 1 (.slice (some ⟨g4, 0, none⟩) (s.recs.length + 1) cp4) (s.recs.length + 1) (scs s.recs ++ [.string t])) (hk4 : Kp w3 w4 (fun k => (Value.slice A1 s.recs.length c1).ownBlock = some k))
    (hv4 : ∀ k, (Value.slice (some ⟨g4, 0, none⟩) (s.recs.length + 1) cp4).ownBlock = some k → (Value.slice A1 s.recs.length c1).ownBlock = some k ∨ w3.heap.size ≤ k) (hck : chk s.last t.data.toList = ck) (hX : X.size = t.size + 6) (hs0 : w0.heap.size ≤ wr.heap.size) (hy3 : Blk w3 Y 77 ((rl (.slice A1 s.recs.length c1) s.last s.size false).setIfInBounds 1 (.int .i64 ck)) := by assumption) :
    AppQP w0 base E Y g r (0, b ++ X.data.toList, useL p X.size, s.add t.data.toList, false) (.returned (.int .i64 0)) ((w4.setCell ⟨Y, 0, none⟩ (.slice (some ⟨g4, 0, none⟩) (s.recs.length + 1) cp4)).setCell ⟨Y, 2, none⟩ (.int .i64 ((s.size : Int) + (X.size : Int)))) := by
  obtain ⟨_, ⟨g', hd, hgo⟩, hk⟩ := hf
  have hrowne : ∀ j, r = some j → ∃ cs, Blk wr j 9 cs := fun j hj => row_blk hrow (hr ▸ hj)
  have hy4 := hk4.blk hy3 (fun e => by
    obtain ⟨cs, h⟩ := hrowne Y (hr ▸ e)
    exact absurd (blk_ne h hy) (by decide))
  have hk5 : Kp w4 ((w4.setCell ⟨Y, 0, none⟩ (.slice (some ⟨g4, 0, none⟩) (s.recs.length + 1) cp4)).setCell ⟨Y, 2, none⟩ (.int .i64 ((s.size : Int) + (X.size : Int)))) (fun k => k = Y) := (Kp.set _ Y 0 _).trans (Kp.set _ Y 2 _)
  have hkk : Kp wr ((w4.setCell ⟨Y, 0, none⟩ (.slice (some ⟨g4, 0, none⟩) (s.recs.length + 1) cp4)).setCell ⟨Y, 2, none⟩ (.int .i64 ((s.size : Int) + (X.size : Int)))) (fun k => k = Y ∨ r = some k) :=
    (hk3.mono fun k _ e => .inl e).trans ((hk4.mono fun k _ e => .inr (hr ▸ e)).trans (hk5.mono fun k _ e => .inl e))
  refine ⟨rfl, g', some g4, hd.kp hkk ?_ ?_, ⟨.slice (some ⟨g4, 0, none⟩) (s.recs.length + 1) cp4, rfl, ?_, ?_⟩, hgo, fun j hj => ?_, ?_⟩
  · rintro (e | e)
    · subst e
      obtain ⟨cs, h⟩ := hd.blk
      exact absurd (blk_ne h hy) (by decide)
    · obtain ⟨cs, h⟩ := hd.blk
      obtain ⟨cs', h'⟩ := hrowne _ e
      exact absurd (blk_ne h h') (by decide)
  · intro j hj
    obtain ⟨cs, h⟩ := hd.gblk j hj
    rintro (e | e)
    · subst e; exact absurd (blk_ne h hy) (by decide)
    · obtain ⟨cs', h'⟩ := hrowne _ e
      exact absurd (blk_ne h h') (by decide)
  · have hb5 := (hy4.set 0 (.slice (some ⟨g4, 0, none⟩) (s.recs.length + 1) cp4)).set 2 (.int .i64 ((s.size : Int) + (X.size : Int)))
    have e1 : (((s.add t.data.toList).size : Nat) : Int) = (s.size : Int) + (X.size : Int) := by
      show ((s.size + t.data.toList.length + 6 : Nat) : Int) = _
      rw [len_toList]; omega
    have e2 : (s.add t.data.toList).last = ck := hck
    unfold rl
    rw [e1, e2]
    exact hb5
  · have hr5 := hk5.row hr4 fun k hk e => row_ne hy4 hr4 (show (9 : TypeId) ≠ 77 by decide) (e ▸ hk)
    simpa [St.add, scs] using hr5
  · have hj' : g4 = j := by simpa using hj
    subst hj'
    rcases hv4 g4 rfl with e | e
    · exact .inl (hr ▸ e)
    · exact .inr (Nat.le_trans hs0 (Nat.le_trans hk3.size e))
  · refine (hk.mono fun j _ e => ?_).trans (hkk.mono fun j _ e => ?_)
    · rcases e with e | e
      · exact .inl e
      · exact .inr (.inr (.inl e))
    · rcases e with e | e
      · exact .inr (.inl e)
      · exact .inr (.inr (.inr e))
theorem app_same (w : World) (base E Y : Nat) (b : Bs) (p : Int) (s : St) (cl : Bool) (g r : Option Nat) (n : Nat) {w' : World} (hD : RDg w E b p g) (hL : RLg w base Y s cl r) (hb : Below w.heap.size w w') :
    AppQP w base E Y g r (n, b, p, s, cl) (.returned (.int .i64 n)) w' :=
  ⟨rfl, g, r, hD.below hb, hL.below hb, fun k h => .inl h, fun k h => .inl h, Kp.of_below hb _⟩

set_option maxRecDepth 100000 in
set_option maxHeartbeats 8000000 in
theorem Append_ref (base E Y : Nat) (g r : Option Nat) (s : St) (cl : Bool) (b : Bs) (p : Int) (t : ByteArray) (w : World) (hD : RDg w E b p g) (hL : RLg w base Y s cl r) (hx : s.last < 9973) (hn : b.length ≤ 2000000) (hl : -(2^63) ≤ p) (hh : p < 2^63) (hss : s.size ≤ 1000000000) (hrl : s.recs.length ≤ 1000000000) (hbase : base ≤ w.heap.size) (ht : t.size ≤ maxLen) :
    Calls Tryd.prog 44 #[.pointer (some ⟨E, 0, none⟩), .pointer (some ⟨Y, 0, none⟩), .string t] w (AppQP w base E Y g r (appR b p s cl t.data.toList)) := by
  have HD := Lib.hid hD
  have HL := Lib.hid hL
  obtain ⟨vl, hvl, hY, hrow⟩ := hL
  have c3 := hY.cell 3 (.bool cl) rfl
  have c1 := hY.cell 1 (.int .i64 s.last) rfl
  have HY := Lib.hid hY
  have HRow := Lib.hid hrow
  clear hvl hY hrow hD
  cases cl with
  | true =>
    have HQ := Lib.hid (show appR b p s true t.data.toList = (423, b, p, s, true) by unfold appR; rw [if_pos rfl])
    go_enter Tryd.func44, Tryd.ntmps44
    go_wp2_with fail
    go_ret
    rw [HQ.out]
    exact app_same w base E Y b p s true g r 423 HD.out HL.out (Below.refl _ _)
  | false =>
    have HRc := Lib.hid (Rec_ref t w ht)
    have hltl : t.data.toList.length = t.size := len_toList t
    cases hrec : recB t.data.toList with
    | false =>
      have HQ := Lib.hid (show appR b p s false t.data.toList = (422, b, p, s, false) by unfold appR; rw [if_neg (by decide), if_pos hrec])
      rw [hrec] at HRc
      clear hrec hltl
      go_enter Tryd.func44, Tryd.ntmps44
      go_wp2_with fail
      refine HRc.out.mono ?_
      rintro e w' ⟨rfl, rfl⟩
      go_wp2_with fail
      go_ret
      rw [HQ.out]
      exact app_same w base E Y b p s false g r 422 HD.out HL.out (Below.refl _ _)
    | true =>
      have hts : t.size ≤ 200 := by have := recB_le hrec; omega
      have HLi := Lib.hid (Lin_ref (s.last : Int) t w (by omega) (by omega) ht)
      rw [linR_ok hx hrec] at HLi
      rw [hrec] at HRc
      have hll := lin_len s.last t.data.toList
      rw [hltl] at hll
      obtain ⟨X, hX⟩ : ∃ X : ByteArray, ⟨(lin s.last t.data.toList).toArray⟩ = X := ⟨_, rfl⟩
      have hXs : X.size = t.size + 6 := by rw [← hX]; show (lin s.last t.data.toList).toArray.size = _; rw [List.size_toArray, hll]
      have hXl : X.data.toList = lin s.last t.data.toList := by rw [← hX]
      rw [hX] at HLi
      have HXl := Lib.hid hXl
      have HRec := Lib.hid hrec
      clear hX hXl hll hltl hrec
      by_cases hf : 1048576 < b.length + (t.size + 6)
      · have HQ := Lib.hid (show appR b p s false t.data.toList = (4, b, p, s, false) by
          unfold appR
          rw [if_neg (by decide), if_neg (by rw [HRec.out]; decide), if_pos (by rw [len_toList]; exact hf)])
        have hbf : decide ((b.length : Int) + (X.size : Int) > 1048576) = true := decide_eq_true (by omega)
        have hXz : X.size ≤ 300 := by omega
        have HXs := Lib.hid hXs
        clear hXs hf
        go_enter Tryd.func44, Tryd.ntmps44
        go_wp2_with fail
        refine HRc.out.mono ?_
        rintro e w' ⟨rfl, rfl⟩
        go_wp2_with fail
        refine HLi.out.mono ?_
        rintro e w2 ⟨rfl, hb2⟩
        have HB2 := Lib.hid hb2
        obtain ⟨v0, _, hE, hB⟩ := HD.out.below hb2
        obtain ⟨A, c, rfl, _, hcap, _⟩ := hB.form
        have e0 := hE.cell 0 _ rfl
        clear hE hB hb2 c1 c3 HRc HLi
        go_wp2_with fail
        go_ret
        rw [HQ.out]
        exact app_same w base E Y b p s false g r 4 HD.out HL.out HB2.out
      · have hbf : decide ((b.length : Int) + (X.size : Int) > 1048576) = false := decide_eq_false (by omega)
        have HQ := Lib.hid (show appR b p s false t.data.toList = if useR p X.size < X.size then (420, b ++ X.data.toList.take (useR p X.size), useL p X.size, s, true) else (0, b ++ X.data.toList, useL p X.size, s.add t.data.toList, false) by
          unfold appR
          rw [if_neg (by decide), if_neg (by rw [HRec.out]; decide), if_neg (by rw [len_toList]; exact hf), HXl.out, hXs, len_toList])
        have hXz : X.size ≤ 300 := by omega
        have HXs := Lib.hid hXs
        clear hXs hf
        go_enter Tryd.func44, Tryd.ntmps44
        go_wp2_with fail
        refine HRc.out.mono ?_
        rintro e w' ⟨rfl, rfl⟩
        go_wp2_with fail
        refine HLi.out.mono ?_
        rintro e w2 ⟨rfl, hb2⟩
        have HB2 := Lib.hid hb2
        have HD2 := Lib.hid (HD.out.below hb2)
        have HL2 := Lib.hid (HL.out.below hb2)
        obtain ⟨v0, hv0, hE, hB⟩ := HD2.out
        have HA0 : Hid (ApL w2 w2 E b X.data.toList p g 0) := Lib.hid ⟨⟨v0, by
          have : powK p 0 = p := by unfold powK; split <;> omega
          rw [this]; exact hE, by simpa using hB, fun j hj => .inl (hv0 ▸ hj)⟩, Kp.refl _ _, fun h => by omega⟩
        obtain ⟨A, c, rfl, _, hcap, _⟩ := hB.form
        have e0 := hE.cell 0 _ rfl
        have HEl := Lib.hid hE.lt
        clear hE hB hb2 c1 c3 HRc HLi hv0
        go_wp2_with fail
        clear e0
        go_loopw [9] (fun i wr => ∃ k : Nat, k ≤ X.size ∧ i = .int .i64 k ∧ Hid (ApL w2 wr E b X.data.toList p g k)) (fun i _ => X.size - (intOf i).toNat)
        case atStart => exact ⟨0, Nat.zero_le _, rfl, HA0⟩
        case round =>
          obtain ⟨k, hk, rfl, HA⟩ := hrel
          obtain ⟨⟨vd, hE, hB, hgo⟩, hkeep, hpow⟩ := HA.out
          have HE := Lib.hid hE
          have HBy := Lib.hid hB
          have e1 := hE.cell 1 (.int .i64 (powK p k)) rfl
          by_cases hlt : k < X.size
          · by_cases hz : powK p k = 0
            · have hz' : (powK p k == 0) = true := by rw [beq_iff_eq]; exact hz
              obtain ⟨hus, hP⟩ := ap_weak HA.out HL2.out HD2.out HB2.out hz hlt (by have := HD.out.blk; obtain ⟨_, h⟩ := this; exact h.lt) (by have := HL.out.blk; obtain ⟨_, h⟩ := this; exact h.lt)
              have HF : Hid (AppQP w base E Y g r (appR b p s false t.data.toList) (.returned (.int .i64 420)) (wr.setCell ⟨Y, 3, none⟩ (.bool true))) := Lib.hid (by rw [HQ.out, if_pos hus]; exact hP)
              obtain ⟨vl2, _, hy, _⟩ := HA.out.log HL2.out HD2.out
              have c3 := hy.cell 3 (.bool false) rfl
              have f3 := hy.frozen 3
              clear hz hus hP hy hE hB hgo hkeep hpow
              generalize powK p k = pk at *
              go_wp2_with fail
              go_ret
              exact HF.out
            · have hz' : (powK p k == 0) = false := by rw [beq_eq_false_iff_ne]; exact hz
              have HXk := Lib.hid (take_snoc X k hlt)
              have HGo := Lib.hid hgo
              have hpn : 0 ≤ p → ((k + 1 : Nat) : Int) ≤ p := fun h => by
                have h1 := hpow h
                unfold powK at hz
                rw [if_neg (by omega)] at hz
                omega
              by_cases hp : p < 0
              · have hpk : powK p k = p := by unfold powK; rw [if_pos hp]
                have hb3 : decide (p > 0) = false := decide_eq_false (by omega)
                have HQ2 : Hid (Blk wr E 83 (dsk vd (powK p (k + 1))) ∧ By wr vd (b ++ X.data.toList.take k) ∧ Kp wr wr (fun j => j = E)) := Lib.hid ⟨by rw [powK_next, if_pos hp, ← hpk]; exact hE, hB, Kp.refl _ _⟩
                rw [hpk] at e1 hz'
                clear hz hE hB hgo hkeep hpow hpk
                go_upto_region 16 with fail
                obtain ⟨wq, rfl⟩ : ∃ wq : World, wq = wr := ⟨_, rfl⟩

                have hbel : Below wq.heap.size wq (wq.drew.alloc (.cells #[.int .u8 (X[k].toNat : Int)] 5)) := (Below.refl _ _).drew.trans (below_alloc wq.drew _)
                have HBq := Lib.hid ((HQ2.out.2.1).below hbel)
                have HEq := Lib.hid ((HQ2.out.1).below hbel)
                have HKq := Lib.hid (HQ2.out.2.2.trans (Kp.of_below hbel _))
                have HCq := Lib.hid ((Blk.new wq.drew #[.int .u8 (X[k].toNat : Int)] 5).cell 0 _ rfl)
                have g0 := HQ2.out.1.cell 0 _ rfl
                have z0 := HQ2.out.1.frozen 0
                have hEq : E < wq.heap.size := HQ2.out.1.lt
                have hbk : (b ++ X.data.toList.take k).length ≤ 100000000 := by rw [List.length_append, List.length_take]; omega
                obtain ⟨Ad, cd, rfl, _⟩ := HBy.out.form
                have hlen : (b ++ X.data.toList.take k).length = b.length + k := by rw [List.length_append, List.length_take, len_toList]; omega
                rw [hlen] at HBq HEq g0 HGo
                have HLn := Lib.hid hlen
                clear hbel e1 hlen
                go_region_law (refine step_ap1 rfl (.tmp 65) (.tmp 69) rfl X[k] wq.drew.heap.size HBq.out rfl rfl HCq.out hbk ?_; intro v5 w5 hby5 hk5 hf5; obtain ⟨A5, c5, rfl, _⟩ := hby5.form; have hE5 := hk5.blk HEq.out (HBq.out.ne83 HEq.out (by decide)); have g5 := hE5.cell 0 _ rfl; have z5 := hE5.frozen 0)
                all_goals
                  have HN := Lib.hid (ap_next HA.out HGo.out HEq.out HBq.out HKq.out hby5 hk5 hf5 HXk.out hpn)
                  rw [show (b ++ X.data.toList.take k ++ [X[k]]).length = b.length + (k + 1) by rw [List.length_append, HLn.out]; rfl] at HN
                  clear g5 z5 hE5 hby5 hk5 hf5 g0 z0
                  go_wp2_with fail
                  go_roundw
                  case rel => exact ⟨k + 1, by omega, by go_num, HN⟩
                  case measure => simp [intOf]; omega
              · have hpos : powK p k > 0 := by
                  unfold powK at hz ⊢
                  rw [if_neg hp] at hz ⊢
                  have := hpow (by omega)
                  omega
                have hb3 : decide (powK p k > 0) = true := decide_eq_true hpos
                have hbd : powK p k ≤ p := by unfold powK; rw [if_neg hp]; omega
                have hw : IntKind.i64.wrap (powK p k - 1) = powK p k - 1 := IntWalk.i64_in _ (by omega)
                have hk1 := Kp.set wr E 1 (.int .i64 (powK p k - 1))
                have HQ2 : Hid (Blk (wr.setCell ⟨E, 1, none⟩ (.int .i64 (powK p k - 1))) E 83 (dsk vd (powK p (k + 1))) ∧ By (wr.setCell ⟨E, 1, none⟩ (.int .i64 (powK p k - 1))) vd (b ++ X.data.toList.take k) ∧ Kp wr (wr.setCell ⟨E, 1, none⟩ (.int .i64 (powK p k - 1))) (fun j => j = E)) := Lib.hid ⟨by rw [powK_next, if_neg hp]; exact hE.set 1 _, hB.kp1 hk1 hE (by decide), hk1⟩
                have f1 := hE.frozen 1
                clear hz hE hB hgo hkeep hpow hpos hk1
                generalize hgk : powK p k = pk at e1 hz' hb3 hbd hw HQ2 HE
                go_upto_region 16 with fail
                generalize wr.setCell ⟨E, 1, none⟩ (.int .i64 (pk - 1)) = wq at *

                have hbel : Below wq.heap.size wq (wq.drew.alloc (.cells #[.int .u8 (X[k].toNat : Int)] 5)) := (Below.refl _ _).drew.trans (below_alloc wq.drew _)
                have HBq := Lib.hid ((HQ2.out.2.1).below hbel)
                have HEq := Lib.hid ((HQ2.out.1).below hbel)
                have HKq := Lib.hid (HQ2.out.2.2.trans (Kp.of_below hbel _))
                have HCq := Lib.hid ((Blk.new wq.drew #[.int .u8 (X[k].toNat : Int)] 5).cell 0 _ rfl)
                have g0 := HQ2.out.1.cell 0 _ rfl
                have z0 := HQ2.out.1.frozen 0
                have hEq : E < wq.heap.size := HQ2.out.1.lt
                have hbk : (b ++ X.data.toList.take k).length ≤ 100000000 := by rw [List.length_append, List.length_take]; omega
                obtain ⟨Ad, cd, rfl, _⟩ := HBy.out.form
                have hlen : (b ++ X.data.toList.take k).length = b.length + k := by rw [List.length_append, List.length_take, len_toList]; omega
                rw [hlen] at HBq HEq g0 HGo
                have HLn := Lib.hid hlen
                clear hbel e1 hlen
                go_region_law (refine step_ap1 rfl (.tmp 65) (.tmp 69) rfl X[k] wq.drew.heap.size HBq.out rfl rfl HCq.out hbk ?_; intro v5 w5 hby5 hk5 hf5; obtain ⟨A5, c5, rfl, _⟩ := hby5.form; have hE5 := hk5.blk HEq.out (HBq.out.ne83 HEq.out (by decide)); have g5 := hE5.cell 0 _ rfl; have z5 := hE5.frozen 0)
                all_goals
                  have HN := Lib.hid (ap_next HA.out HGo.out HEq.out HBq.out HKq.out hby5 hk5 hf5 HXk.out hpn)
                  rw [show (b ++ X.data.toList.take k ++ [X[k]]).length = b.length + (k + 1) by rw [List.length_append, HLn.out]; rfl] at HN
                  clear g5 z5 hE5 hby5 hk5 hf5 g0 z0
                  go_wp2_with fail
                  go_roundw
                  case rel => exact ⟨k + 1, by omega, by go_num, HN⟩
                  case measure => simp [intOf]; omega
          · obtain rfl : k = X.size := by omega
            obtain ⟨vl2, hvl2, hy, hrow⟩ := HA.out.log HL2.out HD2.out
            obtain ⟨A1, c1, rfl, hc1, _, _⟩ := row_rd hrow
            have HC := Lib.hid (Chk_ref (s.last : Int) t wr (by omega) (by omega) ht)
            rw [chkR_ok hx HRec.out] at HC
            have d1 := hy.cell 1 (.int .i64 s.last) rfl
            have f1 := hy.frozen 1
            have HFin := Lib.hid (ap_done HA.out HL2.out HD2.out HB2.out (n := X.size) (by rw [← len_toList]; exact List.take_length))
            have HY0 := Lib.hid hy
            have HRw := Lib.hid hrow
            have hbw : base ≤ wr.heap.size := Nat.le_trans hbase (Nat.le_trans HB2.out.size HA.out.keep.size)
            obtain ⟨ck, hck⟩ : ∃ ck, chk s.last t.data.toList = ck := ⟨_, rfl⟩
            rw [hck] at HC
            have HCk := Lib.hid hck
            clear hck hE hB hgo hkeep hpow e1 hy hrow
            go_wp2_with fail
            refine HC.out.mono ?_
            rintro e w' ⟨rfl, rfl⟩
            go_upto_region 18 with fail
            obtain ⟨wz, rfl⟩ : ∃ wz : World, wz = wr := ⟨_, rfl⟩
            have HY3 := Lib.hid (HY0.out.set 1 (.int .i64 ck))
            have HK3 := Lib.hid (Kp.set wz Y 1 (.int .i64 ck))
            have HR3 := Lib.hid (HK3.out.row HRw.out fun j hj e => row_ne HY0.out HRw.out (show (9 : TypeId) ≠ 77 by decide) (e ▸ hj))
            have hb3 : base ≤ (wz.setCell ⟨Y, 1, none⟩ (.int .i64 ck)).heap.size := by simpa using hbw
            clear d1 f1
            generalize wz.setCell ⟨Y, 1, none⟩ (.int .i64 ck) = w3 at *
            have e0 := HY3.out.cell 0 (.slice A1 s.recs.length c1) rfl
            go_wp2_with (at_builtin; refine ap_one_at base rfl (.tmp 89) (.tmp 91) 22 rfl eStr [.string t] HR3.out hb3 rfl rfl rfl (by simp [Value.oneCell']) (by omega) ?_; intro v4 w4 hr4 hk4 hv4; obtain ⟨g4, cp4, rfl⟩ := row_form hr4; have hL4 := hk4.blk HY3.out (row_ne HY3.out HR3.out (show (9 : TypeId) ≠ 77 by decide)); have k0 := hL4.cell 0 (.slice A1 s.recs.length c1) rfl; have k2 := hL4.cell 2 (.int .i64 s.size) rfl; have z0 := hL4.frozen 0; have z2 := hL4.frozen 2)
            go_ret
            rw [HQ.out, if_neg HFin.out.1]
            exact ap_end HFin.out HL.out HD.out HY0.out HRw.out hvl2 HK3.out hr4 hk4 hv4 HCk.out HXs.out (Nat.le_trans HB2.out.size HA.out.keep.size)
end Go.Proofs.YtandanbojfdfjaaDoor
