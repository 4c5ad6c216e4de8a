import Derived.Test.YtandanbojfdfjaaDoorRScan
import Derived.ArgAppend
import Derived.Deep.RegionLaw
import Derived.Deep.CutBlock
import Derived.Deep.DeepCutAuto
namespace Go.Proofs.YtandanbojfdfjaaDoor
open Go.ChangeShapes Go.WideShapes Go.ChangeAt Go.RowKit

/-! The reference's disk -/
def RDk (w : World) (E : Nat) (b : Bs) (p : Int) : Prop := ∃ v, Blk w E 83 (dsk v p) ∧ By w v b
theorem RDk.lt {w : World} {E : Nat} {b : Bs} {p : Int} (h : RDk w E b p) : E < w.heap.size := by obtain ⟨v, h, _⟩ := h; exact h.lt
theorem RDk.kp {w w' : World} {S : Nat → Prop} {E : Nat} {b : Bs} {p : Int} (h : RDk w E b p) (hk : Kp w w' S) (h1 : ¬ S E) (h2 : ∀ k cs, Blk w k 5 cs → ¬ S k) : RDk w' E b p := by
  obtain ⟨v, hD, hB⟩ := h
  exact ⟨v, hk.blk hD h1, hB.kp hk h2⟩
theorem RDk.below {w w' : World} {E : Nat} {b : Bs} {p : Int} (h : RDk w E b p) (hb : Below w.heap.size w w') : RDk w' E b p :=
  h.kp (Kp.of_below hb (fun _ => False)) (fun h => h) (fun _ _ _ h => h)
theorem NewB.of_blk83 {w w' : World} {D : Nat} {v : Value} {p : Int} (h : Blk w' D 83 (dsk v p)) (hv : w.cell? ⟨D, 0, none⟩ = some v ∨ ∀ k, v.ownBlock = some k → w.heap.size ≤ k) : NewB w w' D := fun u hu => by
  rw [h.cell 0 v rfl] at hu
  obtain rfl := Option.some.inj hu
  exact hv

/-- what the reference's cut returns and leaves -/
def cutQ (b : Bs) (p : Int) (size : Nat) : Bool × Bs × Int := if size = b.length then (true, b, p) else if p = 0 then (false, b, p) else (true, b.take size, useL p 1)
def CutQP (w : World) (E : Nat) (r : Bool × Bs × Int) (e : Ending) (w' : World) : Prop := e = .returned (.bool r.1) ∧ RDk w' E r.2.1 r.2.2 ∧ Kp w w' (fun k => k = E) ∧ NewB w w' E

theorem useL_one (p : Int) : useL p 1 = if p > 0 then p - 1 else if p < 0 then p else 0 := by
  unfold useL
  by_cases h : p < 0
  · rw [if_pos h, if_neg (by omega), if_pos h]
  · rw [if_neg h]
    by_cases h2 : p > 0
    · rw [if_pos h2]; omega
    · rw [if_neg h2, if_neg h]; omega
theorem cutq_fin {w w1 w2 : World} {E : Nat} {v0 V : Value} {p' : Int} {b : Bs} {size : Nat} (hk1 : Kp w w1 (fun k => k = E)) (hD1 : Blk w1 E 83 (dsk v0 p')) (own : Own w1 w2 5 1 V size (bcs (b.take size))) (hsz : size ≤ b.length) :
    RDk (w2.setCell ⟨E, 0, none⟩ V) E (b.take size) p' ∧ Kp w (w2.setCell ⟨E, 0, none⟩ V) (fun k => k = E) ∧ NewB w (w2.setCell ⟨E, 0, none⟩ V) E := by
  have hb3 := own.bel
  have hD2 : Blk w2 E 83 (dsk v0 p') := (hb3.block E hD1.lt).trans hD1
  have hD3 := hD2.set 0 V
  have hl : (b.take size).length = size := by simp; omega
  refine ⟨⟨V, hD3, By.kp1 (By.row (base := w1.heap.size) ?_) (Kp.set w2 E 0 V) hD2 (by decide)⟩, (hk1.trans (Kp.of_below hb3 _)).trans (Kp.set w2 E 0 V), NewB.of_blk83 hD3 (.inr fun k hk => Nat.le_trans hk1.size (row_ge own.row k hk))⟩
  rw [hl]; exact own.row

theorem Blk.below {w w' : World} {L t : Nat} {cs : Array Value} (h : Blk w L t cs) (hb : Below w.heap.size w w') : Blk w' L t cs := (hb.block L h.lt).trans h
theorem cutq_mid0 {w : World} {E nq : Nat} {v0 : Value} {p : Int} {b : Bs} {log : Array Value} (hE : Blk w E 83 (dsk v0 p)) (hB : By w v0 b) :
    Blk ((w.alloc (.cells log 77)).drewN nq) E 83 (dsk v0 p) ∧ Blk ((w.alloc (.cells log 77)).drewN nq) w.heap.size 77 log ∧ By ((w.alloc (.cells log 77)).drewN nq) v0 b ∧ Kp w ((w.alloc (.cells log 77)).drewN nq) (fun k => k = E) := by
  have hb : Below w.heap.size w ((w.alloc (.cells log 77)).drewN nq) := below_drewN (below_alloc _ _) _
  exact ⟨hE.below hb, (Blk.new w log 77).below (below_drewN (Below.refl _ _) nq), hB.below hb, Kp.of_below hb _⟩
theorem cutq_mid {w : World} {E nq : Nat} {v0 u : Value} {p p' : Int} {b : Bs} {log : Array Value} (hE : Blk w E 83 (dsk v0 p)) (hB : By w v0 b) (hu : u = .int .i64 p' := by rfl) :
    Blk (((w.alloc (.cells log 77)).drewN nq).setCell ⟨E, 1, none⟩ u) E 83 (dsk v0 p') ∧ Blk (((w.alloc (.cells log 77)).drewN nq).setCell ⟨E, 1, none⟩ u) w.heap.size 77 log ∧ By (((w.alloc (.cells log 77)).drewN nq).setCell ⟨E, 1, none⟩ u) v0 b ∧ Kp w (((w.alloc (.cells log 77)).drewN nq).setCell ⟨E, 1, none⟩ u) (fun k => k = E) := by
  subst hu
  obtain ⟨h1, h2, h3, h4⟩ := cutq_mid0 (nq := nq) (log := log) hE hB
  have hk := Kp.set ((w.alloc (.cells log 77)).drewN nq) E 1 (.int .i64 p')
  have hlt := hE.lt
  exact ⟨h1.set 1 _, hk.blk h2 (by omega), h3.kp1 hk h1 (by decide), h4.trans hk⟩
set_option maxHeartbeats 4000000 in
theorem cut_ref (E : Nat) (b : Bs) (p : Int) (v : Value) (last size : Nat) (w : World) (hD : RDk w E b p) (hlen : b.length ≤ 2000000) (hsz : size ≤ b.length) (hv : ∃ A n c, v = .slice A n c) (hl : -(2^63) ≤ p) (hh : p < 2^63) :
    Calls Tryd.prog 60 #[.pointer (some ⟨E, 0, none⟩), .agg (rl v last size false)] w (CutQP w E (cutQ b p size)) := by
  obtain ⟨A0, n0, c0', rfl⟩ := hv
  obtain ⟨v0, hE, hB⟩ := hD
  obtain ⟨A, c, rfl, hr, hcap, hA, hA2, _⟩ := hB.form
  have HE := Lib.hid hE
  have HB := Lib.hid hB
  have HR := Lib.hid hr
  have hElt := hE.lt
  have hq := useL_one p
  clear hB hr
  by_cases h1 : size = b.length
  · have HQ := Lib.hid (show cutQ b p size = (true, b, p) by unfold cutQ; rw [if_pos h1])
    have hb1 : ((size : Int) == (b.length : Int)) = true := by rw [beq_iff_eq]; omega
    have ha := below_alloc w (.cells (rl (.slice A0 n0 c0') last size false) 77)
    have e0 := (bcell ha E 0 hElt).trans (hE.cell 0 _ rfl)
    have HA := Lib.hid ha
    clear hE h1 hq ha
    go_enter Tryd.func60, Tryd.ntmps60
    go_wp2_with fail
    go_quiet (fail)
    go_wp2_with fail
    go_ret
    rw [HQ.out]
    exact ⟨rfl, (show RDk w E b p from ⟨_, HE.out, HB.out⟩).below (below_drewN HA.out _), Kp.of_below (below_drewN HA.out _) _, NewB.below (below_drewN HA.out _) hElt⟩
  · have hb1 : ((size : Int) == (b.length : Int)) = false := by rw [beq_eq_false_iff_ne]; omega
    have ha := below_alloc w (.cells (rl (.slice A0 n0 c0') last size false) 77)
    by_cases h2 : p = 0
    · have HQ := Lib.hid (show cutQ b p size = (false, b, p) by unfold cutQ; rw [if_neg h1, if_pos h2])
      have hb2 : (p == 0) = true := by rw [beq_iff_eq]; exact h2
      have e0 := (bcell ha E 0 hElt).trans (hE.cell 0 _ rfl)
      have e1 := (bcell ha E 1 hElt).trans (hE.cell 1 _ rfl)
      have HA := Lib.hid ha
      clear hE h1 h2 hq ha
      go_enter Tryd.func60, Tryd.ntmps60
      go_wp2_with fail
      go_quiet (fail)
      go_wp2_with fail
      go_ret
      rw [HQ.out]
      exact ⟨rfl, (show RDk w E b p from ⟨_, HE.out, HB.out⟩).below (below_drewN HA.out _), Kp.of_below (below_drewN HA.out _) _, NewB.below (below_drewN HA.out _) hElt⟩
    · have HQ := Lib.hid (show cutQ b p size = (true, b.take size, useL p 1) by unfold cutQ; rw [if_neg h1, if_neg h2])
      have hb2 : (p == 0) = false := by rw [beq_eq_false_iff_ne]; exact h2
      have hE0 := hE.below ha
      have HE0 := Lib.hid hE0
      have e0 := hE0.cell 0 _ rfl
      have e1 := hE0.cell 1 _ rfl
      have f1 := hE0.frozen 1
      have HA := Lib.hid ha
      have hm : w.heap.size ≤ (w.alloc (.cells (rl (.slice A0 n0 c0') last size false) 77)).heap.size := ha.size
      clear hE h1 ha hE0
      by_cases h3 : p > 0
      · have b3 : decide (p > 0) = true := decide_eq_true h3
        clear h2
        rw [if_pos h3] at hq
        have HL := Lib.hid hq
        clear hq
        have hw : IntKind.i64.wrap (p - 1) = p - 1 := IntWalk.i64_in _ (by omega)
        go_enter Tryd.func60, Tryd.ntmps60
        go_wp2_with fail
        go_quiet (fail)
        go_upto_region 7 with fail
        have HW3 := Lib.hid (cutq_mid (nq := nq) (u := .int .i64 (p - 1)) HE.out HB.out (log := rl (.slice A0 n0 c0') last size false))
        generalize (((w.alloc (.cells (rl (.slice A0 n0 c0') last size false) 77)).drewN nq).setCell ⟨E, 1, none⟩ (.int .i64 (p - 1))) = w3 at *
        obtain ⟨hE3, hLg, hB3, hk3⟩ := HW3.out
        obtain ⟨A', c', he, hr3, hc3, _, _, _⟩ := hB3.form
        obtain ⟨rfl, rfl⟩ : A = A' ∧ c = c' := by simpa using he
        have g0 := hE3.cell 0 _ rfl
        have z0 := hE3.frozen 0
        have gl := hLg.cell 2 (.int .i64 size) rfl
        have HR3 := Lib.hid (hr3.take size)
        rw [bcs_take] at HR3
        have HE3 := Lib.hid hE3
        have hEl3 := hE3.lt
        have hLl3 := hLg.lt
        have hsc : size ≤ c := by omega
        have hbl : (bcs (b.take size)).length = size * 1 := by rw [List.length_map, List.length_take]; omega
        have HBl := Lib.hid hbl
        have HK3 := Lib.hid hk3
        clear hE3 hLg hB3 hk3 he hr3 hbl e0 e1 f1 HE0 HA hcap hA hA2
        go_region_law (refine step_ap rfl (.tmp 31) (.tmp 38) 26 rfl eByte (w0 := w3) A size c (bcs (b.take size)) (Own.built w3 5 0 [] ((Below.refl _ _).drew) rfl (by omega)) rfl rfl HBl.out (HR3.out.drew.alloc _) (oneCells_bcs _) (by omega) ?_; intro v5 w5 own5 hs5; rw [Nat.zero_add, List.nil_append] at own5; obtain ⟨a5, c5, rfl⟩ := row_slice own5.row; have g5 := (bcell own5.bel E 0 hEl3).trans g0; have z5 := (bfrozen own5.bel E 0 hEl3).trans z0)
        all_goals
          have HF := Lib.hid (cutq_fin HK3.out HE3.out own5 hsz)
          clear g5 z5 hs5 own5 g0 z0 gl
          go_wp2_with fail
          go_ret
          rw [HQ.out, HL.out]
          exact ⟨rfl, HF.out⟩
      · have b3 : decide (p > 0) = false := decide_eq_false h3
        rw [if_neg h3, if_pos (by omega)] at hq
        clear h2
        have HL := Lib.hid hq
        clear hq
        go_enter Tryd.func60, Tryd.ntmps60
        go_wp2_with fail
        go_quiet (fail)
        go_upto_region 7 with fail
        have HW3 := Lib.hid (cutq_mid0 (nq := nq) HE.out HB.out (log := rl (.slice A0 n0 c0') last size false))
        generalize ((w.alloc (.cells (rl (.slice A0 n0 c0') last size false) 77)).drewN nq) = w3 at *
        obtain ⟨hE3, hLg, hB3, hk3⟩ := HW3.out
        obtain ⟨A', c', he, hr3, hc3, _, _, _⟩ := hB3.form
        obtain ⟨rfl, rfl⟩ : A = A' ∧ c = c' := by simpa using he
        have g0 := hE3.cell 0 _ rfl
        have z0 := hE3.frozen 0
        have gl := hLg.cell 2 (.int .i64 size) rfl
        have HR3 := Lib.hid (hr3.take size)
        rw [bcs_take] at HR3
        have HE3 := Lib.hid hE3
        have hEl3 := hE3.lt
        have hLl3 := hLg.lt
        have hsc : size ≤ c := by omega
        have hbl : (bcs (b.take size)).length = size * 1 := by rw [List.length_map, List.length_take]; omega
        have HBl := Lib.hid hbl
        have HK3 := Lib.hid hk3
        clear hE3 hLg hB3 hk3 he hr3 hbl e0 e1 f1 HE0 HA hcap hA hA2
        go_region_law (refine step_ap rfl (.tmp 31) (.tmp 38) 26 rfl eByte (w0 := w3) A size c (bcs (b.take size)) (Own.built w3 5 0 [] ((Below.refl _ _).drew) rfl (by omega)) rfl rfl HBl.out (HR3.out.drew.alloc _) (oneCells_bcs _) (by omega) ?_; intro v5 w5 own5 hs5; rw [Nat.zero_add, List.nil_append] at own5; obtain ⟨a5, c5, rfl⟩ := row_slice own5.row; have g5 := (bcell own5.bel E 0 hEl3).trans g0; have z5 := (bfrozen own5.bel E 0 hEl3).trans z0)
        all_goals
          have HF := Lib.hid (cutq_fin HK3.out HE3.out own5 hsz)
          clear g5 z5 hs5 own5 g0 z0 gl
          go_wp2_with fail
          go_ret
          rw [HQ.out, HL.out]
          exact ⟨rfl, HF.out⟩
end Go.Proofs.YtandanbojfdfjaaDoor
