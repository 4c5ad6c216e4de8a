import Derived.Test.YtandanbojfdfjaaDoorBy
import Derived.Deep.RegionWith
namespace Go.Proofs.YtandanbojfdfjaaDoor
open Go.ChangeShapes Go.WideShapes Go.ChangeAt Go.RowKit

theorem cut_none (L : Nat) (w : World) :
    Calls Tryd.prog 33 #[.pointer (some ⟨L, 0, none⟩), .int .u8 0] w fun e w' => e = .returned (.int .i64 0) ∧ w = w' := by
  go_enter Tryd.func33, Tryd.ntmps33
  go_wp2_with fail
  go_ret
  exact ⟨rfl, rfl⟩

/-- what the disk holds is what it held, or new -/
def NewB (w w' : World) (D : Nat) : Prop := ∀ v, w'.cell? ⟨D, 0, none⟩ = some v → w.cell? ⟨D, 0, none⟩ = some v ∨ ∀ k, v.ownBlock = some k → w.heap.size ≤ k
theorem NewB.refl (w : World) (D : Nat) : NewB w w D := fun _ h => .inl h
theorem NewB.cell {w w1 w2 : World} {D : Nat} (h : NewB w w1 D) (hc : w2.cell? ⟨D, 0, none⟩ = w1.cell? ⟨D, 0, none⟩) : NewB w w2 D := fun v hv => h v (hc ▸ hv)
theorem NewB.below {w w1 : World} {D : Nat} (hb : Below w.heap.size w w1) (hD : D < w.heap.size) : NewB w w1 D := (NewB.refl w D).cell (bcell hb D 0 hD)
theorem NewB.trans {w w1 w2 : World} {D : Nat} (h : NewB w w1 D) (h2 : NewB w1 w2 D) (hs : w.heap.size ≤ w1.heap.size) : NewB w w2 D := fun v hv => by
  rcases h2 v hv with e | e
  · exact h v e
  · exact .inr fun k hk => Nat.le_trans hs (e k hk)
theorem NewB.of_blk {w w' : World} {D : Nat} {v : Value} {p : Int} (h : Blk w' D 28 (dsk v p)) (hv : w.cell? ⟨D, 0, none⟩ = some v ∨ ∀ k, v.ownBlock = some k → w.heap.size ≤ k) : NewB w w' D := fun u hu => by
  rw [h.cell 0 v rfl] at hu
  obtain rfl := Option.some.inj hu
  exact hv

/-- no power -/
theorem cut_weak (L D : Nat) (v vd : Value) (last size : Nat) (cl : Bool) (t : Nat) (w : World) (hL : Blk w L 68 (lg (.pointer (some ⟨D, 0, none⟩)) v last size cl)) (hD : Blk w D 28 (dsk vd 0)) (ht : 0 < t) (ht2 : t ≤ 2) :
    Calls Tryd.prog 33 #[.pointer (some ⟨L, 0, none⟩), .int .u8 t] w fun e w' => e = .returned (.int .i64 420) ∧ Blk w' D 28 (dsk vd 0) ∧ Kp w w' (fun k => k = D) := by
  have c0 := hL.cell 0 (.pointer (some ⟨D, 0, none⟩)) rfl
  have HU := use_any D vd 0 1 w hD (by omega) (by omega) (by omega)
  rw [show useR 0 1 = 0 from rfl, show useL 0 1 = 0 from rfl] at HU
  have HU' := Lib.hid HU
  clear hL hD HU
  go_enter Tryd.func33, Tryd.ntmps33
  go_wp2_with fail
  refine HU'.out.mono ?_
  rintro e w' ⟨rfl, h1, h2⟩
  go_wp2_with fail
  go_ret
  exact ⟨rfl, h1, h2⟩

theorem bcs_len (b : Bs) (k : Nat) (h : k ≤ b.length) : (b.take k).length = k := by simp; omega

theorem row_slice {w : World} {base : Nat} {e : TypeId} {size n : Nat} {v : Value} {xs : List Value} (hr : w.ownsRow base e size v n xs) : ∃ a c, v = .slice a n c := by
  rcases hr.2 with ⟨rfl, rfl⟩ | ⟨g, cap, cur, rfl, _⟩
  · exact ⟨_, _, rfl⟩
  · exact ⟨_, _, rfl⟩

theorem cut_fin {w w1 w2 : World} {D : Nat} {v0 V : Value} {p' : Int} {b : Bs} {size : Nat} (hk1 : Kp w w1 (fun k => k = D)) (hD1 : Blk w1 D 28 (dsk v0 p')) (hb2 : Below w1.drew.heap.size w1.drew w2)
    (hr2 : w2.ownsRow w1.drew.heap.size 5 1 V size (bcs (b.take size))) (hsz : size ≤ b.length) :
    ∃ v', Blk (w2.setCell ⟨D, 0, none⟩ V) D 28 (dsk v' p') ∧ By (w2.setCell ⟨D, 0, none⟩ V) v' (b.take size) ∧ Kp w (w2.setCell ⟨D, 0, none⟩ V) (fun k => k = D) ∧ ∀ k, v'.ownBlock = some k → w.heap.size ≤ k := by
  have hb3 : Below w1.heap.size w1 w2 := ((Below.refl _ _).drew).trans hb2
  have hD2 : Blk w2 D 28 (dsk v0 p') := (hb3.block D hD1.lt).trans hD1
  refine ⟨V, hD2.set 0 V, ?_, (hk1.trans (Kp.of_below hb3 _)).trans (Kp.set w2 D 0 V), fun k hk => Nat.le_trans hk1.size (row_ge hr2 k hk)⟩
  have hl : (b.take size).length = size := by simp; omega
  refine By.kp1 (By.row (base := w1.drew.heap.size) ?_) (Kp.set w2 D 0 V) hD2 (by decide)
  rw [hl]; exact hr2

set_option maxHeartbeats 4000000 in
theorem cut_any (L D : Nat) (v v0 : Value) (b : Bs) (p : Int) (last size : Nat) (cl : Bool) (t : Nat) (w : World) (hL : Blk w L 68 (lg (.pointer (some ⟨D, 0, none⟩)) v last size cl)) (hD : Blk w D 28 (dsk v0 p))
    (hB : By w v0 b) (hb0 : b ≠ []) (hlen : b.length ≤ 2000000) (hsz : size ≤ b.length) (ht : 0 < t) (ht2 : t ≤ 2) (hp : p ≠ 0) (hl : -(2^63) ≤ p) (hh : p < 2^63) :
    Calls Tryd.prog 33 #[.pointer (some ⟨L, 0, none⟩), .int .u8 t] w fun e w' => e = .returned (.int .i64 0) ∧ ∃ v', Blk w' D 28 (dsk v' (useL p 1)) ∧ By w' v' (b.take size) ∧ Kp w w' (fun k => k = D) ∧ ∀ k, v'.ownBlock = some k → w.heap.size ≤ k := by
  obtain ⟨A, c, rfl, hr, hcap, hA, _, hrD⟩ := hB.form
  have hA : A ≠ none := fun e => hb0 (hA e)
  have hrD := hrD D 28 _ hD (by decide)
  have c0 := hL.cell 0 (.pointer (some ⟨D, 0, none⟩)) rfl
  have HU := use_any D (.slice A b.length c) p 1 w hD hl hh (by omega)
  have hu : useR p 1 = 1 := by unfold useR; split <;> omega
  rw [hu] at HU
  have HU' := Lib.hid HU
  have hne : L ≠ D := by
    rintro rfl
    have h2 := Eq.trans hL.symm hD
    simp at h2
  have HL := Lib.hid hL
  have HR := Lib.hid hr
  clear hL hr HU hB hb0
  generalize useL p 1 = p' at *
  clear hD
  go_enter Tryd.func33, Tryd.ntmps33
  go_wp2_with fail
  refine HU'.out.mono ?_
  rintro e w1 ⟨rfl, hD1, hk1⟩
  have hL1 := hk1.blk HL.out hne
  have d0 := hL1.cell 0 (.pointer (some ⟨D, 0, none⟩)) rfl
  have d3 := hL1.cell 3 (.int .i64 size) rfl
  have e0 := Blk.cell hD1 0 (.slice A b.length c) rfl
  have f0 := Blk.frozen hD1 0
  have hrr : Rd w1.drew w1.drew.heap.size A (bcs (b.take size)) := by
    have h0 := (HR.out.take size)
    rw [bcs_take] at h0
    intro hpos
    obtain ⟨bb, o, rfl, hlt, hc⟩ := h0 hpos
    refine ⟨bb, o, rfl, Nat.lt_of_lt_of_le hlt hk1.size, fun j u hu => ?_⟩
    exact (World.cell?_of_block (w := w) (w' := w1) (a := ⟨bb, o + j, none⟩) (hk1.block bb hlt (hrD _ rfl))).trans (hc j u hu)
  have HC := Lib.hid (cloneB_any A (b.take size) c w1.drew hrr (fun h => absurd h hA) (fun h => absurd h hA) (by rw [bcs_len b size hsz]; omega))
  rw [bcs_len b size hsz] at HC
  have hsz2 : size ≤ c := by omega
  have HD1 := Lib.hid hD1
  have HK1 := Lib.hid hk1
  have hDlt := Blk.lt hD1
  have hLlt := Blk.lt hL1
  clear hD1 hk1 hrr hrD c0 hL1
  go_wp2_with fail
  go_region_with (go_at_call 37; refine HC.out.mono ?_; rintro e w2 ⟨v2, rfl, hr2, hb2⟩; obtain ⟨a2, cp2, rfl⟩ := row_slice hr2; have g0 := (bcell hb2 D 0 hDlt).trans e0; have g1 := (bfrozen hb2 D 0 hDlt).trans f0; have g2 := (bcell hb2 L 0 hLlt).trans d0)
  all_goals
    have HF := Lib.hid (cut_fin (b := b) HK1.out HD1.out hb2 hr2 hsz)
    clear g0 g1 g2 hb2 hr2
    go_wp2_with fail
    go_ret
    exact ⟨rfl, HF.out⟩

/-- what cut returns and leaves -/
def cutR (t : Nat) (b : Bs) (p : Int) (size : Nat) : Nat × Bs × Int := if t = 0 then (0, b, p) else if p = 0 then (420, b, p) else (0, b.take size, useL p 1)

def CutP (w : World) (D : Nat) (r : Nat × Bs × Int) (e : Ending) (w' : World) : Prop := e = .returned (.int .i64 r.1) ∧ DiskAt w' D r.2.1 r.2.2 ∧ Kp w w' (fun k => k = D) ∧ NewB w w' D

theorem cut_all (L D : Nat) (v : Value) (b : Bs) (p : Int) (last size : Nat) (cl : Bool) (t : Nat) (w : World) (hL : Blk w L 68 (lg (.pointer (some ⟨D, 0, none⟩)) v last size cl)) (hD : DiskAt w D b p)
    (hb0 : 0 < t → b ≠ []) (hlen : b.length ≤ 2000000) (hsz : size ≤ b.length) (ht2 : t ≤ 2) (hl : -(2^63) ≤ p) (hh : p < 2^63) :
    Calls Tryd.prog 33 #[.pointer (some ⟨L, 0, none⟩), .int .u8 t] w (CutP w D (cutR t b p size)) := by
  by_cases h0 : t = 0
  · subst h0
    exact (cut_none L w).mono fun e w' ⟨he, hw⟩ => by subst hw; exact ⟨he, hD, Kp.refl _ _, NewB.refl _ _⟩
  · obtain ⟨v0, hD, hB⟩ := hD
    by_cases hp : p = 0
    · subst hp
      refine (cut_weak L D v v0 last size cl t w hL hD (by omega) ht2).mono fun e w' ⟨he, h1, hk⟩ => ?_
      unfold cutR
      rw [if_neg h0, if_pos rfl]
      exact ⟨he, ⟨v0, h1, hB.kp1 hk hD (by decide)⟩, hk, NewB.of_blk h1 (.inl (hD.cell 0 _ rfl))⟩
    · refine (cut_any L D v v0 b p last size cl t w hL hD hB (hb0 (by omega)) hlen hsz (by omega) ht2 hp hl hh).mono fun e w' ⟨he, v', h1, h2, hk, hf⟩ => ?_
      unfold cutR
      rw [if_neg h0, if_neg hp]
      exact ⟨he, ⟨v', h1, h2⟩, hk, NewB.of_blk h1 (.inr hf)⟩
end Go.Proofs.YtandanbojfdfjaaDoor
