import Derived.Test.YtandanbojfdfjaaDoorRDisk
import Derived.Great.BuildSlice
namespace Go.Proofs.YtandanbojfdfjaaDoor
open Go.ChangeShapes Go.WideShapes Go.ChangeAt Go.RowKit

theorem sgo_size : ∀ (l : List Bs) (s : St), (∀ x ∈ l, 1 ≤ x.length) → ((sgo l s).2 = 0 → (sgo l s).1.size = s.size + l.flatten.length) ∧ ((sgo l s).2 ≠ 0 → (sgo l s).1.size < s.size + l.flatten.length)
  | [], s, _ => by simp [sgo]
  | x :: r, s, h => by
    have h1 := h x (by simp)
    unfold sgo
    split
    · split
      · next he hg =>
        obtain ⟨i1, i2⟩ := sgo_size r (s.add (mid x)) (fun y hy => h y (by simp [hy]))
        obtain ⟨_, _, h6⟩ := good_len hg
        have e : (s.add (mid x)).size = s.size + x.length := by show s.size + (mid x).length + 6 = _; omega
        rw [e] at i1 i2
        simp only [List.flatten_cons, List.length_append]
        exact ⟨fun h => by have := i1 h; omega, fun h => by have := i2 h; omega⟩
      · simp; omega
    · simp; omega
theorem scan_end (b : Bs) : ((scanS b).2 = 0 → (scanS b).1.size = b.length) ∧ ((scanS b).2 ≠ 0 → (scanS b).1.size < b.length) := by
  have h := sgo_size (lns b) .zero (lns_pos _ b rfl)
  rw [lns_flat _ b rfl] at h
  have e : St.zero.size = 0 := rfl
  rw [e, Nat.zero_add] at h
  exact h
/-- both cuts are one -/
theorem cut_same (b : Bs) (p : Int) : cutQ b p (scanS b).1.size = (decide ((cutR (scanS b).2 b p (scanS b).1.size).1 = 0), (cutR (scanS b).2 b p (scanS b).1.size).2) := by
  obtain ⟨h1, h2⟩ := scan_end b
  unfold cutQ cutR
  by_cases h0 : (scanS b).2 = 0
  · rw [if_pos (h1 h0), if_pos h0]; rfl
  · have := h2 h0
    rw [if_neg (by omega), if_neg h0]
    by_cases hp : p = 0
    · rw [if_pos hp, if_pos hp]; rfl
    · rw [if_neg hp, if_neg hp]; rfl

def OpenQP (w : World) (E : Nat) (r : Option St × Nat × Bs × Int) (e : Ending) (w' : World) : Prop :=
  RDk w' E r.2.2.1 r.2.2.2 ∧ (Kp w w' (fun k => k = E) ∧ NewB w w' E) ∧
    match r.1 with
    | none => e = .returned (.tuple #[.agg (rl (.slice none 0 0) 0 0 false), .int .i64 r.2.1])
    | some s => ∃ v, e = .returned (.tuple #[.agg (rl v s.last s.size false), .int .i64 0]) ∧ w'.ownsRow w.heap.size 9 1 v s.recs.length (scs s.recs)
def RepairQP (w : World) (E : Nat) (r : Nat × Nat × Bs × Int) (e : Ending) (w' : World) : Prop :=
  e = .returned (.tuple #[.int .i64 r.1, .int .i64 r.2.1]) ∧ RDk w' E r.2.2.1 r.2.2.2 ∧ Kp w w' (fun k => k = E) ∧ NewB w w' E

theorem res45 {R : Nat} {w : World} {cs : Array Value} (h : Blk w R 77 cs) (hs : cs.size = 4) (tmps : Array Value) (h2 : tmps.getD 2 undef = .pointer (some ⟨R, 0, none⟩)) : (results Tryd.f45 tmps).run Tryd.prog w = .ok (.tuple #[.agg cs, tmps.getD 3 undef]) w := by
  have h2' : tmps[2]?.getD undef = .pointer (some ⟨R, 0, none⟩) := by simpa using h2
  have hl := run_loadVar_row (P := Tryd.prog) w R 77 77 cs (0, 0) _ h rl_und rfl (by rw [hs]; exact rl_size)
  simp [results, Tryd.results45, h2', asAddr, hl]

/-- the reference's Scan of a disk's bytes -/
theorem Scan_by {w : World} {A : Option Addr} {c : Nat} {b : Bs} (hB : By w (.slice A b.length c) b) (hlen : b.length ≤ 2000000) :
    Calls Tryd.prog 41 #[.slice A b.length c] w (RSc w (scanS b).1 (scanS b).2) := by
  obtain ⟨A', c', e, hr, hc, _⟩ := hB.form
  obtain ⟨rfl, rfl⟩ : A = A' ∧ c = c' := by simpa using e
  exact Scan_ref A b c w hr hc hlen

set_option maxHeartbeats 4000000 in
theorem Repair_ref (E : Nat) (b : Bs) (p : Int) (w : World) (hD : RDk w E b p) (hlen : b.length ≤ 2000000) (hl : -(2^63) ≤ p) (hh : p < 2^63) :
    Calls Tryd.prog 46 #[.pointer (some ⟨E, 0, none⟩)] w (RepairQP w E (repairR b p)) := by
  have HDk := Lib.hid hD
  obtain ⟨v0, hE, hB⟩ := hD
  obtain ⟨A, c, rfl, hr, hcap, hA, hA2, _⟩ := hB.form
  have e0 := hE.cell 0 _ rfl
  have HElt := Lib.hid hE.lt
  have HSc := Lib.hid (Scan_by hB hlen)
  clear hr hA hA2
  by_cases hlong : 1048576 < b.length
  · have HR := Lib.hid (show repairR b p = (0, 3, b, p) by unfold repairR; rw [if_pos hlong])
    have hb1 : decide ((b.length : Int) > 1048576) = true := decide_eq_true (by omega)
    clear hE hB HSc hlong
    go_enter Tryd.func46, Tryd.ntmps46
    go_wp2_with fail
    go_ret2
    rw [HR.out]
    exact ⟨rfl, HDk.out, Kp.refl _ _, NewB.refl _ _⟩
  · have hb1 : decide ((b.length : Int) > 1048576) = false := decide_eq_false (by omega)
    have HR := Lib.hid (show repairR b p = if (cutR (scanS b).2 b p (scanS b).1.size).1 = 0 then (b.length - (scanS b).1.size, 0, (cutR (scanS b).2 b p (scanS b).1.size).2) else (0, 420, b, p) by unfold repairR; rw [if_neg hlong])
    have hsz := scan_size b
    have HSame := Lib.hid (cut_same b p)
    have HQ := Lib.hid (show (cutR (scanS b).2 b p (scanS b).1.size).1 = 0 ∨ (cutR (scanS b).2 b p (scanS b).1.size) = (420, b, p) by unfold cutR; split; exact .inl rfl; split; exact .inr rfl; exact .inl rfl)
    have HE := Lib.hid hE
    have HB := Lib.hid hB
    obtain ⟨sc, hsc⟩ : ∃ sc, scanS b = sc := ⟨_, rfl⟩
    rw [hsc] at HR hsz HSame HQ HSc
    clear hsc
    obtain ⟨s, t⟩ := sc
    simp only at hsz
    generalize hcr : cutR t b p s.size = cr at *
    clear hcr hE hB hlong
    have hw : IntKind.i64.wrap ((b.length : Int) - (s.size : Int)) = (b.length : Int) - (s.size : Int) := IntWalk.i64_in _ (by omega)
    go_enter Tryd.func46, Tryd.ntmps46
    go_wp2_with fail
    refine HSc.out.mono ?_
    rintro e w1 ⟨v1, rfl, hrow, hb1'⟩
    obtain ⟨A1, c1, rfl, _, _, _⟩ := row_rd hrow
    have HB1 := Lib.hid hb1'
    clear hrow hb1'
    have ha := below_alloc w1 (.cells (rl (.slice A1 s.recs.length c1) s.last s.size false) 77)
    have HBa := Lib.hid (HB1.out.trans (ha.mono HB1.out.size))
    have g0 := (bcell HBa.out E 0 HElt.out).trans e0
    clear ha
    go_wp2_with fail
    go_quiet (fail)
    have HC := Lib.hid (cut_ref E b p (.slice A1 s.recs.length c1) s.last s.size _ (HDk.out.below (below_drewN HBa.out nq)) hlen hsz ⟨_, _, _, rfl⟩ hl hh)
    go_wp2_with (refine wpList_load_row rfl 77 (.tmp 4) rfl w1.heap.size rfl 77 (rl (.slice A1 s.recs.length c1) s.last s.size false) (0, 0) _ ((Blk.new w1 (rl (.slice A1 s.recs.length c1) s.last s.size false) 77).below (below_drewN (Below.refl _ _) nq)) rl_und rfl rl_size ?_)
    have HP : Hid (∀ w3, RDk w3 E cr.2.1 cr.2.2 → Kp ((w1.alloc (.cells (rl (.slice A1 s.recs.length c1) s.last s.size false) 77)).drewN nq) w3 (fun k => k = E) → NewB ((w1.alloc (.cells (rl (.slice A1 s.recs.length c1) s.last s.size false) 77)).drewN nq) w3 E →
        RepairQP w E (repairR b p) (if cr.1 = 0 then .returned (.tuple #[.int .i64 ((b.length : Int) - (s.size : Int)), .int .i64 0]) else .returned (.tuple #[.int .i64 0, .int .i64 420])) w3) := Lib.hid (fun w3 h1 h2 h3 => by
      have hbq := below_drewN HBa.out nq
      have hk : Kp w w3 (fun k => k = E) ∧ NewB w w3 E := ⟨(Kp.of_below hbq _).trans h2, (NewB.below hbq HElt.out).trans h3 hbq.size⟩
      rw [HR.out]
      rcases HQ.out with h | h
      · rw [if_pos h, if_pos h]
        refine ⟨?_, h1, hk⟩
        rw [show ((b.length - s.size : Nat) : Int) = (b.length : Int) - (s.size : Int) by omega]
        rfl
      · subst h
        exact ⟨rfl, h1, hk⟩)
    have hsm : cutQ b p s.size = (decide (cr.1 = 0), cr.2) := HSame.out
    rw [hsm] at HC
    have hq : cr.1 = 0 ∨ cr = (420, b, p) := HQ.out
    clear hsm HSame HQ HR g0
    rcases hq with h | h
    · rw [h] at HC HP
      refine HC.out.mono ?_
      rintro e w3 ⟨rfl, h1, h2, h3⟩
      have HF := Lib.hid (HP.out w3 h1 h2 h3)
      clear HC HP h h1 h2 h3
      go_wp2_with fail
      go_ret2
      exact HF.out
    · subst h
      refine HC.out.mono ?_
      rintro e w3 ⟨rfl, h1, h2, h3⟩
      have HF := Lib.hid (HP.out w3 h1 h2 h3)
      clear HC HP h1 h2 h3
      go_wp2_with fail
      go_ret2
      exact HF.out

/-- where Open begins -/
structure ROp (w W : World) (E R : Nat) (b : Bs) (p : Int) : Prop where
  disk : RDk W E b p
  res : Blk W R 77 (rl (.slice none 0 0) 0 0 false)
  bel : Below w.heap.size w W
  R0 : w.heap.size ≤ R
theorem ROp.kp {w W : World} {E R : Nat} {b b' : Bs} {p p' : Int} (h : ROp w W E R b p) {W' : World} {v : Value} {last size : Nat} (hE : E < w.heap.size) (hd : RDk W' E b' p') (hk : Kp W W' (fun k => k = E)) (hn : NewB W W' E) :
    RDk (W'.setRow R (rl v last size false)) E b' p' ∧ (Kp w (W'.setRow R (rl v last size false)) (fun k => k = E) ∧ NewB w (W'.setRow R (rl v last size false)) E) := by
  have hR0 := h.R0
  have hR' : Blk W' R 77 _ := hk.blk h.res (by omega)
  have hs := Kp.setRow W' R (rl v last size false)
  have hd2 := hd.kp hs (by omega) (fun k cs hk e => by subst e; exact absurd (blk_ne hk hR') (by decide))
  refine ⟨hd2, ⟨hs.os.trans (hk.os.trans h.bel.os), hs.tape.trans (hk.tape.trans h.bel.tape), hs.output.trans (hk.output.trans h.bel.output), Nat.le_trans h.bel.size (Nat.le_trans hk.size hs.size), fun k hk2 hne => ?_⟩, ?_⟩
  · have := h.bel.size
    have := hk.size
    exact (hs.block k (by omega) (by omega)).trans ((hk.block k (by omega) hne).trans (h.bel.block k hk2))
  · refine ((NewB.below h.bel hE).trans hn h.bel.size).cell (World.cell?_of_block (a := ⟨E, 0, none⟩) (hs.block E hd.lt (by omega)))
theorem ROp.row {w W W' : World} {E R : Nat} {b : Bs} {p : Int} (h : ROp w W E R b p) {base n : Nat} {v : Value} {xs : List Value} (hr : W.ownsRow base 9 1 v n xs) (hk : Kp W W' (fun k => k = E)) (hE : E < w.heap.size := by assumption) {cs : Array Value} :
    (W'.setRow R cs).ownsRow base 9 1 v n xs := by
  obtain ⟨u, hd, _⟩ := h.disk
  have h1 := hk.row hr fun k hk' e => row_ne hd hr (show (9 : TypeId) ≠ 83 by decide) (e ▸ hk')
  have hR0 := h.R0
  have hR' : Blk W' R 77 _ := hk.blk h.res (by omega)
  exact (Kp.setRow W' R cs).row h1 fun k hk' e => row_ne hR' h1 (show (9 : TypeId) ≠ 77 by decide) (e ▸ hk')
set_option maxRecDepth 100000 in
set_option maxHeartbeats 4000000 in
theorem Open_ref (E : Nat) (b : Bs) (p : Int) (w : World) (hD : RDk w E b p) (hlen : b.length ≤ 2000000) (hl : -(2^63) ≤ p) (hh : p < 2^63) :
    Calls Tryd.prog 45 #[.pointer (some ⟨E, 0, none⟩)] w (OpenQP w E (openR b p)) := by
  have hEl := hD.lt
  have ha0 := below_alloc w (.cells (rl (.slice none 0 0) 0 0 false) 77)
  have HI : Hid (ROp w (w.alloc (.cells #[Value.slice none 0 0, Value.int IntKind.i64 0, Value.int IntKind.i64 0, Value.bool false] 77)) E w.heap.size b p) := Lib.hid ⟨hD.below ha0, Blk.new w (rl (.slice none 0 0) 0 0 false) 77, ha0, Nat.le_refl _⟩
  clear ha0 hD
  go_enter Tryd.func45, Tryd.ntmps45
  go_upto_region 1 with fail
  generalize w.alloc (.cells #[Value.slice none 0 0, Value.int IntKind.i64 0, Value.int IntKind.i64 0, Value.bool false] 77) = W at *
  obtain ⟨R, hR⟩ : ∃ R, w.heap.size = R := ⟨_, rfl⟩
  have HR := Lib.hid hR
  rw [hR] at HI ⊢
  clear hR
  obtain ⟨v0, hE, hB⟩ := HI.out.disk
  obtain ⟨A, c, rfl, hr, hcap, hA, hA2, _⟩ := hB.form
  have e0 := hE.cell 0 _ rfl
  have HSc := Lib.hid (Scan_by hB hlen)
  clear hr hA hA2 hE hB
  by_cases hlong : 1048576 < b.length
  · have HQ := Lib.hid (show openR b p = (none, 3, b, p) by unfold openR; rw [if_pos hlong])
    have hb1 : decide ((b.length : Int) > 1048576) = true := decide_eq_true (by omega)
    clear HSc hlong
    have HR0 := Lib.hid HI.out.res
    go_wp2_with (first | (refine wpList_buildTo rfl 77 #[] rfl (some 12) rfl (rl (.slice none 0 0) 0 0 false) (by kernel_rfl) ?_) | (refine wpList_store_row rfl 77 (.tmp 2) (.tmp 12) rfl R (rl (.slice none 0 0) 0 0 false) rfl rfl 77 _ HR0.out rl_size (by kernel_rfl) (by kernel_rfl) ?_))
    refine bodyPost_ret (res45 (HR0.out.setRow _) rfl _ rfl) rfl ?_
    rw [HQ.out]
    obtain ⟨h1, h2⟩ := HI.out.kp hEl HI.out.disk (Kp.refl _ _) (NewB.refl _ _) (v := .slice none 0 0) (last := 0) (size := 0)
    exact ⟨h1, h2, rfl⟩
  · have hb1 : decide ((b.length : Int) > 1048576) = false := decide_eq_false (by omega)
    have HQ := Lib.hid (show openR b p = if (scanS b).2 = 2 then (none, 421, b, p) else if (cutR (scanS b).2 b p (scanS b).1.size).1 = 0 then (some (scanS b).1, 0, (cutR (scanS b).2 b p (scanS b).1.size).2) else (none, 420, b, p) by unfold openR; rw [if_neg hlong])
    have hsz := scan_size b
    have HSame := Lib.hid (cut_same b p)
    have HQ2 := Lib.hid (show (cutR (scanS b).2 b p (scanS b).1.size).1 = 0 ∨ (cutR (scanS b).2 b p (scanS b).1.size) = (420, b, p) by unfold cutR; split; exact .inl rfl; split; exact .inr rfl; exact .inl rfl)
    have ht := scan_tail b
    obtain ⟨sc, hsc⟩ : ∃ sc, scanS b = sc := ⟨_, rfl⟩
    rw [hsc] at HQ hsz HSame HQ2 HSc ht
    clear hsc
    obtain ⟨s, t⟩ := sc
    simp only at hsz ht
    generalize hcr : cutR t b p s.size = cr at *
    clear hcr hlong
    have HR0 := Lib.hid HI.out.res
    go_wp2_with fail
    refine HSc.out.mono ?_
    rintro e w1 ⟨v1, rfl, hrow, hb1'⟩
    obtain ⟨A1, c1, rfl, _, _, _⟩ := row_rd hrow
    have ha := below_alloc w1 (.cells (rl (.slice A1 s.recs.length c1) s.last s.size false) 77)
    have hb2 := hb1'.trans (ha.mono hb1'.size)
    have hL := Blk.new w1 (rl (.slice A1 s.recs.length c1) s.last s.size false) 77
    have hrow2 := ownsRow_later hrow ha
    have HI2 : Hid (ROp w (w1.alloc (.cells #[Value.slice A1 s.recs.length c1, Value.int IntKind.i64 s.last, Value.int IntKind.i64 s.size, Value.bool false] 77)) E R b p ∧
        Blk (w1.alloc (.cells #[Value.slice A1 s.recs.length c1, Value.int IntKind.i64 s.last, Value.int IntKind.i64 s.size, Value.bool false] 77)) w1.heap.size 77 (rl (.slice A1 s.recs.length c1) s.last s.size false) ∧
        (w1.alloc (.cells #[Value.slice A1 s.recs.length c1, Value.int IntKind.i64 s.last, Value.int IntKind.i64 s.size, Value.bool false] 77)).ownsRow w.heap.size 9 1 (.slice A1 s.recs.length c1) s.recs.length (scs s.recs) ∧ E < w1.heap.size ∧ R < w1.heap.size) :=
      Lib.hid ⟨⟨HI.out.disk.below hb2, HI.out.res.below hb2, HI.out.bel.trans (hb2.mono HI.out.bel.size), HI.out.R0⟩, hL, by
        refine ⟨hrow2.1, ?_⟩
        rcases hrow2.2 with h | ⟨g, cap, cur, hv, hg, rest⟩
        · exact .inl h
        · exact .inr ⟨g, cap, cur, hv, Nat.le_trans HI.out.bel.size hg, rest⟩, Nat.lt_of_lt_of_le HI.out.disk.lt hb1'.size, Nat.lt_of_lt_of_le HI.out.res.lt hb1'.size⟩
    clear ha hb2 hL hrow2 hrow hb1' e0 HR0 HSc
    by_cases ht2 : t = 2
    · subst ht2
      have HQ1 := Lib.hid (show openR b p = (none, 421, b, p) by rw [HQ.out, if_pos rfl])
      go_upto_region 4 with fail
      generalize w1.alloc (.cells #[Value.slice A1 s.recs.length c1, Value.int IntKind.i64 s.last, Value.int IntKind.i64 s.size, Value.bool false] 77) = w2 at *
      have HR2 := Lib.hid HI2.out.1.res
      go_wp2_with (first | (refine wpList_buildTo rfl 77 #[] rfl (some 23) rfl (rl (.slice none 0 0) 0 0 false) (by kernel_rfl) ?_) | (refine wpList_store_row rfl 77 (.tmp 2) (.tmp 23) rfl R (rl (.slice none 0 0) 0 0 false) rfl rfl 77 _ HR2.out rl_size (by kernel_rfl) (by kernel_rfl) ?_))
      refine bodyPost_ret (res45 (HR2.out.setRow _) rfl _ rfl) rfl ?_
      rw [HQ1.out]
      obtain ⟨h1, h2⟩ := HI2.out.1.kp hEl HI2.out.1.disk (Kp.refl _ _) (NewB.refl _ _) (v := .slice none 0 0) (last := 0) (size := 0)
      exact ⟨h1, h2, rfl⟩
    · have hbt : ((t : Int) == 2) = false := by rw [beq_eq_false_iff_ne]; omega
      have HQ1 := Lib.hid (show openR b p = if cr.1 = 0 then (some s, 0, cr.2) else (none, 420, b, p) by rw [HQ.out, if_neg ht2])
      have hq : cr.1 = 0 ∨ cr = (420, b, p) := HQ2.out
      have hsm : cutQ b p s.size = (decide (cr.1 = 0), cr.2) := HSame.out
      clear HQ HQ2 HSame ht2
      have HSm := Lib.hid hsm
      clear hsm
      go_upto_region 4 with fail
      generalize w1.alloc (.cells #[Value.slice A1 s.recs.length c1, Value.int IntKind.i64 s.last, Value.int IntKind.i64 s.size, Value.bool false] 77) = w2 at *
      have HL2 := Lib.hid HI2.out.2.1
      have HC := Lib.hid (cut_ref E b p (.slice A1 s.recs.length c1) s.last s.size w2 HI2.out.1.disk hlen hsz ⟨_, _, _, rfl⟩ hl hh)
      rw [HSm.out] at HC
      generalize w1.heap.size = L at *
      go_wp2_with (refine wpList_load_row rfl 77 (.tmp 4) rfl L rfl 77 _ (0, 0) _ HL2.out rl_und rfl rl_size ?_)
      rcases hq with h | h
      · have HQ3 := Lib.hid (show openR b p = (some s, 0, cr.2) by rw [HQ1.out, if_pos h])
        rw [h] at HC
        refine HC.out.mono ?_
        rintro e w3 ⟨rfl, h1, h2, h3⟩
        have HL3 := Lib.hid (h2.blk HL2.out (by have := HI2.out.2.2.2.1; omega))
        have HR3 := Lib.hid (h2.blk HI2.out.1.res (by have := HI2.out.1.R0; omega))
        have HP := Lib.hid (HI2.out.1.kp hEl h1 h2 h3 (v := .slice A1 s.recs.length c1) (last := s.last) (size := s.size))
        have HRow := Lib.hid (HI2.out.1.row HI2.out.2.2.1 h2 (cs := rl (.slice A1 s.recs.length c1) s.last s.size false))
        clear HC h h1 h2 h3
        go_wp2_with (first | (refine wpList_load_row rfl 77 (.tmp 4) rfl L rfl 77 _ (0, 0) _ HL3.out rl_und rfl rl_size ?_) | (refine wpList_store_row rfl 77 (.tmp 2) (.tmp 29) rfl R (rl (.slice A1 s.recs.length c1) s.last s.size false) rfl rfl 77 _ HR3.out rl_size (by kernel_rfl) (by kernel_rfl) ?_))
        refine bodyPost_ret (res45 (HR3.out.setRow _) rfl _ rfl) rfl ?_
        rw [HQ3.out]
        exact ⟨HP.out.1, HP.out.2, _, rfl, HRow.out⟩
      · have HQ3 := Lib.hid (show openR b p = (none, 420, b, p) by rw [HQ1.out, h]; rfl)
        subst h
        refine HC.out.mono ?_
        rintro e w3 ⟨rfl, h1, h2, h3⟩
        have HR3 := Lib.hid (h2.blk HI2.out.1.res (by have := HI2.out.1.R0; omega))
        have HP := Lib.hid (HI2.out.1.kp hEl h1 h2 h3 (v := .slice none 0 0) (last := 0) (size := 0))
        clear HC h1 h2 h3
        go_wp2_with (first | (refine wpList_buildTo rfl 77 #[] rfl (some 28) rfl (rl (.slice none 0 0) 0 0 false) (by kernel_rfl) ?_) | (refine wpList_store_row rfl 77 (.tmp 2) (.tmp 28) rfl R (rl (.slice none 0 0) 0 0 false) rfl rfl 77 _ HR3.out rl_size (by kernel_rfl) (by kernel_rfl) ?_))
        refine bodyPost_ret (res45 (HR3.out.setRow _) rfl _ rfl) rfl ?_
        rw [HQ3.out]
        exact ⟨HP.out.1, HP.out.2, rfl⟩
end Go.Proofs.YtandanbojfdfjaaDoor
