import Derived.Test.YtandanbojfdfjaaDoorOpen
namespace Go.Proofs.YtandanbojfdfjaaDoor
open Go.ChangeShapes Go.WideShapes Go.ChangeAt Go.RowKit

/-- what Repair returns and leaves -/
def repairR (b : Bs) (p : Int) : Nat × Nat × Bs × Int :=
  if 1048576 < b.length then (0, 3, b, p)
  else if (cutR (scanS b).2 b p (scanS b).1.size).1 = 0 then (b.length - (scanS b).1.size, 0, (cutR (scanS b).2 b p (scanS b).1.size).2) else (0, 420, b, p)

def RepairP (w : World) (D : Nat) (r : Nat × Nat × Bs × Int) (e : Ending) (w' : World) : Prop :=
  e = .returned (.tuple #[.int .i64 r.1, .int .i64 r.2.1]) ∧ DiskAt w' D r.2.2.1 r.2.2.2 ∧ Kp w w' (fun k => k = D) ∧ NewB w w' D

theorem repair_any (D : Nat) (b : Bs) (p : Int) (w : World) (hD : DiskAt w D b p) (hlen : b.length ≤ 2000000) (hl : -(2^63) ≤ p) (hh : p < 2^63) (hT : Tb w) :
    Calls Tryd.prog 26 #[.pointer (some ⟨D, 0, none⟩)] w (RepairP w D (repairR b p)) := by
  by_cases hlong : 1048576 < b.length
  · obtain ⟨v, hb, hB⟩ := hD
    obtain ⟨A, c, rfl, _⟩ := hB.form
    refine (Repair_long D A b.length c p w hb hlong (by omega)).mono ?_
    rintro e w' ⟨rfl, rfl⟩
    unfold repairR
    rw [if_pos hlong]
    exact ⟨rfl, ⟨_, hb, hB⟩, Kp.refl _ _, NewB.refl _ _⟩
  · have HO := Lib.hid (opened_all D b p w hD (by omega) hT)
    have HR := Lib.hid (show repairR b p = if (cutR (scanS b).2 b p (scanS b).1.size).1 = 0 then (b.length - (scanS b).1.size, 0, (cutR (scanS b).2 b p (scanS b).1.size).2) else (0, 420, b, p) by unfold repairR; rw [if_neg hlong])
    have hsz := scan_size b
    have ht := scan_tail b
    have HN := Lib.hid (fun h => @scanS_ne b h)
    generalize scanS b = sc at *
    obtain ⟨s, t⟩ := sc
    simp only at *
    have hle : b.length ≤ 2000000 := hlen
    have HDlt := Lib.hid hD.lt
    clear hD hlong
    have HC := fun (L : Nat) (v : Value) (W : World) (h1 : Blk W L 68 (lg (.pointer (some ⟨D, 0, none⟩)) v s.last s.size false)) (h2 : DiskAt W D b p) => Lib.hid (cut_all L D v b p s.last s.size false t W h1 h2 HN.out hle hsz ht hl hh)
    have HQ := Lib.hid (show (cutR t b p s.size).1 = 0 ∨ (cutR t b p s.size) = (420, b, p) by unfold cutR; split; exact .inl rfl; split; exact .inr rfl; exact .inl rfl)
    generalize hcr : cutR t b p s.size = cr at *
    clear hcr
    have hw : IntKind.i64.wrap ((b.length : Int) - (s.size : Int)) = (b.length : Int) - (s.size : Int) := IntWalk.i64_in _ (by omega)
    go_enter Tryd.func26, Tryd.ntmps26
    go_wp2_with fail
    refine HO.out.mono ?_
    rintro e w1 ⟨L, rfl, hLw, ⟨v, hL⟩, hLog, hD1, hb⟩
    have HC1 := fun n => HC L v (w1.drewN n) hL (hD1.below (below_drewN (Below.refl _ _) n))
    obtain ⟨vb, hDb, hBy⟩ := hD1
    obtain ⟨A, c, rfl, _, hcap, _⟩ := hBy.form
    have d3 := hL.cell 3 _ rfl
    have d0 := hDb.cell 0 _ rfl
    have HB := Lib.hid hb
    clear hL hLog HC hDb hBy hb
    go_wp2_with fail
    go_quiet (fail)
    rename_i nq _
    have HC2 := HC1 nq
    go_wp2_with fail
    refine HC2.out.mono ?_
    rintro e w2 ⟨rfl, hD2, hk2, hn2⟩
    have HP : Hid (RepairP w D (repairR b p) (if cr.1 = 0 then .returned (.tuple #[.int .i64 ((b.length : Int) - (s.size : Int)), .int .i64 0]) else .returned (.tuple #[.int .i64 0, .int .i64 420])) w2) := Lib.hid (by
      rw [HR.out]
      have hk : Kp w w2 (fun k => k = D) ∧ NewB w w2 D := ⟨(Kp.of_below (below_drewN HB.out _) _).trans hk2, (NewB.below (below_drewN HB.out _) HDlt.out).trans hn2 (below_drewN HB.out _).size⟩
      rcases HQ.out with h | h
      · rw [if_pos h, if_pos h]
        refine ⟨?_, hD2, hk⟩
        rw [show ((b.length - s.size : Nat) : Int) = (b.length : Int) - (s.size : Int) by omega]
        rfl
      · subst h
        exact ⟨rfl, hD2, hk⟩)
    have HQ1 := HQ.out
    clear HQ hD2 hk2 hn2 HC1 HC2
    generalize cr.2 = c2 at *
    rcases HQ1 with h | h
    · rw [h] at HP ⊢
      have HP2 := Lib.hid HP.out
      clear HP h
      go_wp2_with fail
      go_ret2
      exact HP2.out
    · subst h
      go_wp2_with fail
      go_ret2
      exact HP.out
end Go.Proofs.YtandanbojfdfjaaDoor
