import Derived.Test.YtandanbojfdfjaaDoorCut1
import Derived.Test.YtandanbojfdfjaaDoorCloneS
import Derived.Deep.QuietTactic
import Derived.Test.YtandanbojfdfjaaDoorPlain
namespace Go.Proofs.YtandanbojfdfjaaDoor
open Go.ChangeShapes Go.WideShapes Go.ChangeAt Go.RowKit

theorem scanS_nil : scanS [] = (.zero, 0) := by
  unfold scanS; rw [lns_nil]; rfl
theorem scanS_ne {b : Bs} (h : 0 < (scanS b).2) : b ≠ [] := by
  rintro rfl
  rw [scanS_nil] at h
  simp at h

theorem lastL_any (base L D : Nat) (r : Option Nat) (s : St) (cl : Bool) (w : World) (h : LogAt w base L D r s cl) :
    Calls Tryd.prog 24 #[.pointer (some ⟨L, 0, none⟩)] w fun e w' => e = .returned (.int .i64 s.last) ∧ w = w' := by
  obtain ⟨v, _, hL, _⟩ := h
  exact last_any _ _ _ _ _ _ _ hL
theorem sizeL_any (base L D : Nat) (r : Option Nat) (s : St) (cl : Bool) (w : World) (h : LogAt w base L D r s cl) :
    Calls Tryd.prog 17 #[.pointer (some ⟨L, 0, none⟩)] w fun e w' => e = .returned (.int .i64 s.size) ∧ w = w' := by
  obtain ⟨v, _, hL, _⟩ := h
  exact size_any _ _ _ _ _ _ _ hL

/-- Scan -/
theorem Scan_rd (A : Option Addr) (c n : Nat) (b : Bs) (w : World) (hr : Rd w w.heap.size A (bcs b)) (hcap : b.length ≤ c) (hlen : b.length ≤ 2000000) (hn : b.length = n) (hT : Tb w) :
    Calls Tryd.prog 20 #[.slice A n c] w fun e w' => ∃ a1 c1, e = .returned (.tuple #[.slice a1 (scanS b).1.recs.length c1, .int .i64 (scanS b).1.size, .int .u8 (scanS b).2]) ∧ w'.ownsRow w.heap.size 9 1 (.slice a1 (scanS b).1.recs.length c1) (scanS b).1.recs.length (scs (scanS b).1.recs) ∧ Below w.heap.size w w' := by
  subst hn
  have HS := Lib.hid (scan_any A b c w hr hcap hlen hT)
  clear hr
  generalize scanS b = s at *
  go_enter Tryd.func20, Tryd.ntmps20
  go_wp2_with fail
  refine HS.out.mono ?_
  rintro e w1 ⟨L, rfl, hLw, v, hL, hrow, hb⟩
  obtain ⟨a1, c1, rfl⟩ := row_slice hrow
  have d1 := hL.cell 1 _ rfl
  have d3 := hL.cell 3 _ rfl
  have HR := Lib.hid hrow
  clear hL hrow
  go_wp2_with fail
  go_quiet (fail)
  go_wp2_with fail
  go_ret3
  exact ⟨_, _, rfl, ownsRow_later HR.out (below_drewN (Below.refl _ _) _), below_drewN hb _⟩

/-- what Open returns and leaves -/
def openR (b : Bs) (p : Int) : Option St × Nat × Bs × Int :=
  if 1048576 < b.length then (none, 3, b, p) else if (scanS b).2 = 2 then (none, 421, b, p)
  else if (cutR (scanS b).2 b p (scanS b).1.size).1 = 0 then (some (scanS b).1, 0, (cutR (scanS b).2 b p (scanS b).1.size).2) else (none, 420, b, p)

def OpenP (w : World) (D : Nat) (r : Option St × Nat × Bs × Int) (e : Ending) (w' : World) : Prop :=
  DiskAt w' D r.2.2.1 r.2.2.2 ∧ (Kp w w' (fun k => k = D) ∧ NewB w w' D) ∧
    match r.1 with
    | none => e = .returned (.tuple #[.pointer none, .int .i64 r.2.1])
    | some s => ∃ L rb, e = .returned (.tuple #[.pointer (some ⟨L, 0, none⟩), .int .i64 0]) ∧ LogAt w' w.heap.size L D rb s false ∧ w.heap.size ≤ L

theorem OpenP.none {w : World} {D : Nat} {n : Nat} {b : Bs} {p : Int} {w' : World} (h1 : DiskAt w' D b p) (h2 : Kp w w' (fun k => k = D) ∧ NewB w w' D) : OpenP w D (Option.none, n, b, p) (.returned (.tuple #[.pointer Option.none, .int .i64 n])) w' := ⟨h1, h2, rfl⟩

theorem opened_long (D : Nat) (A : Option Addr) (n c : Nat) (p : Int) (w : World) (hD : Blk w D 28 (dsk (.slice A n c) p)) (hn : 1048576 < n) (hn2 : n ≤ 1000000000) :
    Calls Tryd.prog 32 #[.pointer (some ⟨D, 0, none⟩)] w fun e w' => e = .returned (.tuple #[.pointer Option.none, .int .u8 0, .int .i64 3]) ∧ w = w' := by
  have c0 := hD.cell 0 (.slice A n c) rfl
  clear hD
  go_enter Tryd.func32, Tryd.ntmps32
  go_wp2_with fail
  go_ret3
  exact ⟨rfl, rfl⟩
theorem opened_nil (w : World) :
    Calls Tryd.prog 32 #[.pointer none] w fun e w' => e = .returned (.tuple #[.pointer Option.none, .int .u8 0, .int .i64 1]) ∧ w = w' := by
  go_enter Tryd.func32, Tryd.ntmps32
  go_wp2_with fail
  go_ret3
  exact ⟨rfl, rfl⟩
theorem Open_nil (w : World) :
    Calls Tryd.prog 13 #[.pointer none] w fun e w' => e = .returned (.tuple #[.pointer Option.none, .int .i64 1]) ∧ w = w' := by
  go_enter Tryd.func13, Tryd.ntmps13
  go_wp2_with fail
  refine (opened_nil w).mono ?_
  rintro e w' ⟨rfl, rfl⟩
  go_wp2_with fail
  go_ret2
  exact ⟨rfl, rfl⟩
theorem Repair_nil (w : World) :
    Calls Tryd.prog 26 #[.pointer none] w fun e w' => e = .returned (.tuple #[.int .i64 0, .int .i64 1]) ∧ w = w' := by
  go_enter Tryd.func26, Tryd.ntmps26
  go_wp2_with fail
  refine (opened_nil w).mono ?_
  rintro e w' ⟨rfl, rfl⟩
  go_wp2_with fail
  go_ret2
  exact ⟨rfl, rfl⟩
theorem Open_long (D : Nat) (A : Option Addr) (n c : Nat) (p : Int) (w : World) (hD : Blk w D 28 (dsk (.slice A n c) p)) (hn : 1048576 < n) (hn2 : n ≤ 1000000000) :
    Calls Tryd.prog 13 #[.pointer (some ⟨D, 0, none⟩)] w fun e w' => e = .returned (.tuple #[.pointer Option.none, .int .i64 3]) ∧ w = w' := by
  have HO := Lib.hid (opened_long D A n c p w hD hn hn2)
  clear hD
  go_enter Tryd.func13, Tryd.ntmps13
  go_wp2_with fail
  refine HO.out.mono ?_
  rintro e w' ⟨rfl, rfl⟩
  go_wp2_with fail
  go_ret2
  exact ⟨rfl, rfl⟩
theorem Repair_long (D : Nat) (A : Option Addr) (n c : Nat) (p : Int) (w : World) (hD : Blk w D 28 (dsk (.slice A n c) p)) (hn : 1048576 < n) (hn2 : n ≤ 1000000000) :
    Calls Tryd.prog 26 #[.pointer (some ⟨D, 0, none⟩)] w fun e w' => e = .returned (.tuple #[.int .i64 0, .int .i64 3]) ∧ w = w' := by
  have HO := Lib.hid (opened_long D A n c p w hD hn hn2)
  clear hD
  go_enter Tryd.func26, Tryd.ntmps26
  go_wp2_with fail
  refine HO.out.mono ?_
  rintro e w' ⟨rfl, rfl⟩
  go_wp2_with fail
  go_ret2
  exact ⟨rfl, rfl⟩
end Go.Proofs.YtandanbojfdfjaaDoor

namespace Go.Proofs.YtandanbojfdfjaaDoor
open Go.ChangeShapes Go.WideShapes Go.ChangeAt Go.RowKit

theorem opened_all (D : Nat) (b : Bs) (p : Int) (w : World) (hD : DiskAt w D b p) (hlen : b.length ≤ 1048576) (hT : Tb w) :
    Calls Tryd.prog 32 #[.pointer (some ⟨D, 0, none⟩)] w fun e w' => ∃ L, e = .returned (.tuple #[.pointer (some ⟨L, 0, none⟩), .int .u8 (scanS b).2, .int .i64 0]) ∧ w.heap.size ≤ L ∧
      (∃ v, Blk w' L 68 (lg (.pointer (some ⟨D, 0, none⟩)) v (scanS b).1.last (scanS b).1.size false)) ∧ (∃ r, LogAt w' w.heap.size L D r (scanS b).1 false) ∧ DiskAt w' D b p ∧ Below w.heap.size w w' := by
  obtain ⟨v0, hb, hB⟩ := hD
  obtain ⟨A, c, rfl, hr, hcap, _, _, _⟩ := hB.form
  refine (opened_any D A b c p w hb hr hcap hlen hT).mono ?_
  rintro e w' ⟨L, he, hL, v, h1, h2, hbl⟩
  exact ⟨L, he, hL, ⟨v, h1⟩, ⟨_, v, rfl, h1, h2⟩, ⟨_, (hbl.block D hb.lt).trans hb, hB.below hbl⟩, hbl⟩

theorem open_keep {w w1 w2 : World} {D L : Nat} {s : St} {cl : Bool} {b : Bs} {p : Int} (hL : ∃ r, LogAt w1 w.heap.size L D r s cl) (hD : DiskAt w1 D b p) (hk : Kp w1 w2 (fun k => k = D)) : ∃ r, LogAt w2 w.heap.size L D r s cl := by
  obtain ⟨r, h⟩ := hL
  obtain ⟨cs, hd⟩ := hD.blk
  obtain ⟨cs', hl⟩ := h.blk
  refine ⟨r, h.kp hk ?_ ?_⟩
  · rintro rfl
    exact absurd (blk_ne hl hd) (by decide)
  · intro k hr e
    subst e
    obtain ⟨cs2, h2⟩ := h.rblk _ hr
    exact absurd (blk_ne h2 hd) (by decide)

theorem open_any (D : Nat) (b : Bs) (p : Int) (w : World) (hD : DiskAt w D b p) (hlen : b.length ≤ 2000000) (hl : -(2^63) ≤ p) (hh : p < 2^63) (hT : Tb w) :
    Calls Tryd.prog 13 #[.pointer (some ⟨D, 0, none⟩)] w (OpenP w D (openR b p)) := by
  by_cases hlong : 1048576 < b.length
  · obtain ⟨v, hb, hB⟩ := hD
    obtain ⟨A, c, rfl, _⟩ := hB.form
    refine (Open_long D A b.length c p w hb hlong (by omega)).mono ?_
    rintro e w' ⟨rfl, rfl⟩
    unfold openR
    rw [if_pos hlong]
    exact ⟨⟨_, hb, hB⟩, ⟨Kp.refl _ _, NewB.refl _ _⟩, rfl⟩
  · have HO := Lib.hid (opened_all D b p w hD (by omega) hT)
    have HR := Lib.hid (show openR b p = if (scanS b).2 = 2 then (none, 421, b, p) else if (cutR (scanS b).2 b p (scanS b).1.size).1 = 0 then (some (scanS b).1, 0, (cutR (scanS b).2 b p (scanS b).1.size).2) else (none, 420, b, p) by unfold openR; rw [if_neg hlong])
    have hsz := scan_size b
    have ht := scan_tail b
    have HN := Lib.hid (fun h => @scanS_ne b h)
    generalize scanS b = sc at *
    obtain ⟨s, t⟩ := sc
    simp only at *
    have hle : b.length ≤ 2000000 := hlen
    have HDlt := Lib.hid hD.lt
    clear hD hlong
    by_cases ht2 : t = 2
    · subst ht2
      go_enter Tryd.func13, Tryd.ntmps13
      go_wp2_with fail
      refine HO.out.mono ?_
      rintro e w1 ⟨L, rfl, hLw, hL, hLog, hD1, hb⟩
      have HF := Lib.hid (show OpenP w D (openR b p) (.returned (.tuple #[.pointer none, .int .i64 421])) w1 by
        rw [HR.out, if_pos trivial]
        exact ⟨hD1, ⟨Kp.of_below hb _, NewB.below hb HDlt.out⟩, rfl⟩)
      clear hL hLog hD1 hb
      go_wp2_with fail
      go_ret2
      exact HF.out
    · have ht1 : t ≤ 1 := by omega
      have hq : ((t : Int) == 2) = false := by simp; omega
      have HC := fun (L : Nat) (v : Value) (W : World) (h1 : Blk W L 68 (lg (.pointer (some ⟨D, 0, none⟩)) v s.last s.size false)) (h2 : DiskAt W D b p) => Lib.hid (cut_all L D v b p s.last s.size false t W h1 h2 HN.out hle hsz (by omega) hl hh)
      have HQ := Lib.hid (show (cutR t b p s.size).1 = 0 ∨ (cutR t b p s.size) = (420, b, p) by unfold cutR; split; exact .inl rfl; split; exact .inr rfl; exact .inl rfl)
      generalize hcr : cutR t b p s.size = cr at *
      clear hcr
      go_enter Tryd.func13, Tryd.ntmps13
      go_wp2_with fail
      refine HO.out.mono ?_
      rintro e w1 ⟨L, rfl, hLw, ⟨v, hL⟩, hLog, hD1, hb⟩
      have HC1 := HC L v w1 hL hD1
      have HLog := Lib.hid hLog
      have HD1 := Lib.hid hD1
      clear hL hLog hD1 HC
      go_wp2_with fail
      refine HC1.out.mono ?_
      rintro e w2 ⟨rfl, hD2, hk2, hn2⟩
      have HP : Hid (OpenP w D (openR b p) (if cr.1 = 0 then .returned (.tuple #[.pointer (some ⟨L, 0, none⟩), .int .i64 0]) else .returned (.tuple #[.pointer none, .int .i64 420])) w2) := Lib.hid (by
        rw [HR.out, if_neg ht2]
        have hlog := open_keep HLog.out HD1.out hk2
        rcases HQ.out with h | h
        · rw [if_pos h, if_pos h]
          obtain ⟨r, hlog⟩ := hlog
          exact ⟨hD2, ⟨(Kp.of_below hb _).trans hk2, (NewB.below hb HDlt.out).trans hn2 hb.size⟩, L, r, rfl, hlog, hLw⟩
        · subst h
          exact ⟨hD2, ⟨(Kp.of_below hb _).trans hk2, (NewB.below hb HDlt.out).trans hn2 hb.size⟩, rfl⟩)
      have HQ1 := HQ.out
      clear HQ hD2 hk2 hn2 HC1
      generalize cr.2 = c2 at *
      rcases HQ1 with h | h
      · rw [h] at HP ⊢
        have HP2 := Lib.hid HP.out
        clear HP h
        go_wp2_with fail
        go_ret2
        exact HP2.out
      · subst h
        go_wp2_with fail
        go_ret2
        exact HP.out
end Go.Proofs.YtandanbojfdfjaaDoor
