import Derived.Test.YtandanbojfdfjaaDoorOpen
import Derived.Test.YtandanbojfdfjaaDoorPlain
namespace Go.Proofs.YtandanbojfdfjaaDoor
open Go.ChangeShapes Go.WideShapes Go.ChangeAt Go.RowKit

theorem opened_all (D : Nat) (b : Bs) (p : Int) (w : World) (hD : DiskAt w D b p) (hlen : b.length ≤ 1048576) (hT : Tb w) :
    Calls Tryd.prog 32 #[.pointer (some ⟨D, 0, none⟩)] w fun e w' => ∃ L, e = .returned (.tuple #[.pointer (some ⟨L, 0, none⟩), .int .u8 (scanS b).2, .int .i64 0]) ∧ w.heap.size ≤ L ∧
      (∃ v, Blk w' L 68 (lg (.pointer (some ⟨D, 0, none⟩)) v (scanS b).1.last (scanS b).1.size false)) ∧ (∃ r, LogAt w' w.heap.size L D r (scanS b).1 false) ∧ DiskAt w' D b p ∧ Below w.heap.size w w' := by
  obtain ⟨v0, hb, hB⟩ := hD
  obtain ⟨A, c, rfl, hr, hcap, _, _, _⟩ := hB.form
  refine (opened_any D A b c p w hb hr hcap hlen hT).mono ?_
  rintro e w' ⟨L, he, hL, v, h1, h2, hbl⟩
  exact ⟨L, he, hL, ⟨v, h1⟩, ⟨_, v, rfl, h1, h2⟩, ⟨_, (hbl.block D hb.lt).trans hb, hB.below hbl⟩, hbl⟩

theorem open_keep {w w1 w2 : World} {D L : Nat} {s : St} {cl : Bool} {b : Bs} {p : Int} (hL : ∃ r, LogAt w1 w.heap.size L D r s cl) (hD : DiskAt w1 D b p) (hk : Kp w1 w2 (fun k => k = D)) : ∃ r, LogAt w2 w.heap.size L D r s cl := by
  obtain ⟨r, h⟩ := hL
  obtain ⟨cs, hd⟩ := hD.blk
  obtain ⟨cs', hl⟩ := h.blk
  refine ⟨r, h.kp hk ?_ ?_⟩
  · rintro rfl
    exact absurd (blk_ne hl hd) (by decide)
  · intro k hr e
    subst e
    obtain ⟨cs2, h2⟩ := h.rblk _ hr
    exact absurd (blk_ne h2 hd) (by decide)

theorem open_any (D : Nat) (b : Bs) (p : Int) (w : World) (hD : DiskAt w D b p) (hlen : b.length ≤ 2000000) (hl : -(2^63) ≤ p) (hh : p < 2^63) (hT : Tb w) :
    Calls Tryd.prog 13 #[.pointer (some ⟨D, 0, none⟩)] w (OpenP w D (openR b p)) := by
  by_cases hlong : 1048576 < b.length
  · obtain ⟨v, hb, hB⟩ := hD
    obtain ⟨A, c, rfl, _⟩ := hB.form
    refine (Open_long D A b.length c p w hb hlong (by omega)).mono ?_
    rintro e w' ⟨rfl, rfl⟩
    unfold openR
    rw [if_pos hlong]
    exact ⟨⟨_, hb, hB⟩, Kp.refl _ _, rfl⟩
  · have HO := Lib.hid (opened_all D b p w hD (by omega) hT)
    have HR := Lib.hid (show openR b p = if (scanS b).2 = 2 then (none, 421, b, p) else if (cutR (scanS b).2 b p (scanS b).1.size).1 = 0 then (some (scanS b).1, 0, (cutR (scanS b).2 b p (scanS b).1.size).2) else (none, 420, b, p) by unfold openR; rw [if_neg hlong])
    have hsz := scan_size b
    have ht := scan_tail b
    have HN := Lib.hid (fun h => @scanS_ne b h)
    generalize scanS b = sc at *
    obtain ⟨s, t⟩ := sc
    simp only at *
    have hle : b.length ≤ 2000000 := hlen
    clear hD hlong
    by_cases ht2 : t = 2
    · subst ht2
      go_enter Tryd.func13, Tryd.ntmps13
      go_wp2_with fail
      refine HO.out.mono ?_
      rintro e w1 ⟨L, rfl, hLw, hL, hLog, hD1, hb⟩
      have HF := Lib.hid (show OpenP w D (openR b p) (.returned (.tuple #[.pointer none, .int .i64 421])) w1 by
        rw [HR.out, if_pos trivial]
        exact ⟨hD1, Kp.of_below hb _, rfl⟩)
      clear hL hLog hD1 hb
      go_wp2_with fail
      go_ret2
      exact HF.out
    · have ht1 : t ≤ 1 := by omega
      have hq : ((t : Int) == 2) = false := by simp; omega
      have HC := fun (L : Nat) (v : Value) (W : World) (h1 : Blk W L 68 (lg (.pointer (some ⟨D, 0, none⟩)) v s.last s.size false)) (h2 : DiskAt W D b p) => Lib.hid (cut_all L D v b p s.last s.size false t W h1 h2 HN.out hle hsz (by omega) hl hh)
      have HQ := Lib.hid (show (cutR t b p s.size).1 = 0 ∨ (cutR t b p s.size) = (420, b, p) by unfold cutR; split; exact .inl rfl; split; exact .inr rfl; exact .inl rfl)
      generalize hcr : cutR t b p s.size = cr at *
      clear hcr
      go_enter Tryd.func13, Tryd.ntmps13
      go_wp2_with fail
      refine HO.out.mono ?_
      rintro e w1 ⟨L, rfl, hLw, ⟨v, hL⟩, hLog, hD1, hb⟩
      have HC1 := HC L v w1 hL hD1
      have HLog := Lib.hid hLog
      have HD1 := Lib.hid hD1
      clear hL hLog hD1 HC
      go_wp2_with fail
      refine HC1.out.mono ?_
      rintro e w2 ⟨rfl, hD2, hk2⟩
      have HP : Hid (OpenP w D (openR b p) (if cr.1 = 0 then .returned (.tuple #[.pointer (some ⟨L, 0, none⟩), .int .i64 0]) else .returned (.tuple #[.pointer none, .int .i64 420])) w2) := Lib.hid (by
        rw [HR.out, if_neg ht2]
        have hlog := open_keep HLog.out HD1.out hk2
        rcases HQ.out with h | h
        · rw [if_pos h, if_pos h]
          obtain ⟨r, hlog⟩ := hlog
          exact ⟨hD2, (Kp.of_below hb _).trans hk2, L, r, rfl, hlog, hLw⟩
        · subst h
          exact ⟨hD2, (Kp.of_below hb _).trans hk2, rfl⟩)
      have HQ1 := HQ.out
      clear HQ hD2 hk2 HC1
      generalize cr.2 = c2 at *
      rcases HQ1 with h | h
      · rw [h] at HP ⊢
        have HP2 := Lib.hid HP.out
        clear HP h
        go_wp2_with fail
        go_ret2
        exact HP2.out
      · subst h
        go_wp2_with fail
        go_ret2
        exact HP.out
end Go.Proofs.YtandanbojfdfjaaDoor
