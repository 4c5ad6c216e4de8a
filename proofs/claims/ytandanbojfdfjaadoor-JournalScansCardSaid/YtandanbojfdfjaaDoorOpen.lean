import Derived.Test.YtandanbojfdfjaaDoorCut1
import Derived.Test.YtandanbojfdfjaaDoorCloneS
import Derived.Deep.QuietTactic
namespace Go.Proofs.YtandanbojfdfjaaDoor
open Go.ChangeShapes Go.WideShapes Go.ChangeAt Go.RowKit

theorem scanS_nil : scanS [] = (.zero, 0) := by
  unfold scanS; rw [lns_nil]; rfl
theorem scanS_ne {b : Bs} (h : 0 < (scanS b).2) : b ≠ [] := by
  rintro rfl
  rw [scanS_nil] at h
  simp at h

theorem lastL_any (base L D : Nat) (r : Option Nat) (s : St) (cl : Bool) (w : World) (h : LogAt w base L D r s cl) :
    Calls Tryd.prog 24 #[.pointer (some ⟨L, 0, none⟩)] w fun e w' => e = .returned (.int .i64 s.last) ∧ w = w' := by
  obtain ⟨v, _, hL, _⟩ := h
  exact last_any _ _ _ _ _ _ _ hL
theorem sizeL_any (base L D : Nat) (r : Option Nat) (s : St) (cl : Bool) (w : World) (h : LogAt w base L D r s cl) :
    Calls Tryd.prog 17 #[.pointer (some ⟨L, 0, none⟩)] w fun e w' => e = .returned (.int .i64 s.size) ∧ w = w' := by
  obtain ⟨v, _, hL, _⟩ := h
  exact size_any _ _ _ _ _ _ _ hL

/-- Scan -/
theorem Scan_rd (A : Option Addr) (c n : Nat) (b : Bs) (w : World) (hr : Rd w w.heap.size A (bcs b)) (hcap : b.length ≤ c) (hlen : b.length ≤ 2000000) (hn : b.length = n) (hT : Tb w) :
    Calls Tryd.prog 20 #[.slice A n c] w fun e w' => ∃ a1 c1, e = .returned (.tuple #[.slice a1 (scanS b).1.recs.length c1, .int .i64 (scanS b).1.size, .int .u8 (scanS b).2]) ∧ w'.ownsRow w.heap.size 9 1 (.slice a1 (scanS b).1.recs.length c1) (scanS b).1.recs.length (scs (scanS b).1.recs) ∧ Below w.heap.size w w' := by
  subst hn
  have HS := Lib.hid (scan_any A b c w hr hcap hlen hT)
  clear hr
  generalize scanS b = s at *
  go_enter Tryd.func20, Tryd.ntmps20
  go_wp2_with fail
  refine HS.out.mono ?_
  rintro e w1 ⟨L, rfl, hLw, v, hL, hrow, hb⟩
  obtain ⟨a1, c1, rfl⟩ := row_slice hrow
  have d1 := hL.cell 1 _ rfl
  have d3 := hL.cell 3 _ rfl
  have HR := Lib.hid hrow
  clear hL hrow
  go_wp2_with fail
  go_quiet (fail)
  go_wp2_with fail
  go_ret3
  exact ⟨_, _, rfl, ownsRow_later HR.out (below_drewN (Below.refl _ _) _), below_drewN hb _⟩

/-- what Open returns and leaves -/
def openR (b : Bs) (p : Int) : Option St × Nat × Bs × Int :=
  if 1048576 < b.length then (none, 3, b, p) else if (scanS b).2 = 2 then (none, 421, b, p)
  else if (cutR (scanS b).2 b p (scanS b).1.size).1 = 0 then (some (scanS b).1, 0, (cutR (scanS b).2 b p (scanS b).1.size).2) else (none, 420, b, p)

def OpenP (w : World) (D : Nat) (r : Option St × Nat × Bs × Int) (e : Ending) (w' : World) : Prop :=
  DiskAt w' D r.2.2.1 r.2.2.2 ∧ Kp w w' (fun k => k = D) ∧
    match r.1 with
    | none => e = .returned (.tuple #[.pointer none, .int .i64 r.2.1])
    | some s => ∃ L rb, e = .returned (.tuple #[.pointer (some ⟨L, 0, none⟩), .int .i64 0]) ∧ LogAt w' w.heap.size L D rb s false ∧ w.heap.size ≤ L

theorem OpenP.none {w : World} {D : Nat} {n : Nat} {b : Bs} {p : Int} {w' : World} (h1 : DiskAt w' D b p) (h2 : Kp w w' (fun k => k = D)) : OpenP w D (Option.none, n, b, p) (.returned (.tuple #[.pointer Option.none, .int .i64 n])) w' := ⟨h1, h2, rfl⟩

theorem opened_long (D : Nat) (A : Option Addr) (n c : Nat) (p : Int) (w : World) (hD : Blk w D 28 (dsk (.slice A n c) p)) (hn : 1048576 < n) (hn2 : n ≤ 1000000000) :
    Calls Tryd.prog 32 #[.pointer (some ⟨D, 0, none⟩)] w fun e w' => e = .returned (.tuple #[.pointer Option.none, .int .u8 0, .int .i64 3]) ∧ w = w' := by
  have c0 := hD.cell 0 (.slice A n c) rfl
  clear hD
  go_enter Tryd.func32, Tryd.ntmps32
  go_wp2_with fail
  go_ret3
  exact ⟨rfl, rfl⟩
theorem opened_nil (w : World) :
    Calls Tryd.prog 32 #[.pointer none] w fun e w' => e = .returned (.tuple #[.pointer Option.none, .int .u8 0, .int .i64 1]) ∧ w = w' := by
  go_enter Tryd.func32, Tryd.ntmps32
  go_wp2_with fail
  go_ret3
  exact ⟨rfl, rfl⟩
theorem Open_nil (w : World) :
    Calls Tryd.prog 13 #[.pointer none] w fun e w' => e = .returned (.tuple #[.pointer Option.none, .int .i64 1]) ∧ w = w' := by
  go_enter Tryd.func13, Tryd.ntmps13
  go_wp2_with fail
  refine (opened_nil w).mono ?_
  rintro e w' ⟨rfl, rfl⟩
  go_wp2_with fail
  go_ret2
  exact ⟨rfl, rfl⟩
theorem Repair_nil (w : World) :
    Calls Tryd.prog 26 #[.pointer none] w fun e w' => e = .returned (.tuple #[.int .i64 0, .int .i64 1]) ∧ w = w' := by
  go_enter Tryd.func26, Tryd.ntmps26
  go_wp2_with fail
  refine (opened_nil w).mono ?_
  rintro e w' ⟨rfl, rfl⟩
  go_wp2_with fail
  go_ret2
  exact ⟨rfl, rfl⟩
theorem Open_long (D : Nat) (A : Option Addr) (n c : Nat) (p : Int) (w : World) (hD : Blk w D 28 (dsk (.slice A n c) p)) (hn : 1048576 < n) (hn2 : n ≤ 1000000000) :
    Calls Tryd.prog 13 #[.pointer (some ⟨D, 0, none⟩)] w fun e w' => e = .returned (.tuple #[.pointer Option.none, .int .i64 3]) ∧ w = w' := by
  have HO := Lib.hid (opened_long D A n c p w hD hn hn2)
  clear hD
  go_enter Tryd.func13, Tryd.ntmps13
  go_wp2_with fail
  refine HO.out.mono ?_
  rintro e w' ⟨rfl, rfl⟩
  go_wp2_with fail
  go_ret2
  exact ⟨rfl, rfl⟩
theorem Repair_long (D : Nat) (A : Option Addr) (n c : Nat) (p : Int) (w : World) (hD : Blk w D 28 (dsk (.slice A n c) p)) (hn : 1048576 < n) (hn2 : n ≤ 1000000000) :
    Calls Tryd.prog 26 #[.pointer (some ⟨D, 0, none⟩)] w fun e w' => e = .returned (.tuple #[.int .i64 0, .int .i64 3]) ∧ w = w' := by
  have HO := Lib.hid (opened_long D A n c p w hD hn hn2)
  clear hD
  go_enter Tryd.func26, Tryd.ntmps26
  go_wp2_with fail
  refine HO.out.mono ?_
  rintro e w' ⟨rfl, rfl⟩
  go_wp2_with fail
  go_ret2
  exact ⟨rfl, rfl⟩
end Go.Proofs.YtandanbojfdfjaaDoor
