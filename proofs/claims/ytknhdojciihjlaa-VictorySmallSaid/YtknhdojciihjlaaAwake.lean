import Derived.Test.YtknhdojciihjlaaTot
import Derived.Test.YtknhdojciihjlaaMar
namespace Go.Proofs.Ytknhdojciihjlaa
open Go.ChangeShapes Go.WideShapes Go.ChangeAt Go.RowKit

def u16 : List Int := [6, 12, 18, 24, 30, 36, 42, 48, 54, 60]
def u1 : List Int := [2, 3, 5, 6, 8, 9, 11, 12, 14, 15]
theorem us16 : us 16 10 = u16 := by decide +kernel
theorem us1 : us 1 10 = u1 := by decide +kernel
theorem r16 : RightB u16 = true := by decide +kernel

theorem usual16 (w : World) : Calls Try.prog 13 #[.int .i64 16] w fun e w' => ∃ v, e = .returned (.tuple #[v, .int .i64 0]) ∧ Own w w' 3 1 v 10 (ics .i64 u16) := by
  have h := usual_ok 16 w (by omega) (by omega)
  rw [us16] at h
  exact h
theorem usual1 (w : World) : Calls Try.prog 13 #[.int .i64 1] w fun e w' => ∃ v, e = .returned (.tuple #[v, .int .i64 0]) ∧ Own w w' 3 1 v 10 (ics .i64 u1) := by
  have h := usual_ok 1 w (by omega) (by omega)
  rw [us1] at h
  exact h

theorem same_num {A B : Option Addr} {c d n : Nat} {xs ys : List Int} {w : World} {r : Bool} (hx : Rd w w.heap.size A (ics .i64 xs)) (hy : Rd w w.heap.size B (ics .i64 ys)) (hn : xs.length = n) (hn' : ys.length = n) (hm : n ≤ 1000000) (hr : decide (xs = ys) = r) :
    Calls Try.prog 21 #[.slice A n c, .slice B n d] w fun e w' => e = .returned (.bool r) ∧ Qt w w' := by
  subst hn
  have := same_any A B c d xs ys w hx hy hm
  rw [hn', hr] at this
  exact this

theorem pts_num {A : Option Addr} {c n : Nat} {xs : List Int} {m a b : Int} {w0 w : World} (h : Rd w0 w0.heap.size A (ics .i64 xs)) (h0 : Below w0.heap.size w0 w) (hn : xs.length = n) (hk : PtsOk xs m) (ha : (n : Int) + ptsN xs m = a) (hb : (n : Int) - ptsN xs m = b) :
    Calls Try.prog 10 #[.slice A n c, .int .i64 m] w fun e w' => e = .returned (.tuple #[.int .i64 a, .int .i64 b, .int .i64 0]) ∧ Below w.heap.size w w' ∧ Below w0.heap.size w0 w' := by
  subst hn
  have := points_ok A c xs m w (h.now h0) hk
  rw [ha, hb] at this
  exact this.mono fun _ _ ⟨he, h'⟩ => ⟨he, h', h0.trans (h'.mono h0.size)⟩
theorem mar_num {A : Option Addr} {c n : Nat} {xs : List Int} {a b : Int} {w0 w : World} (p : Nat) (h : Rd w0 w0.heap.size A (ics .i64 xs)) (h0 : Below w0.heap.size w0 w) (hn : xs.length = n) (hR : RightB xs = true) (h2 : p ≤ 2 * n) (ha : loM xs p = a) (hb : upM xs p = b) :
    Calls Try.prog 12 #[.slice A n c, .int .i64 p] w fun e w' => e = .returned (.tuple #[.int .i64 a, .int .i64 b, .int .i64 0]) ∧ Below w.heap.size w w' ∧ Below w0.heap.size w0 w' := by
  subst hn
  have := margins_any A c xs p w (h.now h0) hR h2
  rw [ha, hb] at this
  exact this.mono fun _ _ ⟨he, h'⟩ => ⟨he, h', h0.trans (h'.mono h0.size)⟩

def T1 : List Int := [0, 10, 10, 5, 10, 10, 6, 11, 9, (-13), 8, 12, 60, 20, 0, 1000, 20, 0]
def T2 : List Int := [10, (-5), 5, 11, 6, 11, 20, 60, 1000000]

set_option maxRecDepth 100000 in
set_option maxHeartbeats 2000000 in
theorem awake_any (w : World) : Calls Try.prog 11 #[] w fun e w' => e = .returned (.bool true) ∧ Below w.heap.size w w' := by
  go_enter Try.func11, Try.ntmps11
  go_wp2_with fail
  refine (usual16 _).mono ?_
  rintro e w1 ⟨v1, rfl, own1⟩
  obtain ⟨A1, c1, rfl, hc1, rd1⟩ := own1.rd
  go_wp2_with fail
  refine (usual1 _).mono ?_
  rintro e w2 ⟨v2, rfl, own2⟩
  obtain ⟨A2, c2, rfl, hc2, rd2⟩ := own2.rd
  have b2 : Below w.heap.size w w2 := own1.bel.trans (own2.bel.mono own1.bel.size)
  have rd1' := rd1.keep own2.bel own2.bel.size
  clear own1 own2 rd1
  go_wp2_with fail
  refine (same_num (xs := u16) (ys := u16) (r := true) (rd1'.alloc _) (Rd.built (ics .i64 u16)) rfl rfl (by decide) (by decide)).mono ?_
  rintro e w3 ⟨rfl, q3⟩
  have b3 : Below w.heap.size w w3 := (b2.alloc b2.size _).trans (q3.below _)
  have rd1 := (rd1'.alloc _).qtn q3
  have rd2' := (rd2.alloc _).qtn q3
  clear rd1' rd2 q3 b2
  go_wp2_with fail
  refine (same_num (xs := u1) (ys := u1) (r := true) (rd2'.alloc _) (Rd.built (ics .i64 u1)) rfl rfl (by decide) (by decide)).mono ?_
  rintro e w4 ⟨rfl, q4⟩
  have b4 : Below w.heap.size w w4 := (b3.alloc b3.size _).trans (q4.below _)
  have rd1' := (rd1.alloc _).qtn q4
  clear rd1 rd2' q4 b3
  go_wp2_with fail
  obtain ⟨W, g, hW, hg⟩ : ∃ (W : World) (g : Nat), W = w4.alloc (.cells (ics .i64 T1).toArray 46) ∧ g = w4.heap.size := ⟨_, _, rfl, rfl⟩
  have rdT0 : Rd W W.heap.size (some ⟨g, 0, none⟩) (ics .i64 T1) := by rw [hW, hg]; exact Rd.built (ics .i64 T1)
  have rdA0 : Rd W W.heap.size A1 (ics .i64 u16) := by rw [hW]; exact rd1'.alloc _
  have bW : Below w.heap.size w W := by rw [hW]; exact b4.alloc b4.size _
  change Code.wp _ _ _ _ (w4.alloc (.cells (ics .i64 T1).toArray 46))
  rw [← hW, ← hg]
  clear hW hg b4 rd1'
  go_loopw [51] (fun i wr => ∃ k : Nat, k ≤ 6 ∧ i = .int .i64 k ∧ Below w.heap.size w wr ∧ Rd wr wr.heap.size A1 (ics .i64 u16) ∧ Rd wr wr.heap.size (some ⟨g, 0, none⟩) (ics .i64 T1)) (fun i _ => 6 - (intOf i).toNat)
  case atStart => exact ⟨0, by omega, rfl, bW, rdA0, rdT0⟩
  case round =>
    obtain ⟨k, hk, rfl, hbw, rdA, rdT⟩ := hrel
    obtain ⟨g', o', hgo, hlt, hcT⟩ := rdT.int (by decide)
    simp only [Option.some.injEq, Addr.mk.injEq, and_true] at hgo
    obtain ⟨rfl, rfl⟩ := hgo
    obtain hk0 | hk0 | hk0 | hk0 | hk0 | hk0 | hk0 : k = 0 ∨ k = 1 ∨ k = 2 ∨ k = 3 ∨ k = 4 ∨ k = 5 ∨ k = 6 := by omega
    · subst hk0
      have g0 : wr.cell? ⟨g, 0, none⟩ = some (.int .i64 0) := hcT 0 (by decide)
      have g1 : wr.cell? ⟨g, 1, none⟩ = some (.int .i64 10) := hcT 1 (by decide)
      have g2 : wr.cell? ⟨g, 2, none⟩ = some (.int .i64 10) := hcT 2 (by decide)
      clear hcT
      go_wp2_with fail
      refine (pts_num (n := 10) (xs := u16) (m := 0) (a := 10) (b := 10) rdA (by go_grown) rfl ⟨r16, by omega, by omega⟩ (by decide +kernel) (by decide +kernel)).mono ?_
      rintro e wz ⟨rfl, hby, hbx⟩
      have hcz := bcells hby
      clear hby
      go_wp2_with fail
      go_roundw
      case rel => exact ⟨1, by omega, rfl, hbw.trans (hbx.mono hbw.size), rdA.now hbx, rdT.now hbx⟩
      case measure => simp [intOf]
    · subst hk0
      have g0 : wr.cell? ⟨g, 3, none⟩ = some (.int .i64 5) := hcT 3 (by decide)
      have g1 : wr.cell? ⟨g, 4, none⟩ = some (.int .i64 10) := hcT 4 (by decide)
      have g2 : wr.cell? ⟨g, 5, none⟩ = some (.int .i64 10) := hcT 5 (by decide)
      clear hcT
      go_wp2_with fail
      refine (pts_num (n := 10) (xs := u16) (m := 5) (a := 10) (b := 10) rdA (by go_grown) rfl ⟨r16, by omega, by omega⟩ (by decide +kernel) (by decide +kernel)).mono ?_
      rintro e wz ⟨rfl, hby, hbx⟩
      have hcz := bcells hby
      clear hby
      go_wp2_with fail
      go_roundw
      case rel => exact ⟨2, by omega, rfl, hbw.trans (hbx.mono hbw.size), rdA.now hbx, rdT.now hbx⟩
      case measure => simp [intOf]
    · subst hk0
      have g0 : wr.cell? ⟨g, 6, none⟩ = some (.int .i64 6) := hcT 6 (by decide)
      have g1 : wr.cell? ⟨g, 7, none⟩ = some (.int .i64 11) := hcT 7 (by decide)
      have g2 : wr.cell? ⟨g, 8, none⟩ = some (.int .i64 9) := hcT 8 (by decide)
      clear hcT
      go_wp2_with fail
      refine (pts_num (n := 10) (xs := u16) (m := 6) (a := 11) (b := 9) rdA (by go_grown) rfl ⟨r16, by omega, by omega⟩ (by decide +kernel) (by decide +kernel)).mono ?_
      rintro e wz ⟨rfl, hby, hbx⟩
      have hcz := bcells hby
      clear hby
      go_wp2_with fail
      go_roundw
      case rel => exact ⟨3, by omega, rfl, hbw.trans (hbx.mono hbw.size), rdA.now hbx, rdT.now hbx⟩
      case measure => simp [intOf]
    · subst hk0
      have g0 : wr.cell? ⟨g, 9, none⟩ = some (.int .i64 (-13)) := hcT 9 (by decide)
      have g1 : wr.cell? ⟨g, 10, none⟩ = some (.int .i64 8) := hcT 10 (by decide)
      have g2 : wr.cell? ⟨g, 11, none⟩ = some (.int .i64 12) := hcT 11 (by decide)
      clear hcT
      go_wp2_with fail
      refine (pts_num (n := 10) (xs := u16) (m := (-13)) (a := 8) (b := 12) rdA (by go_grown) rfl ⟨r16, by omega, by omega⟩ (by decide +kernel) (by decide +kernel)).mono ?_
      rintro e wz ⟨rfl, hby, hbx⟩
      have hcz := bcells hby
      clear hby
      go_wp2_with fail
      go_roundw
      case rel => exact ⟨4, by omega, rfl, hbw.trans (hbx.mono hbw.size), rdA.now hbx, rdT.now hbx⟩
      case measure => simp [intOf]
    · subst hk0
      have g0 : wr.cell? ⟨g, 12, none⟩ = some (.int .i64 60) := hcT 12 (by decide)
      have g1 : wr.cell? ⟨g, 13, none⟩ = some (.int .i64 20) := hcT 13 (by decide)
      have g2 : wr.cell? ⟨g, 14, none⟩ = some (.int .i64 0) := hcT 14 (by decide)
      clear hcT
      go_wp2_with fail
      refine (pts_num (n := 10) (xs := u16) (m := 60) (a := 20) (b := 0) rdA (by go_grown) rfl ⟨r16, by omega, by omega⟩ (by decide +kernel) (by decide +kernel)).mono ?_
      rintro e wz ⟨rfl, hby, hbx⟩
      have hcz := bcells hby
      clear hby
      go_wp2_with fail
      go_roundw
      case rel => exact ⟨5, by omega, rfl, hbw.trans (hbx.mono hbw.size), rdA.now hbx, rdT.now hbx⟩
      case measure => simp [intOf]
    · subst hk0
      have g0 : wr.cell? ⟨g, 15, none⟩ = some (.int .i64 1000) := hcT 15 (by decide)
      have g1 : wr.cell? ⟨g, 16, none⟩ = some (.int .i64 20) := hcT 16 (by decide)
      have g2 : wr.cell? ⟨g, 17, none⟩ = some (.int .i64 0) := hcT 17 (by decide)
      clear hcT
      go_wp2_with fail
      refine (pts_num (n := 10) (xs := u16) (m := 1000) (a := 20) (b := 0) rdA (by go_grown) rfl ⟨r16, by omega, by omega⟩ (by decide +kernel) (by decide +kernel)).mono ?_
      rintro e wz ⟨rfl, hby, hbx⟩
      have hcz := bcells hby
      clear hby
      go_wp2_with fail
      go_roundw
      case rel => exact ⟨6, by omega, rfl, hbw.trans (hbx.mono hbw.size), rdA.now hbx, rdT.now hbx⟩
      case measure => simp [intOf]
    · subst hk0
      clear hcT rdT rdT0 rdA0 bW hlt
      go_wp2_with fail
      obtain ⟨W2, g, hW, hg⟩ : ∃ (W : World) (g : Nat), W = wr.alloc (.cells (ics .i64 T2).toArray 46) ∧ g = wr.heap.size := ⟨_, _, rfl, rfl⟩
      have rdT0 : Rd W2 W2.heap.size (some ⟨g, 0, none⟩) (ics .i64 T2) := by rw [hW, hg]; exact Rd.built (ics .i64 T2)
      have rdA0 : Rd W2 W2.heap.size A1 (ics .i64 u16) := by rw [hW]; exact rdA.alloc _
      have bW : Below w.heap.size w W2 := by rw [hW]; exact hbw.alloc hbw.size _
      change Code.wp _ _ _ _ (wr.alloc (.cells (ics .i64 T2).toArray 46))
      rw [← hW, ← hg]
      clear hW hg rdA hbw wr
      go_loopw [83] (fun i wr => ∃ k : Nat, k ≤ 3 ∧ i = .int .i64 k ∧ Below w.heap.size w wr ∧ Rd wr wr.heap.size A1 (ics .i64 u16) ∧ Rd wr wr.heap.size (some ⟨g, 0, none⟩) (ics .i64 T2)) (fun i _ => 3 - (intOf i).toNat)
      case atStart => exact ⟨0, by omega, rfl, bW, rdA0, rdT0⟩
      case round =>
        obtain ⟨k, hk, rfl, hbw, rdA, rdT⟩ := hrel
        obtain ⟨g', o', hgo, hlt, hcT⟩ := rdT.int (by decide)
        simp only [Option.some.injEq, Addr.mk.injEq, and_true] at hgo
        obtain ⟨rfl, rfl⟩ := hgo
        obtain hk0 | hk0 | hk0 | hk0 : k = 0 ∨ k = 1 ∨ k = 2 ∨ k = 3 := by omega
        · subst hk0
          have g0 : wr.cell? ⟨g, 0, none⟩ = some (.int .i64 10) := hcT 0 (by decide)
          have g1 : wr.cell? ⟨g, 1, none⟩ = some (.int .i64 (-5)) := hcT 1 (by decide)
          have g2 : wr.cell? ⟨g, 2, none⟩ = some (.int .i64 5) := hcT 2 (by decide)
          clear hcT
          go_wp2_with fail
          refine (mar_num (n := 10) (xs := u16) 10 (a := (-5)) (b := 5) rdA (by go_grown) rfl r16 (by omega) (by decide +kernel) (by decide +kernel)).mono ?_
          rintro e wz ⟨rfl, hby, hbx⟩
          have hcz := bcells hby
          clear hby
          go_wp2_with fail
          go_roundw
          case rel => ((repeat apply Exists.intro); exact ⟨⟨1, by omega, rfl, hbw.trans (hbx.mono hbw.size), rdA.now hbx, rdT.now hbx⟩, rfl⟩)
          case measure => simp [intOf]
        · subst hk0
          have g0 : wr.cell? ⟨g, 3, none⟩ = some (.int .i64 11) := hcT 3 (by decide)
          have g1 : wr.cell? ⟨g, 4, none⟩ = some (.int .i64 6) := hcT 4 (by decide)
          have g2 : wr.cell? ⟨g, 5, none⟩ = some (.int .i64 11) := hcT 5 (by decide)
          clear hcT
          go_wp2_with fail
          refine (mar_num (n := 10) (xs := u16) 11 (a := 6) (b := 11) rdA (by go_grown) rfl r16 (by omega) (by decide +kernel) (by decide +kernel)).mono ?_
          rintro e wz ⟨rfl, hby, hbx⟩
          have hcz := bcells hby
          clear hby
          go_wp2_with fail
          go_roundw
          case rel => ((repeat apply Exists.intro); exact ⟨⟨2, by omega, rfl, hbw.trans (hbx.mono hbw.size), rdA.now hbx, rdT.now hbx⟩, rfl⟩)
          case measure => simp [intOf]
        · subst hk0
          have g0 : wr.cell? ⟨g, 6, none⟩ = some (.int .i64 20) := hcT 6 (by decide)
          have g1 : wr.cell? ⟨g, 7, none⟩ = some (.int .i64 60) := hcT 7 (by decide)
          have g2 : wr.cell? ⟨g, 8, none⟩ = some (.int .i64 1000000) := hcT 8 (by decide)
          clear hcT
          go_wp2_with fail
          refine (mar_num (n := 10) (xs := u16) 20 (a := 60) (b := 1000000) rdA (by go_grown) rfl r16 (by omega) (by decide +kernel) (by decide +kernel)).mono ?_
          rintro e wz ⟨rfl, hby, hbx⟩
          have hcz := bcells hby
          clear hby
          go_wp2_with fail
          go_roundw
          case rel => ((repeat apply Exists.intro); exact ⟨⟨3, by omega, rfl, hbw.trans (hbx.mono hbw.size), rdA.now hbx, rdT.now hbx⟩, rfl⟩)
          case measure => simp [intOf]
        · subst hk0
          clear hcT
          go_wp2_with fail
          refine (margins_none A1 c1 u16 21 _ rdA r16 (by decide)).mono ?_
          rintro e wz ⟨rfl, rfl⟩
          go_wp2_with fail
          refine (points_ok (some ⟨wr.heap.size, 0, none⟩) 1 [1] 3 _ (Rd.built (ics .i64 [1])) ⟨by decide, by omega, by omega⟩).mono ?_
          rintro e wz ⟨rfl, hbx⟩
          have e1 : (([1] : List Int).length : Int) + ptsN [1] 3 = 2 := by decide
          have e2 : (([1] : List Int).length : Int) - ptsN [1] 3 = 0 := by decide
          rw [e1, e2]
          go_wp2_with fail
          go_ret
          exact ⟨rfl, (hbw.alloc hbw.size _).trans (hbx.mono (hbw.alloc hbw.size _).size)⟩
end Go.Proofs.Ytknhdojciihjlaa
