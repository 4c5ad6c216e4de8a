import Derived.Test.YtknhdojciihjlaaRef2
import Derived.Test.YtknhdojciihjlaaMar
import Derived.Test.YtknhdojciihjlaaKept
namespace Go.Proofs.Ytknhdojciihjlaa
open Go.ChangeShapes Go.WideShapes Go.ChangeAt Go.RowKit

/-! One answer for each function of the layer, whatever is asked -/

def pOk (xs : List Int) (m : Int) : Bool := RightB xs && mOk m
def pA (xs : List Int) (m : Int) : Int := if pOk xs m then xs.length + ptsN xs m else 0
def pB (xs : List Int) (m : Int) : Int := if pOk xs m then xs.length - ptsN xs m else 0
def pE (xs : List Int) (m : Int) : Int := if pOk xs m then 0 else 2
theorem pE_bd (xs : List Int) (m : Int) : 0 ≤ pE xs m ∧ pE xs m ≤ 2 := by unfold pE; split <;> omega

theorem pOk_true {xs : List Int} {m : Int} (h : pOk xs m = true) : PtsOk xs m := by
  simp [pOk, mOk] at h; exact ⟨h.1, h.2.1, h.2.2⟩
theorem pOk_false {xs : List Int} {m : Int} (h : pOk xs m = false) : RightB xs = false ∨ m < -1000000 ∨ 1000000 < m := by
  cases hR : RightB xs
  · exact .inl rfl
  · right
    simp [pOk, mOk, hR] at h
    rcases Int.lt_or_le m (-1000000) with h1 | h1
    · exact .inl h1
    · exact .inr (h h1)

theorem points_u {A : Option Addr} {c : Nat} {xs : List Int} {m : Int} {w0 w : World} (h : Rd w0 w0.heap.size A (ics .i64 xs)) (hb : Below w0.heap.size w0 w) :
    Calls Try.prog 10 #[.slice A xs.length c, .int .i64 m] w fun e w' => e = .returned (.tuple #[.int .i64 (pA xs m), .int .i64 (pB xs m), .int .i64 (pE xs m)]) ∧ Below w0.heap.size w0 w' := by
  unfold pA pB pE
  cases hp : pOk xs m
  · simp only [Bool.false_eq_true, if_false]
    exact points_bad_b h hb (pOk_false hp)
  · simp only [if_true]
    exact points_ok_b h hb (pOk_true hp)
theorem rpoints_u {A : Option Addr} {c : Nat} {xs : List Int} {m : Int} {w0 w : World} (h : Rd w0 w0.heap.size A (ics .i64 xs)) (hl : xs.length ≤ 1000000) (hb : Below w0.heap.size w0 w) :
    Calls Try.prog 23 #[.slice A xs.length c, .int .i64 m] w fun e w' => e = .returned (.tuple #[.int .i64 (pA xs m), .int .i64 (pB xs m), .int .i64 (pE xs m)]) ∧ Below w0.heap.size w0 w' := by
  unfold pA pB pE
  cases hp : pOk xs m
  · simp only [Bool.false_eq_true, if_false]
    exact (rpoints_bad A c xs m w (h.now hb) hl (pOk_false hp)).mono fun _ _ ⟨he, hq⟩ => ⟨he, hb.trans (hq.below _)⟩
  · simp only [if_true]
    exact (rpoints_ok A c xs m w (h.now hb) (pOk_true hp)).mono fun _ _ ⟨he, hq⟩ => ⟨he, hb.trans (hq.below _)⟩

def lIn (xs : List Int) (p : Int) : Bool := decide (0 ≤ p) && decide (p ≤ 2 * (xs.length : Int))
def lA (xs : List Int) (p : Int) : Int := if RightB xs && lIn xs p then loM xs p.toNat else 0
def lB (xs : List Int) (p : Int) : Int := if RightB xs && lIn xs p then upM xs p.toNat else 0
def lE (xs : List Int) (p : Int) : Int := if RightB xs then (if lIn xs p then 0 else 6) else 2
theorem lE_bd (xs : List Int) (m : Int) : 0 ≤ lE xs m ∧ lE xs m ≤ 6 := by unfold lE; split <;> (try split) <;> omega
theorem margins_u {A : Option Addr} {c : Nat} {xs : List Int} {p : Int} {w0 w : World} (h : Rd w0 w0.heap.size A (ics .i64 xs)) (hb : Below w0.heap.size w0 w) :
    Calls Try.prog 12 #[.slice A xs.length c, .int .i64 p] w fun e w' => e = .returned (.tuple #[.int .i64 (lA xs p), .int .i64 (lB xs p), .int .i64 (lE xs p)]) ∧ Below w0.heap.size w0 w' := by
  unfold lA lB lE
  cases hR : RightB xs
  · simp only [Bool.false_and, Bool.false_eq_true, if_false]
    exact (margins_wrong A c xs p w (h.now hb) hR).mono fun _ _ ⟨he, hq⟩ => ⟨he, hq ▸ hb⟩
  · cases hi : lIn xs p
    · simp only [Bool.true_and, Bool.false_eq_true, if_false, if_true]
      refine (margins_none A c xs p w (h.now hb) hR ?_).mono fun _ _ ⟨he, hq⟩ => ⟨he, hq ▸ hb⟩
      simp only [lIn, Bool.and_eq_false_iff, decide_eq_false_iff_not] at hi
      omega
    · simp only [Bool.true_and, if_true]
      simp only [lIn, Bool.and_eq_true, decide_eq_true_eq] at hi
      obtain ⟨q, rfl⟩ := Int.eq_ofNat_of_zero_le hi.1
      exact (margins_any A c xs q w (h.now hb) hR (by omega)).mono fun _ _ ⟨he, hq⟩ => ⟨he, hb.trans (hq.mono hb.size)⟩
theorem rmargins_u {A : Option Addr} {c : Nat} {xs : List Int} {p : Int} {w0 w : World} (h : Rd w0 w0.heap.size A (ics .i64 xs)) (hl : xs.length ≤ 1000000) (hb : Below w0.heap.size w0 w) (hp1 : -9223372036854775808 ≤ p) (hp2 : p ≤ 9223372036854775807) :
    Calls Try.prog 25 #[.slice A xs.length c, .int .i64 p] w fun e w' => e = .returned (.tuple #[.int .i64 (lA xs p), .int .i64 (lB xs p), .int .i64 (lE xs p)]) ∧ Below w0.heap.size w0 w' := by
  unfold lA lB lE
  cases hR : RightB xs
  · simp only [Bool.false_and, Bool.false_eq_true, if_false]
    exact (rmar_wrong A c xs p w (h.now hb) hl hR).mono fun _ _ ⟨he, hq⟩ => ⟨he, hb.trans (hq.mono hb.size)⟩
  · have hr := rmar_any A c xs p w (h.now hb) hR hp1 hp2
    cases hi : lIn xs p
    · simp only [Bool.true_and, Bool.false_eq_true, if_false, if_true]
      rw [marRes_out (by simp only [lIn, Bool.and_eq_false_iff, decide_eq_false_iff_not] at hi; omega)] at hr
      exact hr.mono fun _ _ ⟨he, hq⟩ => ⟨he, hb.trans (hq.mono hb.size)⟩
    · simp only [Bool.true_and, if_true]
      simp only [lIn, Bool.and_eq_true, decide_eq_true_eq] at hi
      rw [marRes_in hi.1 hi.2] at hr
      exact hr.mono fun _ _ ⟨he, hq⟩ => ⟨he, hb.trans (hq.mono hb.size)⟩

def tOk (xs ms : List Int) : Bool := RightB xs && ms.all mOk
def tA (xs ms : List Int) : Int := if tOk xs ms then ((xs.length * ms.length : Nat) : Int) + totN xs ms else 0
def tB (xs ms : List Int) : Int := if tOk xs ms then ((xs.length * ms.length : Nat) : Int) - totN xs ms else 0
def tE (xs ms : List Int) : Int := if tOk xs ms then 0 else 2
theorem tE_bd (xs ms : List Int) : 0 ≤ tE xs ms ∧ tE xs ms ≤ 2 := by unfold tE; split <;> omega
theorem total_u {A B : Option Addr} {c d : Nat} {xs ms : List Int} {w0 w : World} (h : Rd w0 w0.heap.size A (ics .i64 xs)) (hM : Rd w0 w0.heap.size B (ics .i64 ms)) (hl : ms.length ≤ 1000000) (hb : Below w0.heap.size w0 w) :
    Calls Try.prog 17 #[.slice A xs.length c, .slice B ms.length d] w fun e w' => e = .returned (.tuple #[.int .i64 (tA xs ms), .int .i64 (tB xs ms), .int .i64 (tE xs ms)]) ∧ Below w0.heap.size w0 w' := by
  unfold tA tB tE tOk
  cases hR : RightB xs
  · simp only [Bool.false_and, Bool.false_eq_true, if_false]
    exact (total_wrong A B c d xs ms w (h.now hb) hR).mono fun _ _ ⟨he, hq⟩ => ⟨he, hb.trans (hq.mono hb.size)⟩
  · have hr := total_any A B c d xs ms w (h.now hb) (hM.now hb) hR hl
    cases hi : ms.all mOk
    · simp only [Bool.true_and, Bool.false_eq_true, if_false]
      rw [totRes_bad (by simp [hi])] at hr
      exact hr.mono fun _ _ ⟨he, hq⟩ => ⟨he, hb.trans (hq.mono hb.size)⟩
    · simp only [Bool.true_and, if_true]
      rw [totRes_ok hi] at hr
      exact hr.mono fun _ _ ⟨he, hq⟩ => ⟨he, hb.trans (hq.mono hb.size)⟩
theorem rtotal_u {A B : Option Addr} {c d : Nat} {xs ms : List Int} {w0 w : World} (h : Rd w0 w0.heap.size A (ics .i64 xs)) (hM : Rd w0 w0.heap.size B (ics .i64 ms)) (hx : xs.length ≤ 1000000) (hl : ms.length ≤ 1000000) (hb : Below w0.heap.size w0 w) :
    Calls Try.prog 26 #[.slice A xs.length c, .slice B ms.length d] w fun e w' => e = .returned (.tuple #[.int .i64 (tA xs ms), .int .i64 (tB xs ms), .int .i64 (tE xs ms)]) ∧ Below w0.heap.size w0 w' := by
  unfold tA tB tE tOk
  cases hR : RightB xs
  · simp only [Bool.false_and, Bool.false_eq_true, if_false]
    exact (rtotal_wrong A B c d xs ms w (h.now hb) hx hR).mono fun _ _ ⟨he, hq⟩ => ⟨he, hb.trans (hq.below _)⟩
  · have hr := rtotal_any A B c d xs ms w (h.now hb) (hM.now hb) hR hl
    cases hi : ms.all mOk
    · simp only [Bool.true_and, Bool.false_eq_true, if_false]
      rw [totRes_bad (by simp [hi])] at hr
      exact hr.mono fun _ _ ⟨he, hq⟩ => ⟨he, hb.trans (hq.below _)⟩
    · simp only [Bool.true_and, if_true]
      rw [totRes_ok hi] at hr
      exact hr.mono fun _ _ ⟨he, hq⟩ => ⟨he, hb.trans (hq.below _)⟩

def uIn (n : Int) : Bool := decide (1 ≤ n) && decide (n ≤ 128)
def uL (n : Int) : List Int := if uIn n then us n.toNat 10 else []
def uE (n : Int) : Int := if uIn n then 0 else 2
theorem uE_bd (n : Int) : 0 ≤ uE n ∧ uE n ≤ 2 := by unfold uE; split <;> omega
theorem uL_le (n : Int) : (uL n).length ≤ 10 := by unfold uL; split <;> simp [us_len]
theorem usual_u {n : Int} {w0 w : World} (hb : Below w0.heap.size w0 w) :
    Calls Try.prog 13 #[.int .i64 n] w fun e w' => ∃ A c, e = .returned (.tuple #[.slice A (uL n).length c, .int .i64 (uE n)]) ∧ Rd w' w'.heap.size A (ics .i64 (uL n)) ∧ Below w0.heap.size w0 w' := by
  unfold uL uE
  cases hi : uIn n
  · simp only [Bool.false_eq_true, if_false]
    refine (usual_bad n w ?_).mono fun _ _ ⟨he, hq⟩ => ⟨none, 0, he, Rd.nil, hq ▸ hb⟩
    simp only [uIn, Bool.and_eq_false_iff, decide_eq_false_iff_not] at hi
    omega
  · simp only [if_true]
    simp only [uIn, Bool.and_eq_true, decide_eq_true_eq] at hi
    obtain ⟨q, rfl⟩ := Int.eq_ofNat_of_zero_le (show 0 ≤ n by omega)
    rw [Int.toNat_natCast, us_len]
    refine (usual_ok q w (by omega) (by omega)).mono fun _ _ ⟨v, he, hown⟩ => ?_
    obtain ⟨A, c, rfl, _, hrd⟩ := hown.rd
    exact ⟨A, c, he, hrd, hb.trans (hown.bel.mono hb.size)⟩
theorem rusual_u {n : Int} {w0 w : World} (hb : Below w0.heap.size w0 w) :
    Calls Try.prog 15 #[.int .i64 n] w fun e w' => ∃ A c, e = .returned (.tuple #[.slice A (uL n).length c, .int .i64 (uE n)]) ∧ Rd w' w'.heap.size A (ics .i64 (uL n)) ∧ Below w0.heap.size w0 w' := by
  unfold uL uE
  cases hi : uIn n
  · simp only [Bool.false_eq_true, if_false]
    refine (rusual_bad n w ?_).mono fun _ _ ⟨he, hq⟩ => ⟨none, 0, he, Rd.nil, hq ▸ hb⟩
    simp only [uIn, Bool.and_eq_false_iff, decide_eq_false_iff_not] at hi
    omega
  · simp only [if_true]
    simp only [uIn, Bool.and_eq_true, decide_eq_true_eq] at hi
    obtain ⟨q, rfl⟩ := Int.eq_ofNat_of_zero_le (show 0 ≤ n by omega)
    rw [Int.toNat_natCast, us_len]
    refine (rusual_ok q w (by omega) (by omega)).mono fun _ _ ⟨v, he, hown⟩ => ?_
    obtain ⟨A, c, rfl, _, hrd⟩ := hown.rd
    exact ⟨A, c, he, hrd, hb.trans (hown.bel.mono hb.size)⟩
end Go.Proofs.Ytknhdojciihjlaa
