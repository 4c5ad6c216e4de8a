import Derived.Test.YtandanbojfdfjaaDoorOne
import Derived.Test.YtandanbojfdfjaaDoorLog5
import Derived.Test.YtandanbojfdfjaaDoorStepAny2
import Derived.Deep.CutBlock
import Derived.Deep.CutRange
import Derived.Deep.RegionHeld3
import Derived.BigRegion
import Derived.Deep.DeepCutAuto
namespace Go.Proofs.YtandanbojfdfjaaDoor
open Go.ChangeShapes Go.WideShapes Go.ChangeAt Go.RowKit

theorem By.part {w : World} {g o n c : Nat} {b : Bs} (h : By w (.slice (some ⟨g, o, none⟩) n c) b) {lo m c' : Nat} (hl : lo + m ≤ b.length) (hc : m ≤ c') (hcc : lo + c' ≤ c) : By w (.slice (some ⟨g, o + lo, none⟩) m c') ((b.drop lo).take m) := by
  have hlen : ((b.drop lo).take m).length = m := by simp; omega
  rcases h with ⟨h, _⟩ | ⟨g', o', c2, cs, h, hB, hc2, hr, hz⟩
  · cases h
  · obtain ⟨⟨rfl, rfl⟩, rfl, rfl⟩ : (g = g' ∧ o = o') ∧ n = b.length ∧ c = c2 := by simpa using h
    refine .inr ⟨g, o + lo, c', cs, by rw [hlen], hB, by rw [hlen]; exact hc, fun j u hu => ?_, by omega⟩
    have hj : j < m := by
      have := (List.getElem?_eq_some_iff.1 hu).1
      rw [List.length_map, hlen] at this; exact this
    rw [Nat.add_assoc]
    refine hr (lo + j) u ?_
    rw [← hu]
    simp [hj]
theorem By.conv_drewN {w : World} {v : Value} {b : Bs} (h : By w v b) (n : Nat) : (convert 26 9 v).run Tryd.prog (w.drewN n) = .ok (.string ⟨b.toArray⟩) (w.drewN n) :=
  By.conv (w := w.drewN n) (h.below (below_drewN (Below.refl _ _) n))

/-- the statement whose test lies in slot k -/
def condAt (k : Nat) : Code → Option Code
  | .seq a b => match condAt k a with
    | some c => some c
    | none => condAt k b
  | .block _ c => condAt k c
  | .loop c => condAt k c
  | .scope c => condAt k c
  | .cond (.tmp j) a b => if j == k then some (.cond (.tmp j) a b) else match condAt k a with
    | some c => some c
    | none => condAt k b
  | _ => none
/-- the region with number k -/
def regAt (k : Nat) : Code → Option Code
  | .seq a b => match regAt k a with
    | some c => some c
    | none => regAt k b
  | .block _ c => regAt k c
  | .loop c => regAt k c
  | .scope c => regAt k c
  | .cond _ a b => match regAt k a with
    | some c => some c
    | none => regAt k b
  | .region n o d => if n == k then some (.region n o d) else none
  | _ => none
noncomputable def swA : Code := (Tryd.f5.body.bind (condAt 53)).getD .skip
noncomputable def swB : Code := (Tryd.f5.body.bind (regAt 19)).getD .skip
noncomputable def swC : Code := (Tryd.f5.body.bind (condAt 168)).getD .skip
/-- four bytes of the log, as a string -/
def Sl4 (wb : World) (l : List Bs) (kb ob c2 N : Nat) : Prop := ∀ (j : Nat), j < l.length → ∀ (lo : Nat), lenN l j = lo → lo + 4 ≤ N → ∀ (n : Nat), (convert 26 9 (.slice (some ⟨kb, ob + lo, none⟩) 4 (c2 - lo))).run Tryd.prog (wb.drewN n) = .ok (.string ⟨(four (chN l (j + 1))).toArray⟩) (wb.drewN n)
end Go.Proofs.YtandanbojfdfjaaDoor
