import Derived.Test.YtandanbojfdfjaaDoorW1
import Derived.Shelf.GgClosure.StringsIndexFunc
import Derived.Lib.DecodeN
namespace Go.Proofs.YtandanbojfdfjaaDoor
open Go.RowKit Go.Shelf

/-- what the journal asks of a rune -/
def bad (r : Nat) : Bool := decide ((r : Int) < 32) || decide (126 < (r : Int))

theorem decode_lo (s : ByteArray) (i : Nat) (hi : i < s.size) (h : (s[i]).toNat < 128) : Utf8.decode s i = ((s[i]).toNat, 1) := by
  have e : (s.get! i) = s[i] := by simp [ByteArray.get!, hi]; rfl
  rw [Lib.decode_at, e]
  simp [Lib.decodeN, h]
theorem decode_hi (s : ByteArray) (i : Nat) (hi : i < s.size) (h : ¬ (s[i]).toNat < 128) : 128 ≤ (Utf8.decode s i).1 := by
  have e : (s.get! i) = s[i] := by simp [ByteArray.get!, hi]; rfl
  rw [Lib.decode_at, e]
  unfold Lib.decodeN
  rw [if_neg h]
  repeat' split
  all_goals (simp only []; omega)

theorem idxFrom_rec (s : ByteArray) : ∀ (f pos : Nat), s.size - pos ≤ f → (0 ≤ Lib.idxFuncFrom bad true s f pos ↔ ¬ ((s.data.toList.drop pos).all okc = true))
  | 0, pos, h => by
    have : s.data.toList.drop pos = [] := List.drop_eq_nil_of_le (by simp; omega)
    rw [this]; simp [Lib.idxFuncFrom]
  | f + 1, pos, h => by
    by_cases hp : pos < s.size
    · have hd : s.data.toList.drop pos = s[pos] :: s.data.toList.drop (pos + 1) := List.drop_eq_getElem_cons (by simpa using hp)
      rw [hd, List.all_cons]
      unfold Lib.idxFuncFrom
      rw [if_pos hp]
      by_cases hb : (s[pos]).toNat < 128
      · rw [decode_lo s pos hp hb]
        have hbad : bad (s[pos]).toNat = !okc s[pos] := by
          unfold bad okc
          rw [Bool.eq_iff_iff]
          simp
          omega
        rw [hbad]
        cases ho : okc s[pos]
        · simp
        · simp only [Bool.not_true, Bool.false_eq_true, if_false, Bool.true_and]
          exact idxFrom_rec s f (pos + 1) (by omega)
      · have h1 := decode_hi s pos hp hb
        have hbad : bad (Utf8.decode s pos).1 = true := by
          unfold bad
          simp
          omega
        have ho : okc s[pos] = false := by
          unfold okc
          simp
          omega
        rw [if_pos hbad, ho]
        simp
    · have : s.data.toList.drop pos = [] := List.drop_eq_nil_of_le (by simp; omega)
      rw [this, Lib.idxFuncFrom_end _ _ _ _ _ hp]; simp

theorem idx_rec (s : ByteArray) : decide (0 ≤ Lib.idxFunc bad true s) = !(s.data.toList.all okc) := by
  have h := idxFrom_rec s s.size 0 (by omega)
  rw [List.drop_zero] at h
  rw [Bool.eq_iff_iff, decide_eq_true_eq]
  unfold Lib.idxFunc
  rw [h]; simp

theorem bad_pays (w : World) : PredAt Tryd.prog 55 #[] encR bad w := fun W x _ => by
  refine (rune_any (x : Int) W).mono ?_
  rintro e w' ⟨rfl, rfl⟩
  exact ⟨rfl, 0, rfl⟩

end Go.Proofs.YtandanbojfdfjaaDoor
