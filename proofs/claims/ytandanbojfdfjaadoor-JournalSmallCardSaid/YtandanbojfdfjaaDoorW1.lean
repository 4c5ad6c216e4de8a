import Derived.Test.YtandanbojfdfjaaDoorRows
import Derived.Test.YtandanbojfdfjaaDoorKit
import Derived.Test.YtandanbojfdfjaaDoorSpec
import Derived.Shelf.GgClosure.StringsIndexFunc
import Derived.Lib.DecodeN
namespace Go.Proofs.YtandanbojfdfjaaDoor
open Go.ChangeShapes Go.WideShapes Go.ChangeAt Go.RowKit

theorem ret_bool {a b : Bool} (h : a = b) : Ending.returned (.bool a) = .returned (.bool b) := by rw [h]
theorem ret_int {k : IntKind} {a b : Int} (h : a = b) : Ending.returned (.int k a) = .returned (.int k b) := by rw [h]

theorem take_snoc (s : ByteArray) (k : Nat) (h : k < s.size) : s.data.toList.take (k + 1) = s.data.toList.take k ++ [s[k]] := by
  rw [List.take_succ_eq_append_getElem (by simpa using h)]; rfl
theorem len_toList (s : ByteArray) : s.data.toList.length = s.size := by simp

set_option maxHeartbeats 400000 in
theorem check_any (x : Nat) (s : ByteArray) (w : World) (hx : x < 9973) (hs : s.size ≤ 1000000) :
    Calls Tryd.prog 43 #[.int .i64 x, .string s] w fun e w' => e = .returned (.int .i64 (chk x s.data.toList)) ∧ w = w' := by
  go_enter Tryd.func43, Tryd.ntmps43
  go_wp2
  go_loop [5, 10] (fun y i => ∃ k : Nat, k ≤ s.size ∧ i = .int .i64 k ∧ y = .int .i64 (fol x (s.data.toList.take k))) (fun _ i => s.size - (intOf i).toNat)
  case atStart => exact ⟨0, Nat.zero_le _, rfl, rfl⟩
  case round =>
    obtain ⟨k, hk, rfl, rfl⟩ := hrel
    have hf := fol_lt hx (s.data.toList.take k)
    by_cases hlt : k < s.size
    · have HS : Hid (fol x (s.data.toList.take (k + 1)) = (31 * fol x (s.data.toList.take k) + (s[k]).toNat) % 9973) := by
        rw [take_snoc s k hlt, fol_snoc]; rfl
      have hb : s[k].toNat < 256 := s[k].toNat_lt
      generalize fol x (s.data.toList.take k) = y at *
      go_wp2
      go_round
      case rel => exact ⟨k + 1, by omega, by go_num, by rw [HS.out]; simp⟩
      case measure => simp [intOf]; omega
    · have hT : s.data.toList.take k = s.data.toList := List.take_of_length_le (by simp; omega)
      rw [hT] at hf ⊢
      clear hT
      have HC := Lib.hid (show chk x s.data.toList = (31 * fol x s.data.toList + s.size) % 9973 by unfold chk; rw [len_toList])
      generalize fol x s.data.toList = y at *
      go_wp2
      go_ret
      exact ⟨ret_int (by rw [HC.out]; simp), rfl⟩

/-- what the journal's closure asks of a rune -/
theorem rune_any (r : Int) (w : World) : Calls Tryd.prog 55 #[.int .i32 r] w fun e w' => e = .returned (.bool (decide (r < 32) || decide (126 < r))) ∧ w = w' := by
  by_cases h : r < 32
  · go_enter Tryd.func55, Tryd.ntmps55
    go_wp2
    go_ret
    exact ⟨ret_bool (by simp [h]), rfl⟩
  · go_enter Tryd.func55, Tryd.ntmps55
    go_wp2
    go_ret
    exact ⟨ret_bool (by rw [show decide (r < 32) = false by simp; omega]; simp), rfl⟩
end Go.Proofs.YtandanbojfdfjaaDoor

namespace Go.Proofs.YtandanbojfdfjaaDoor
open Go.RowKit Go.Shelf

/-- what the journal asks of a rune -/
def bad (r : Nat) : Bool := decide ((r : Int) < 32) || decide (126 < (r : Int))

theorem decode_lo (s : ByteArray) (i : Nat) (hi : i < s.size) (h : (s[i]).toNat < 128) : Utf8.decode s i = ((s[i]).toNat, 1) := by
  have e : (s.get! i) = s[i] := by simp [ByteArray.get!, hi]; rfl
  rw [Lib.decode_at, e]
  simp [Lib.decodeN, h]
theorem decode_hi (s : ByteArray) (i : Nat) (hi : i < s.size) (h : ¬ (s[i]).toNat < 128) : 128 ≤ (Utf8.decode s i).1 := by
  have e : (s.get! i) = s[i] := by simp [ByteArray.get!, hi]; rfl
  rw [Lib.decode_at, e]
  unfold Lib.decodeN
  rw [if_neg h]
  repeat' split
  all_goals (simp only []; omega)

theorem idxFrom_rec (s : ByteArray) : ∀ (f pos : Nat), s.size - pos ≤ f → (0 ≤ Lib.idxFuncFrom bad true s f pos ↔ ¬ ((s.data.toList.drop pos).all okc = true))
  | 0, pos, h => by
    have : s.data.toList.drop pos = [] := List.drop_eq_nil_of_le (by simp; omega)
    rw [this]; simp [Lib.idxFuncFrom]
  | f + 1, pos, h => by
    by_cases hp : pos < s.size
    · have hd : s.data.toList.drop pos = s[pos] :: s.data.toList.drop (pos + 1) := List.drop_eq_getElem_cons (by simpa using hp)
      rw [hd, List.all_cons]
      unfold Lib.idxFuncFrom
      rw [if_pos hp]
      by_cases hb : (s[pos]).toNat < 128
      · rw [decode_lo s pos hp hb]
        have hbad : bad (s[pos]).toNat = !okc s[pos] := by
          unfold bad okc
          rw [Bool.eq_iff_iff]
          simp
          omega
        rw [hbad]
        cases ho : okc s[pos]
        · simp
        · simp only [Bool.not_true, Bool.false_eq_true, if_false, Bool.true_and]
          exact idxFrom_rec s f (pos + 1) (by omega)
      · have h1 := decode_hi s pos hp hb
        have hbad : bad (Utf8.decode s pos).1 = true := by
          unfold bad
          simp
          omega
        have ho : okc s[pos] = false := by
          unfold okc
          simp
          omega
        rw [if_pos hbad, ho]
        simp
    · have : s.data.toList.drop pos = [] := List.drop_eq_nil_of_le (by simp; omega)
      rw [this, Lib.idxFuncFrom_end _ _ _ _ _ hp]; simp

theorem idx_rec (s : ByteArray) : decide (0 ≤ Lib.idxFunc bad true s) = !(s.data.toList.all okc) := by
  have h := idxFrom_rec s s.size 0 (by omega)
  rw [List.drop_zero] at h
  rw [Bool.eq_iff_iff, decide_eq_true_eq]
  unfold Lib.idxFunc
  rw [h]; simp

theorem bad_pays (w : World) : PredAt Tryd.prog 55 #[] encR bad w := fun W x _ => by
  refine (rune_any (x : Int) W).mono ?_
  rintro e w' ⟨rfl, rfl⟩
  exact ⟨rfl, 0, rfl⟩

end Go.Proofs.YtandanbojfdfjaaDoor
