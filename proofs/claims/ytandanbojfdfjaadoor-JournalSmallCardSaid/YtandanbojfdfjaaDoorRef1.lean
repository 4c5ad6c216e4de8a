import Derived.Test.YtandanbojfdfjaaDoorTexts
import Derived.Deep.CutBlock
import Derived.Deep.DeepCutAuto
import Derived.Test.YtandanbojfdfjaaDoorSys
import Derived.Test.YtandanbojfdfjaaDoorLog
import Derived.Laws.Rows
namespace Go.Proofs.YtandanbojfdfjaaDoor
open Go.ChangeShapes Go.WideShapes Go.ChangeAt Go.RowKit

/-! The reference -/
theorem all_snoc (s : ByteArray) (k : Nat) (h : k < s.size) : (s.data.toList.take (k + 1)).all okc = ((s.data.toList.take k).all okc && okc s[k]) := by
  rw [take_snoc s k h]; simp
theorem okc_iff (c : UInt8) : okc c = true ↔ 32 ≤ c.toNat ∧ c.toNat ≤ 126 := by unfold okc; simp
theorem rec_of_all {l : Bs} (h : l.all okc = true) : recB l = decide (l.length ≤ 200) := by unfold recB; rw [h, Bool.and_true]
theorem rec_not {l : Bs} {k : Nat} (h : (l.take k).all okc = false) : recB l = false := by
  unfold recB
  have : l.all okc = false := by
    rw [Bool.eq_false_iff]
    intro ht
    rw [List.all_eq_true] at ht
    rw [Bool.eq_false_iff] at h
    exact h (List.all_eq_true.2 fun c hc => ht c (List.mem_of_mem_take hc))
  rw [this, Bool.and_false]

set_option maxHeartbeats 1000000 in
theorem Rec_ref (s : ByteArray) (w : World) (hs : s.size ≤ maxLen) : Calls Tryd.prog 53 #[.string s] w fun e w' => e = .returned (.bool (recB s.data.toList)) ∧ w = w' := by
  unfold maxLen at hs
  go_enter Tryd.func53, Tryd.ntmps53
  go_wp2_with fail
  go_loopw [3] (fun i wr => ∃ k : Nat, k ≤ s.size ∧ i = .int .i64 k ∧ Hid ((s.data.toList.take k).all okc = true) ∧ wr = w) (fun i _ => s.size - (intOf i).toNat)
  case atStart => exact ⟨0, Nat.zero_le _, rfl, Lib.hid rfl, rfl⟩
  case round =>
    obtain ⟨k, hk, rfl, hA, rfl⟩ := hrel
    by_cases hlt : k < s.size
    · have HS := Lib.hid (all_snoc s k hlt)
      have hc := okc_iff s[k]
      by_cases ho : okc s[k] = true
      · obtain ⟨h1, h2⟩ := hc.1 ho
        have b1 : decide ((s[k].toNat : Int) < 32) = false := decide_eq_false (by omega)
        have b2 : decide ((s[k].toNat : Int) > 126) = false := decide_eq_false (by omega)
        have HO := Lib.hid ho
        clear hc ho h1 h2
        go_wp2_with fail
        go_roundw
        case rel => exact ⟨k + 1, by omega, by go_num, Lib.hid (by rw [HS.out, hA.out, HO.out]; rfl), trivial⟩
        case measure => simp [intOf]; omega
      · have HN : Hid (recB s.data.toList = false) := Lib.hid (rec_not (k := k + 1) (by rw [HS.out, hA.out]; simpa using ho))
        have ho' : ¬ (32 ≤ s[k].toNat ∧ s[k].toNat ≤ 126) := fun h => ho (hc.2 h)
        by_cases hl : s[k].toNat < 32
        · have b1 : decide ((s[k].toNat : Int) < 32) = true := decide_eq_true (by omega)
          clear hc ho ho'
          go_wp2_with fail
          go_ret
          exact ⟨ret_bool HN.out.symm, rfl⟩
        · have b1 : decide ((s[k].toNat : Int) < 32) = false := decide_eq_false (by omega)
          have b2 : decide ((s[k].toNat : Int) > 126) = true := decide_eq_true (by omega)
          clear hc ho ho' hl
          go_wp2_with fail
          go_ret
          exact ⟨ret_bool HN.out.symm, rfl⟩
    · obtain rfl : k = s.size := by omega
      have hall : s.data.toList.all okc = true := by
        have h := hA.out
        rwa [List.take_of_length_le (by rw [len_toList]; omega)] at h
      have HR := Lib.hid (rec_of_all hall)
      rw [len_toList] at HR
      clear hall
      go_wp2_with fail
      go_ret
      exact ⟨ret_bool (by rw [HR.out]; simp; omega), rfl⟩

theorem quo_mod (m : Nat) : (m : Int) - (m : Int) / 9973 * 9973 = ((m % 9973 : Nat) : Int) := by omega

set_option maxHeartbeats 2000000 in
theorem Chk_ref (x : Int) (s : ByteArray) (w : World) (hl : -(2^63) ≤ x) (hh : x < 2^63) (hs : s.size ≤ maxLen) :
    Calls Tryd.prog 29 #[.int .i64 x, .string s] w fun e w' => e = .returned (.tuple #[.int .i64 (chkR x s.data.toList).1, .int .i64 (chkR x s.data.toList).2]) ∧ w = w' := by
  have HR := Lib.hid (Rec_ref s w hs)
  rcases wrg_cases x s.data.toList with h2 | h422 | ⟨h0, hx0, hx1, hrc⟩
  · have hc : chkR x s.data.toList = (0, 2) := by unfold chkR; rw [h2]; rfl
    rw [hc]
    have hx : x < 0 ∨ 9973 ≤ x := by
      unfold wrg at h2
      by_cases h : x < 0 ∨ 9973 ≤ x
      · exact h
      · rw [if_neg h] at h2; split at h2 <;> simp at h2
    clear h2 hc HR
    rcases hx with hx | hx
    · have b1 : decide (x < 0) = true := decide_eq_true hx
      go_enter Tryd.func29, Tryd.ntmps29
      go_wp2_with fail
      go_ret2
      exact ⟨rfl, rfl⟩
    · have b1 : decide (x < 0) = false := decide_eq_false (by omega)
      have b2 : decide (x > 9972) = true := decide_eq_true (by omega)
      go_enter Tryd.func29, Tryd.ntmps29
      go_wp2_with fail
      go_ret2
      exact ⟨rfl, rfl⟩
  · have hc : chkR x s.data.toList = (0, 422) := by unfold chkR; rw [h422]; rfl
    rw [hc]
    have hx : 0 ≤ x ∧ x < 9973 ∧ recB s.data.toList = false := by
      unfold wrg at h422
      by_cases h : x < 0 ∨ 9973 ≤ x
      · rw [if_pos h] at h422; simp at h422
      · rw [if_neg h] at h422
        refine ⟨by omega, by omega, ?_⟩
        cases hr : recB s.data.toList with
        | false => rfl
        | true => rw [hr] at h422; simp at h422
    obtain ⟨hx0, hx1, hrc⟩ := hx
    rw [hrc] at HR
    have b1 : decide (x < 0) = false := decide_eq_false (by omega)
    have b2 : decide (x > 9972) = false := decide_eq_false (by omega)
    clear h422 hc hrc
    go_enter Tryd.func29, Tryd.ntmps29
    go_wp2_with fail
    refine HR.out.mono ?_
    rintro e w' ⟨rfl, rfl⟩
    go_wp2_with fail
    go_ret2
    exact ⟨rfl, rfl⟩
  · obtain ⟨n, rfl⟩ := Int.eq_ofNat_of_zero_le hx0
    have hc : chkR (n : Int) s.data.toList = (chk n s.data.toList, 0) := by unfold chkR; rw [if_pos h0]; rfl
    rw [hc]
    rw [hrc] at HR
    have hn : n < 9973 := by omega
    have hsz : s.size ≤ 200 := by have := recB_le hrc; rwa [len_toList] at this
    have b1 : decide ((n : Int) < 0) = false := decide_eq_false (by omega)
    have b2 : decide ((n : Int) > 9972) = false := decide_eq_false (by omega)
    clear h0 hc hx0 hx1 hrc hs hl hh
    go_enter Tryd.func29, Tryd.ntmps29
    go_wp2_with fail
    refine HR.out.mono ?_
    rintro e w' ⟨rfl, rfl⟩
    clear HR
    go_wp2_with fail
    clear b1 b2
    go_loopw [6, 7] (fun y i wr => ∃ k : Nat, k ≤ s.size ∧ i = .int .i64 k ∧ y = .int .i64 (fol n (s.data.toList.take k)) ∧ wr = w) (fun _ i _ => s.size - (intOf i).toNat)
    case atStart => exact ⟨0, Nat.zero_le _, rfl, rfl, rfl⟩
    case round =>
      obtain ⟨k, hk, rfl, rfl, rfl⟩ := hrel
      have hf := fol_lt hn (s.data.toList.take k)
      by_cases hlt : k < s.size
      · have HS : Hid (fol n (s.data.toList.take (k + 1)) = (31 * fol n (s.data.toList.take k) + (s[k]).toNat) % 9973) := by
          rw [take_snoc s k hlt, fol_snoc]; rfl
        have hb : s[k].toNat < 256 := s[k].toNat_lt
        generalize fol n (s.data.toList.take k) = y at *
        go_wp2_with fail
        go_roundw
        case rel => exact ⟨k + 1, by omega, by go_num, by rw [HS.out]; first | exact congrArg (Value.int IntKind.i64) (by omega) | (simp; omega), trivial⟩
        case measure => simp [intOf]; omega
      · have hT : s.data.toList.take k = s.data.toList := List.take_of_length_le (by simp; omega)
        rw [hT] at hf ⊢
        clear hT
        have HC := Lib.hid (show chk n s.data.toList = (31 * fol n s.data.toList + s.size) % 9973 by unfold chk; rw [len_toList])
        generalize fol n s.data.toList = y at *
        go_wp2_with fail
        go_ret2
        refine ⟨?_, rfl⟩
        rw [HC.out]
        have : ∀ a b : Int, a = b → Ending.returned (.tuple #[.int .i64 a, .int .i64 0]) = .returned (.tuple #[.int .i64 b, .int .i64 ((0 : Nat) : Int)]) := by rintro a b rfl; rfl
        exact this _ _ (by omega)
end Go.Proofs.YtandanbojfdfjaaDoor

namespace Go.Proofs.YtandanbojfdfjaaDoor
open Go.ChangeShapes Go.WideShapes Go.ChangeAt Go.RowKit

theorem four4 (p : Nat) (hp : p < 9973) : (bcs (four p)).toArray = #[Value.int .u8 (48 + (p : Int) / 1000), .int .u8 (48 + (p : Int) / 100 % 10), .int .u8 (48 + (p : Int) / 10 % 10), .int .u8 (48 + (p : Int) % 10)] := by
  have h1 : ((dig (p / 1000)).toNat : Int) = 48 + (p : Int) / 1000 := by rw [dig_nat]; omega
  have h2 : ((dig (p / 100)).toNat : Int) = 48 + (p : Int) / 100 % 10 := by rw [dig_nat]; omega
  have h3 : ((dig (p / 10)).toNat : Int) = 48 + (p : Int) / 10 % 10 := by rw [dig_nat]; omega
  have h4 : ((dig p).toNat : Int) = 48 + (p : Int) % 10 := by rw [dig_nat]; omega
  simp [bcs, four, h1, h2, h3, h4]
theorem conv_new (w : World) (b : Bs) : (convert 26 9 (.slice (some ⟨w.heap.size, 0, none⟩) b.length b.length)).run Tryd.prog (w.alloc (.cells (bcs b).toArray 5)) = .ok (.string ⟨b.toArray⟩) (w.alloc (.cells (bcs b).toArray 5)) :=
  By.conv (.inr ⟨w.heap.size, 0, b.length, (bcs b).toArray, rfl, Blk.new _ _ _, Nat.le_refl _, fun j u hu => by rw [Nat.zero_add]; simpa using hu, by simp⟩)

set_option maxRecDepth 100000 in
set_option maxHeartbeats 2000000 in
theorem Lin_ref (x : Int) (s : ByteArray) (w : World) (hl : -(2^63) ≤ x) (hh : x < 2^63) (hs : s.size ≤ maxLen) :
    Calls Tryd.prog 28 #[.int .i64 x, .string s] w fun e w' => e = .returned (.tuple #[.string ⟨(linR x s.data.toList).1.toArray⟩, .int .i64 (linR x s.data.toList).2]) ∧ Below w.heap.size w w' := by
  have HC := Lib.hid (Chk_ref x s w hl hh hs)
  by_cases h0 : wrg x s.data.toList = 0
  · have hc : chkR x s.data.toList = (chk x.toNat s.data.toList, 0) := by unfold chkR; rw [if_pos h0]
    have hl2 : linR x s.data.toList = (lin x.toNat s.data.toList, 0) := by unfold linR; rw [if_pos h0]
    rw [hc] at HC
    rw [hl2]
    have hp := chk_lt x.toNat s.data.toList
    have HLn : Hid (ByteArray.mk (lin x.toNat s.data.toList).toArray = ByteArray.mk (four (chk x.toNat s.data.toList)).toArray ++ ⟨#[32]⟩ ++ s ++ ⟨#[10]⟩) := Lib.hid (by
      apply ByteArray.ext
      simp [lin])
    simp only
    rw [HLn.out]
    have hss : s.size ≤ 200 := by
      rcases wrg_cases x s.data.toList with h | h | ⟨_, _, _, h⟩
      · omega
      · omega
      · have := recB_le h; rwa [len_toList] at this
    clear hc hl2 h0
    generalize chk x.toNat s.data.toList = p at *
    have hcv := fun W => conv_new W (four p)
    rw [four4 p hp] at hcv
    have hX4 : (ByteArray.mk (four p).toArray).size ≤ 4 := Nat.le_refl 4
    generalize ByteArray.mk (four p).toArray = X at *
    go_enter Tryd.func28, Tryd.ntmps28
    go_wp2_with fail
    refine HC.out.mono ?_
    rintro e w' ⟨rfl, rfl⟩
    clear HC HLn hl hh hs
    have hcv1 := hcv w
    have hb1 := below_alloc w (.cells #[Value.int .u8 (48 + (p : Int) / 1000), .int .u8 (48 + (p : Int) / 100 % 10), .int .u8 (48 + (p : Int) / 10 % 10), .int .u8 (48 + (p : Int) % 10)] 5)
    have hlen : (four p).length = 4 := rfl
    rw [hlen] at hcv1
    have HCV := Lib.hid hcv1
    clear hcv hlen hcv1
    have HB1 := Lib.hid hb1
    clear hb1
    go_upto_region 5 with fail
    generalize w.alloc (.cells #[Value.int .u8 (48 + (p : Int) / 1000), .int .u8 (48 + (p : Int) / 100 % 10), .int .u8 (48 + (p : Int) / 10 % 10), .int .u8 (48 + (p : Int) % 10)] 5) = w1 at *
    have hcv1 := HCV.out
    have hcv3 : (convert 26 9 (.slice (some ⟨w1.heap.size, 0, none⟩) 1 1)).run Tryd.prog (w1.alloc (.cells #[.int .u8 10] 5)) = .ok (.string ⟨#[10]⟩) (w1.alloc (.cells #[.int .u8 10] 5)) := conv_new w1 [10]
    go_wp2_with fail
    go_ret2
    exact ⟨rfl, HB1.out.trans ((below_alloc _ _).mono HB1.out.size)⟩
  · have hc : (chkR x s.data.toList).2 = wrg x s.data.toList := by unfold chkR; rw [if_neg h0]
    have hl2 : linR x s.data.toList = ([], wrg x s.data.toList) := by unfold linR; rw [if_neg h0]
    rw [hc] at HC
    rw [hl2]
    have h1 : ((wrg x s.data.toList : Int) != 0) = true := by rw [bne_iff_ne]; omega
    clear hc hl2 h0
    generalize wrg x s.data.toList = r at *
    generalize (chkR x s.data.toList).1 = r1 at *
    go_enter Tryd.func28, Tryd.ntmps28
    go_wp2_with fail
    refine HC.out.mono ?_
    rintro e w' ⟨rfl, rfl⟩
    go_wp2_with fail
    go_ret2
    exact ⟨rfl, Below.refl _ _⟩
end Go.Proofs.YtandanbojfdfjaaDoor

namespace Go.Proofs.YtandanbojfdfjaaDoor
open Go.ChangeShapes Go.WideShapes Go.ChangeAt Go.RowKit

/-! The reference's log in memory -/
theorem Blk.setRow {w : World} {L t : Nat} {cs : Array Value} (h : Blk w L t cs) (cs' : Array Value) : Blk (w.setRow L cs') L t cs' := setRow_heap w L cs cs' t _ h
theorem Kp.setRow (w : World) (L : Nat) (cs : Array Value) : Kp w (w.setRow L cs) (fun k => k = L) :=
  ⟨rfl, rfl, rfl, by simp, fun k _ hn => setRow_other w L k cs hn⟩

theorem Rd.byteR {w : World} {B : Nat} {A : Option Addr} {b : Bs} (h : Rd w B A (bcs b)) (h0 : 0 < b.length) :
    ∃ k o, A = some ⟨k, o, none⟩ ∧ k < B ∧ ∀ i, i < b.length → w.cell? ⟨k, o + i, none⟩ = some (.int .u8 ((b.getD i 0).toNat : Int)) := by
  obtain ⟨k, o, e, hlt, hc⟩ := h (by simpa using h0)
  exact ⟨k, o, e, hlt, fun i hi => hc i _ (by simp [hi])⟩
/-- the cells of the reference's log -/
abbrev rl (v : Value) (last size : Nat) (cl : Bool) : Array Value := #[v, .int .i64 last, .int .i64 size, .bool cl]
theorem rl_size : (Tryd.prog.info? 77).map (·.size) = some 4 := by kernel_rfl
theorem rl_und : Tryd.prog.underlying 77 = some (.struct ((Tryd.prog.underlying 77).elim #[] fun d => match d with | .struct fs => fs | _ => #[])) := by kernel_rfl

/-! plain: a line at a place -/
theorem take_drop_split (r : Bs) (n : Nat) (hn : n < r.length) (h10 : r.getD n 0 = 10) : r = r.take n ++ 10 :: r.drop (n + 1) := by
  conv => lhs; rw [← List.take_append_drop n r]
  rw [List.drop_eq_getElem_cons hn]
  have : r[n] = 10 := by rw [← h10]; simp [List.getD, hn]
  rw [this]
theorem not_ten {r : Bs} {n : Nat} (h : ∀ j, j < n → r.getD j 0 ≠ 10) : (10 : UInt8) ∉ r.take n := by
  intro hm
  obtain ⟨j, hj⟩ := List.getElem?_of_mem hm
  rw [List.getElem?_take] at hj
  split at hj
  · next hlt =>
    refine h j hlt ?_
    rw [List.getD, hj]; rfl
  · cases hj
/-- the state at the head of the reference's loop -/
structure RSt (b : Bs) (s : St) : Prop where
  le : s.size ≤ b.length
  last : s.last < 9973
  recs : s.recs.length ≤ s.size
  eq : sgo (lns (b.drop s.size)) s = scanS b
theorem RSt.zero (b : Bs) : RSt b .zero := ⟨Nat.zero_le _, by decide, Nat.zero_le _, rfl⟩
theorem RSt.done {b : Bs} {s : St} (h : RSt b s) (he : s.size = b.length) : scanS b = (s, 0) := by
  rw [← h.eq, List.drop_eq_nil_of_le (by omega), sgo_end]
theorem RSt.part {b : Bs} {s : St} (h : RSt b s) (hlt : s.size < b.length) (hn : ∀ j, s.size ≤ j → j < b.length → b.getD j 0 ≠ 10) : scanS b = (s, 1) := by
  rw [← h.eq, sgo_part]
  · intro e
    have := congrArg List.length e
    simp at this
    omega
  · have := not_ten (r := b.drop s.size) (n := (b.drop s.size).length) fun j hj => by
      have e : (b.drop s.size).getD j 0 = b.getD (s.size + j) 0 := by simp [List.getD]
      rw [e]
      rw [List.length_drop] at hj
      exact hn _ (by omega) (by omega)
    rwa [List.take_length] at this
theorem RSt.line {b : Bs} {s : St} {e : Nat} (h : RSt b s) (hle : s.size ≤ e) (hlt : e < b.length) (hn : ∀ j, s.size ≤ j → j < e → b.getD j 0 ≠ 10) (h10 : b.getD e 0 = 10) :
    b.drop s.size = (b.drop s.size).take (e - s.size) ++ 10 :: b.drop (e + 1) ∧ (10 : UInt8) ∉ (b.drop s.size).take (e - s.size) := by
  have e1 : ∀ j, (b.drop s.size).getD j 0 = b.getD (s.size + j) 0 := fun j => by simp [List.getD]
  constructor
  · have := take_drop_split (b.drop s.size) (e - s.size) (by rw [List.length_drop]; omega) (by rw [e1, show s.size + (e - s.size) = e by omega]; exact h10)
    rw [List.drop_drop, show s.size + (e - s.size + 1) = e + 1 by omega] at this
    exact this
  · exact not_ten fun j hj => by rw [e1]; exact hn _ (by omega) (by omega)
theorem RSt.short {b : Bs} {s : St} {e : Nat} (h : RSt b s) (hle : s.size ≤ e) (hlt : e < b.length) (hn : ∀ j, s.size ≤ j → j < e → b.getD j 0 ≠ 10) (h10 : b.getD e 0 = 10) (h5 : e < s.size + 5) : scanS b = (s, 2) := by
  obtain ⟨h1, h2⟩ := h.line hle hlt hn h10
  rw [← h.eq, h1, sgo_bad h2]
  unfold goodB
  rw [Bool.and_eq_false_iff]
  left
  simp
  omega
/-- the record of the line -/
def txt (b : Bs) (k e : Nat) : Bs := (b.drop (k + 5)).take (e - (k + 5))
theorem txt_mid {b : Bs} {k e : Nat} (h5 : k + 5 ≤ e) (hlt : e < b.length) : mid ((b.drop k).take (e - k) ++ [10]) = txt b k e := by
  have hl : ((b.drop k).take (e - k)).length = e - k := by simp; omega
  have h5' : (((b.drop k).take (e - k)).take 5).length = 5 := by simp; omega
  have := mid_gen (p := ((b.drop k).take (e - k)).take 5) (m := ((b.drop k).take (e - k)).drop 5) h5'
  rw [List.take_append_drop] at this
  rw [this]
  unfold txt
  rw [List.drop_take, List.drop_drop]
  congr 1
theorem txt_len {b : Bs} {k e : Nat} (h5 : k + 5 ≤ e) (hlt : e < b.length) : (txt b k e).length = e - (k + 5) := by unfold txt; simp; omega
/-- the line with its end -/
def whole (b : Bs) (k e : Nat) : Bs := (b.drop k).take (e + 1 - k)
theorem whole_eq {b : Bs} {k e : Nat} (hle : k ≤ e) (hlt : e < b.length) (h10 : b.getD e 0 = 10) : whole b k e = (b.drop k).take (e - k) ++ [10] := by
  unfold whole
  rw [show e + 1 - k = e - k + 1 by omega, List.take_succ_eq_append_getElem (by rw [List.length_drop]; omega)]
  congr 2
  rw [List.getElem_drop]
  rw [← h10]
  have : b[e]? = some b[e] := List.getElem?_eq_getElem hlt
  simp [List.getD, this, show k + (e - k) = e by omega]
theorem RSt.bad {b : Bs} {s : St} {e : Nat} (h : RSt b s) (hle : s.size + 5 ≤ e) (hlt : e < b.length) (hn : ∀ j, s.size ≤ j → j < e → b.getD j 0 ≠ 10) (h10 : b.getD e 0 = 10)
    (hb : recB (txt b s.size e) = false ∨ lin s.last (txt b s.size e) ≠ whole b s.size e) : scanS b = (s, 2) := by
  obtain ⟨h1, h2⟩ := h.line (by omega) hlt hn h10
  rw [← h.eq, h1, sgo_bad h2]
  unfold goodB
  rw [txt_mid hle hlt]
  rcases hb with hb | hb
  · simp [hb]
  · rw [whole_eq (by omega) hlt h10] at hb
    simp [hb]
theorem RSt.good {b : Bs} {s : St} {e : Nat} (h : RSt b s) (hle : s.size + 5 ≤ e) (hlt : e < b.length) (hn : ∀ j, s.size ≤ j → j < e → b.getD j 0 ≠ 10) (h10 : b.getD e 0 = 10)
    (hr : recB (txt b s.size e) = true) (hb : lin s.last (txt b s.size e) = whole b s.size e) : RSt b (s.add (txt b s.size e)) ∧ (s.add (txt b s.size e)).size = e + 1 := by
  obtain ⟨h1, h2⟩ := h.line (by omega) hlt hn h10
  have hz : (s.add (txt b s.size e)).size = e + 1 := by
    show s.size + (txt b s.size e).length + 6 = _
    rw [txt_len hle hlt]; omega
  refine ⟨⟨by omega, chk_lt _ _, ?_, ?_⟩, hz⟩
  · rw [hz]
    have := h.recs
    simp [St.add]
    omega
  · rw [hz, ← h.eq]
    conv => rhs; rw [h1]
    rw [whole_eq (by omega) hlt h10] at hb
    have := sgo_lin (s := s) (b.drop (e + 1)) hr
    rw [hb, List.append_assoc] at this
    exact this.symm
end Go.Proofs.YtandanbojfdfjaaDoor
