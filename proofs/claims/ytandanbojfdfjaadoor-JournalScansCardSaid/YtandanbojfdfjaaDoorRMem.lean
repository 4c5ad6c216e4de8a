import Derived.Test.YtandanbojfdfjaaDoorRef2
import Derived.Test.YtandanbojfdfjaaDoorSys
import Derived.Test.YtandanbojfdfjaaDoorLog
import Derived.Laws.Rows
namespace Go.Proofs.YtandanbojfdfjaaDoor
open Go.ChangeShapes Go.WideShapes Go.ChangeAt Go.RowKit

/-! The reference's log in memory -/
theorem Blk.setRow {w : World} {L t : Nat} {cs : Array Value} (h : Blk w L t cs) (cs' : Array Value) : Blk (w.setRow L cs') L t cs' := setRow_heap w L cs cs' t _ h
theorem Kp.setRow (w : World) (L : Nat) (cs : Array Value) : Kp w (w.setRow L cs) (fun k => k = L) :=
  ⟨rfl, rfl, rfl, by simp, fun k _ hn => setRow_other w L k cs hn⟩

theorem Rd.byteR {w : World} {B : Nat} {A : Option Addr} {b : Bs} (h : Rd w B A (bcs b)) (h0 : 0 < b.length) :
    ∃ k o, A = some ⟨k, o, none⟩ ∧ k < B ∧ ∀ i, i < b.length → w.cell? ⟨k, o + i, none⟩ = some (.int .u8 ((b.getD i 0).toNat : Int)) := by
  obtain ⟨k, o, e, hlt, hc⟩ := h (by simpa using h0)
  exact ⟨k, o, e, hlt, fun i hi => hc i _ (by simp [hi])⟩
/-- the cells of the reference's log -/
abbrev rl (v : Value) (last size : Nat) (cl : Bool) : Array Value := #[v, .int .i64 last, .int .i64 size, .bool cl]
theorem rl_size : (Tryd.prog.info? 77).map (·.size) = some 4 := by kernel_rfl
theorem rl_und : Tryd.prog.underlying 77 = some (.struct ((Tryd.prog.underlying 77).elim #[] fun d => match d with | .struct fs => fs | _ => #[])) := by kernel_rfl

/-! plain: a line at a place -/
theorem take_drop_split (r : Bs) (n : Nat) (hn : n < r.length) (h10 : r.getD n 0 = 10) : r = r.take n ++ 10 :: r.drop (n + 1) := by
  conv => lhs; rw [← List.take_append_drop n r]
  rw [List.drop_eq_getElem_cons hn]
  have : r[n] = 10 := by rw [← h10]; simp [List.getD, hn]
  rw [this]
theorem not_ten {r : Bs} {n : Nat} (h : ∀ j, j < n → r.getD j 0 ≠ 10) : (10 : UInt8) ∉ r.take n := by
  intro hm
  obtain ⟨j, hj⟩ := List.getElem?_of_mem hm
  rw [List.getElem?_take] at hj
  split at hj
  · next hlt =>
    refine h j hlt ?_
    rw [List.getD, hj]; rfl
  · cases hj
/-- the state at the head of the reference's loop -/
structure RSt (b : Bs) (s : St) : Prop where
  le : s.size ≤ b.length
  last : s.last < 9973
  recs : s.recs.length ≤ s.size
  eq : sgo (lns (b.drop s.size)) s = scanS b
theorem RSt.zero (b : Bs) : RSt b .zero := ⟨Nat.zero_le _, by decide, Nat.zero_le _, rfl⟩
theorem RSt.done {b : Bs} {s : St} (h : RSt b s) (he : s.size = b.length) : scanS b = (s, 0) := by
  rw [← h.eq, List.drop_eq_nil_of_le (by omega), sgo_end]
theorem RSt.part {b : Bs} {s : St} (h : RSt b s) (hlt : s.size < b.length) (hn : ∀ j, s.size ≤ j → j < b.length → b.getD j 0 ≠ 10) : scanS b = (s, 1) := by
  rw [← h.eq, sgo_part]
  · intro e
    have := congrArg List.length e
    simp at this
    omega
  · have := not_ten (r := b.drop s.size) (n := (b.drop s.size).length) fun j hj => by
      have e : (b.drop s.size).getD j 0 = b.getD (s.size + j) 0 := by simp [List.getD]
      rw [e]
      rw [List.length_drop] at hj
      exact hn _ (by omega) (by omega)
    rwa [List.take_length] at this
theorem RSt.line {b : Bs} {s : St} {e : Nat} (h : RSt b s) (hle : s.size ≤ e) (hlt : e < b.length) (hn : ∀ j, s.size ≤ j → j < e → b.getD j 0 ≠ 10) (h10 : b.getD e 0 = 10) :
    b.drop s.size = (b.drop s.size).take (e - s.size) ++ 10 :: b.drop (e + 1) ∧ (10 : UInt8) ∉ (b.drop s.size).take (e - s.size) := by
  have e1 : ∀ j, (b.drop s.size).getD j 0 = b.getD (s.size + j) 0 := fun j => by simp [List.getD]
  constructor
  · have := take_drop_split (b.drop s.size) (e - s.size) (by rw [List.length_drop]; omega) (by rw [e1, show s.size + (e - s.size) = e by omega]; exact h10)
    rw [List.drop_drop, show s.size + (e - s.size + 1) = e + 1 by omega] at this
    exact this
  · exact not_ten fun j hj => by rw [e1]; exact hn _ (by omega) (by omega)
theorem RSt.short {b : Bs} {s : St} {e : Nat} (h : RSt b s) (hle : s.size ≤ e) (hlt : e < b.length) (hn : ∀ j, s.size ≤ j → j < e → b.getD j 0 ≠ 10) (h10 : b.getD e 0 = 10) (h5 : e < s.size + 5) : scanS b = (s, 2) := by
  obtain ⟨h1, h2⟩ := h.line hle hlt hn h10
  rw [← h.eq, h1, sgo_bad h2]
  unfold goodB
  rw [Bool.and_eq_false_iff]
  left
  simp
  omega
/-- the record of the line -/
def txt (b : Bs) (k e : Nat) : Bs := (b.drop (k + 5)).take (e - (k + 5))
theorem txt_mid {b : Bs} {k e : Nat} (h5 : k + 5 ≤ e) (hlt : e < b.length) : mid ((b.drop k).take (e - k) ++ [10]) = txt b k e := by
  have hl : ((b.drop k).take (e - k)).length = e - k := by simp; omega
  have h5' : (((b.drop k).take (e - k)).take 5).length = 5 := by simp; omega
  have := mid_gen (p := ((b.drop k).take (e - k)).take 5) (m := ((b.drop k).take (e - k)).drop 5) h5'
  rw [List.take_append_drop] at this
  rw [this]
  unfold txt
  rw [List.drop_take, List.drop_drop]
  congr 1
theorem txt_len {b : Bs} {k e : Nat} (h5 : k + 5 ≤ e) (hlt : e < b.length) : (txt b k e).length = e - (k + 5) := by unfold txt; simp; omega
/-- the line with its end -/
def whole (b : Bs) (k e : Nat) : Bs := (b.drop k).take (e + 1 - k)
theorem whole_eq {b : Bs} {k e : Nat} (hle : k ≤ e) (hlt : e < b.length) (h10 : b.getD e 0 = 10) : whole b k e = (b.drop k).take (e - k) ++ [10] := by
  unfold whole
  rw [show e + 1 - k = e - k + 1 by omega, List.take_succ_eq_append_getElem (by rw [List.length_drop]; omega)]
  congr 2
  rw [List.getElem_drop]
  rw [← h10]
  have : b[e]? = some b[e] := List.getElem?_eq_getElem hlt
  simp [List.getD, this, show k + (e - k) = e by omega]
theorem RSt.bad {b : Bs} {s : St} {e : Nat} (h : RSt b s) (hle : s.size + 5 ≤ e) (hlt : e < b.length) (hn : ∀ j, s.size ≤ j → j < e → b.getD j 0 ≠ 10) (h10 : b.getD e 0 = 10)
    (hb : recB (txt b s.size e) = false ∨ lin s.last (txt b s.size e) ≠ whole b s.size e) : scanS b = (s, 2) := by
  obtain ⟨h1, h2⟩ := h.line (by omega) hlt hn h10
  rw [← h.eq, h1, sgo_bad h2]
  unfold goodB
  rw [txt_mid hle hlt]
  rcases hb with hb | hb
  · simp [hb]
  · rw [whole_eq (by omega) hlt h10] at hb
    simp [hb]
theorem RSt.good {b : Bs} {s : St} {e : Nat} (h : RSt b s) (hle : s.size + 5 ≤ e) (hlt : e < b.length) (hn : ∀ j, s.size ≤ j → j < e → b.getD j 0 ≠ 10) (h10 : b.getD e 0 = 10)
    (hr : recB (txt b s.size e) = true) (hb : lin s.last (txt b s.size e) = whole b s.size e) : RSt b (s.add (txt b s.size e)) ∧ (s.add (txt b s.size e)).size = e + 1 := by
  obtain ⟨h1, h2⟩ := h.line (by omega) hlt hn h10
  have hz : (s.add (txt b s.size e)).size = e + 1 := by
    show s.size + (txt b s.size e).length + 6 = _
    rw [txt_len hle hlt]; omega
  refine ⟨⟨by omega, chk_lt _ _, ?_, ?_⟩, hz⟩
  · rw [hz]
    have := h.recs
    simp [St.add]
    omega
  · rw [hz, ← h.eq]
    conv => rhs; rw [h1]
    rw [whole_eq (by omega) hlt h10] at hb
    have := sgo_lin (s := s) (b.drop (e + 1)) hr
    rw [hb, List.append_assoc] at this
    exact this.symm
end Go.Proofs.YtandanbojfdfjaaDoor
