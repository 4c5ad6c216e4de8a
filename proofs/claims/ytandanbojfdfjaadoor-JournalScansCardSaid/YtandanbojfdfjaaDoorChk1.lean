import Derived.Test.YtandanbojfdfjaaDoorAwake
namespace Go.Proofs.YtandanbojfdfjaaDoor
open Go.ChangeShapes Go.WideShapes Go.ChangeAt Go.RowKit

/-! The law JournalChecks: plain facts -/

/-- a byte made one of a record -/
def pc (c : UInt8) : UInt8 := UInt8.ofNat (32 + c.toNat % 95)
theorem pc_nat (c : UInt8) : (pc c).toNat = 32 + c.toNat % 95 := by
  unfold pc
  rw [UInt8.toNat_ofNat_of_lt']
  show _ < 256
  have := Nat.mod_lt c.toNat (show 95 > 0 by omega)
  omega
theorem pc_ok (c : UInt8) : okc (pc c) = true := by
  have h := pc_nat c
  have := Nat.mod_lt c.toNat (show 95 > 0 by omega)
  unfold okc
  simp
  omega
theorem txt_rec (n : Nat) (hn : n ≤ 200) (l : Bs) : recB ((l.take n).map pc) = true := by
  unfold recB
  simp only [Bool.and_eq_true, decide_eq_true_eq, List.all_eq_true]
  refine ⟨by simp; omega, fun c hc => ?_⟩
  obtain ⟨d, _, rfl⟩ := List.mem_map.1 hc
  exact pc_ok d
theorem stp_inj {x y : Nat} (hx : x < 9973) (hy : y < 9973) (c : UInt8) (h : stp x c = stp y c) : x = y := by
  unfold stp at h
  omega
theorem fol_inj : ∀ (l : Bs) {x y : Nat}, x < 9973 → y < 9973 → fol x l = fol y l → x = y
  | [], _, _, _, _, h => h
  | c :: r, x, y, hx, hy, h => stp_inj hx hy c (fol_inj r (stp_lt x c) (stp_lt y c) h)
theorem chk_inj {x y : Nat} (hx : x < 9973) (hy : y < 9973) (l : Bs) (h : chk x l = chk y l) : x = y := by
  have h1 := fol_lt hx l
  have h2 := fol_lt hy l
  refine fol_inj l hx hy ?_
  unfold chk at h
  omega
theorem linR_ok {x : Nat} {l : Bs} (hx : x < 9973) (hl : recB l = true) : linR x l = (lin x l, 0) := by
  have : wrg x l = 0 := by unfold wrg; rw [if_neg (by omega), if_pos hl]
  unfold linR; rw [if_pos this]; rfl
theorem chkR_ok {x : Nat} {l : Bs} (hx : x < 9973) (hl : recB l = true) : chkR x l = (chk x l, 0) := by
  have : wrg x l = 0 := by unfold wrg; rw [if_neg (by omega), if_pos hl]
  unfold chkR; rw [if_pos this]; rfl

theorem Check_n (xi : Int) (x : Nat) (s : ByteArray) (w : World) (hi : xi = x) (hx : x < 9973) (hr : recB s.data.toList = true) :
    Calls Tryd.prog 22 #[.int .i64 xi, .string s] w fun e w' => e = .returned (.tuple #[.int .i64 (chk x s.data.toList), .int .i64 0]) ∧ Below w.heap.size w w' := by
  subst hi
  have := Check_any x s w (by omega) (by omega)
  rw [chkR_ok hx hr] at this
  exact this
theorem Line_n (xi : Int) (x : Nat) (s : ByteArray) (w : World) (hi : xi = x) (hx : x < 9973) (hr : recB s.data.toList = true) (hT : Tb w) :
    Calls Tryd.prog 23 #[.int .i64 xi, .string s] w fun e w' => e = .returned (.tuple #[.string ⟨(lin x s.data.toList).toArray⟩, .int .i64 0]) ∧ Below w.heap.size w w' := by
  subst hi
  have := Line_any x s w (by omega) (by omega) hT
  rw [linR_ok hx hr] at this
  exact this

theorem By.conv {w : World} {v : Value} {b : Bs} (h : By w v b) : (convert 26 9 v).run Tryd.prog w = .ok (.string ⟨b.toArray⟩) w := by
  rcases h with ⟨rfl, rfl⟩ | ⟨g, o, c', cs, rfl, hb, hc', hcs, _⟩
  · exact conv_nil w
  · have := Lib.run_convert_whole (P := Tryd.prog) w 26 5 9 (by kernel_rfl) (by kernel_rfl) (by kernel_rfl) g o ⟨b.toArray⟩ (fun i hi => by
      have := hb.cell (o + i) _ (hcs i _ (by rw [List.getElem?_map, List.getElem?_eq_getElem (show i < b.length from hi)]; rfl))
      exact this) c'
    exact this
/-- Append with no end of power -/
theorem app_free {b : Bs} {s : St} {t : Bs} (hr : recB t = true) (hl : b.length + (t.length + 6) ≤ 1048576) : appR b (-1) s false t = (0, b ++ lin s.last t, -1, s.add t, false) := by
  unfold appR
  rw [if_neg (by decide), if_neg (by rw [hr]; decide), if_neg (by omega)]
  have h1 : useR (-1) (t.length + 6) = t.length + 6 := by unfold useR; rw [if_pos (by decide)]
  have h2 : useL (-1) (t.length + 6) = -1 := by unfold useL; rw [if_pos (by decide)]
  rw [h1, h2, if_neg (by omega)]
theorem open_new (p : Int) : openR [] p = (some .zero, 0, [], p) := by
  unfold openR
  rw [if_neg (by decide), scanS_nil]
  rfl
theorem dig_nat (n : Nat) : (dig n).toNat = 48 + n % 10 := by
  unfold dig
  rw [UInt8.toNat_ofNat_of_lt']
  show _ < 256
  have := Nat.mod_lt n (show 10 > 0 by omega)
  omega
theorem four_cells (p : Nat) (hp : p < 9973) : (bcs (four p ++ [32])).toArray = #[Value.int .u8 (48 + (p : Int) / 1000), .int .u8 (48 + (p : Int) / 100 % 10), .int .u8 (48 + (p : Int) / 10 % 10), .int .u8 (48 + (p : Int) % 10), .int .u8 32] := by
  have h1 : ((dig (p / 1000)).toNat : Int) = 48 + (p : Int) / 1000 := by rw [dig_nat]; omega
  have h2 : ((dig (p / 100)).toNat : Int) = 48 + (p : Int) / 100 % 10 := by rw [dig_nat]; omega
  have h3 : ((dig (p / 10)).toNat : Int) = 48 + (p : Int) / 10 % 10 := by rw [dig_nat]; omega
  have h4 : ((dig p).toNat : Int) = 48 + (p : Int) % 10 := by rw [dig_nat]; omega
  simp [bcs, four, h1, h2, h3, h4]
theorem conv5 (w : World) (p : Nat) (hp : p < 9973) :
    (convert 26 9 (.slice (some ⟨w.heap.size, 0, none⟩) 5 5)).run Tryd.prog (w.alloc (.cells #[Value.int .u8 (48 + (p : Int) / 1000), .int .u8 (48 + (p : Int) / 100 % 10), .int .u8 (48 + (p : Int) / 10 % 10), .int .u8 (48 + (p : Int) % 10), .int .u8 32] 5)).drew =
      .ok (.string ⟨(four p ++ [32]).toArray⟩) (w.alloc (.cells #[Value.int .u8 (48 + (p : Int) / 1000), .int .u8 (48 + (p : Int) / 100 % 10), .int .u8 (48 + (p : Int) / 10 % 10), .int .u8 (48 + (p : Int) % 10), .int .u8 32] 5)).drew := by
  rw [← four_cells p hp]
  refine By.conv (.inr ⟨w.heap.size, 0, 5, (bcs (four p ++ [32])).toArray, rfl, Blk.new _ _ _, Nat.le_refl _, fun j u hu => ?_, by simp [four]⟩)
  rw [Nat.zero_add]
  simpa using hu
theorem ext5 (li t : Bs) (p : Nat) (h : li = four p ++ [32] ++ t ++ [10]) : (ByteArray.mk li.toArray).extract 0 5 = ⟨(four p ++ [32]).toArray⟩ ∧ (ByteArray.mk li.toArray).extract 5 li.length = ByteArray.mk t.toArray ++ ⟨#[10]⟩ := by
  subst h
  constructor
  · rw [ByteArray.extract_mk]
    simp [four]
  · rw [ByteArray.extract_mk]
    apply ByteArray.ext
    simp [four]
    exact List.take_of_length_le (by simp)
end Go.Proofs.YtandanbojfdfjaaDoor
