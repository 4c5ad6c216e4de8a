import Derived.Test.YtandanbojfdfjaaDoorDoes
namespace Go.Proofs.YtandanbojfdfjaaDoor
open Go.ChangeShapes Go.WideShapes Go.ChangeAt Go.RowKit

/-- a list of any steps in memory -/
structure Steps0 (w : World) (Al : Option Addr) (m : Nat) (kd : Nat → Nat) (tx : Nat → ByteArray) (nn : Nat → Int) : Prop where
  at_ : 0 < m → ∃ bl ol, Al = some ⟨bl, ol, none⟩ ∧ bl < w.heap.size ∧ ∀ k, k < m → w.cell? ⟨bl, ol + k * 3, none⟩ = some (.int .u8 (kd k : Int)) ∧ w.cell? ⟨bl, ol + k * 3 + 1, none⟩ = some (.string (tx k)) ∧ w.cell? ⟨bl, ol + k * 3 + 2, none⟩ = some (.int .i64 (nn k))
  kd : ∀ k, k < m → kd k < 256
  tx : ∀ k, k < m → (tx k).size ≤ maxLen
  nn : ∀ k, k < m → -(2^63) ≤ nn k ∧ nn k < 2^63

set_option maxRecDepth 100000 in
set_option maxHeartbeats 4000000 in
theorem jdoes_any (A : Option Addr) (n c : Nat) (b : Bs) (p : Int) (Al : Option Addr) (m cl : Nat) (kd : Nat → Nat) (tx : Nat → ByteArray) (nn : Nat → Int) (w : World) (hr : Rd w w.heap.size A (bcs b)) (hn : b.length = n) (hc : n ≤ c) (hm : n ≤ maxLen) (hl : -(2^63) ≤ p) (hh : p < 2^63) (hS : Steps0 w Al m kd tx nn) (hm2 : m ≤ maxLen) (hT : Tb w) :
    Calls Tryd.prog 8 #[.slice A n c, .int .i64 p, .slice Al m cl] w fun e w' => e = .returned (.bool true) ∧ Below w.heap.size w w' := by
  have HT := Lib.hid hT
  have HS := Lib.hid hS
  have HAw := fun (W : World) (b : Below w.heap.size w W) => Lib.hid (awake_any W (HT.out.below b HT.out.lt))
  have HDo := Lib.hid (fun (W : World) (hb : Below w.heap.size w W) (h1 : n ≤ 2000) (h2 : m ≤ 40) (h3 : ∀ k, k < m → (tx k).size ≤ 300) => does_any A n c b p Al m cl kd tx nn W (hr.keep hb hb.size) hn hc (by omega) hl hh ⟨fun h0 => by
      obtain ⟨bl, ol, e, hlt, hcc⟩ := hS.at_ h0
      exact ⟨bl, ol, e, Nat.lt_of_lt_of_le hlt hb.size, fun k hk => ⟨(bcell hb bl _ hlt).trans (hcc k hk).1, (bcell hb bl _ hlt).trans (hcc k hk).2.1, (bcell hb bl _ hlt).trans (hcc k hk).2.2⟩⟩, hS.kd, h3, hS.nn⟩ (by omega) (HT.out.below hb HT.out.lt))
  clear hr hn hc hl hh hS hT
  unfold maxLen at hm hm2
  by_cases h1 : 2000 < n
  · have b1 : decide ((n : Int) > 2000) = true := decide_eq_true (by omega)
    clear HDo
    go_enter Tryd.func8, Tryd.ntmps8
    go_wp2_with fail
    refine (HAw w (Below.refl _ _)).out.mono ?_
    rintro e w1 ⟨rfl, hb1⟩
    go_wp2_with fail
    go_ret
    exact ⟨rfl, hb1⟩
  · have b1 : decide ((n : Int) > 2000) = false := decide_eq_false (by omega)
    by_cases h2 : 40 < m
    · have b2 : decide ((m : Int) > 40) = true := decide_eq_true (by omega)
      clear HDo
      go_enter Tryd.func8, Tryd.ntmps8
      go_wp2_with fail
      refine (HAw w (Below.refl _ _)).out.mono ?_
      rintro e w1 ⟨rfl, hb1⟩
      go_wp2_with fail
      go_ret
      exact ⟨rfl, hb1⟩
    · have b2 : decide ((m : Int) > 40) = false := decide_eq_false (by omega)
      go_enter Tryd.func8, Tryd.ntmps8
      go_wp2_with fail
      go_loopw [20] (fun i wr => ∃ k : Nat, k ≤ m ∧ i = .int .i64 k ∧ Hid (∀ j, j < k → (tx j).size ≤ 300) ∧ Hid (Below w.heap.size w wr)) (fun i _ => m - (intOf i).toNat)
      case atStart => exact ⟨0, Nat.zero_le _, rfl, Lib.hid (fun j h => by omega), Lib.hid (Below.refl _ _)⟩
      case round =>
        obtain ⟨k, hk, rfl, HX, HB⟩ := hrel
        by_cases hlt : k < m
        · obtain ⟨bl, ol, rfl, hbl, hcc⟩ := HS.out.at_ (by omega)
          obtain ⟨k1, k2, k3⟩ := hcc k hlt
          have e1 := (bcell HB.out bl _ hbl).trans k1
          have e2 := (bcell HB.out bl _ hbl).trans k2
          have e3 := (bcell HB.out bl _ hbl).trans k3
          have hkd := HS.out.kd k hlt
          have htx := HS.out.tx k hlt
          unfold maxLen at htx
          clear hcc k1 k2 k3
          obtain ⟨tk, htk⟩ : ∃ tk, tx k = tk := ⟨_, rfl⟩
          rw [htk] at e2 htx
          have HTk := Lib.hid htk
          clear htk
          generalize kd k = kk at *
          generalize nn k = nk at *
          have ha := below_alloc wr (.cells #[Value.int IntKind.u8 (kk : Int), Value.string tk, Value.int IntKind.i64 nk] 54)
          have HBa := Lib.hid (HB.out.trans (ha.mono HB.out.size))
          clear ha
          by_cases h3 : 300 < tk.size
          · have b3 : decide ((tk.size : Int) > 300) = true := decide_eq_true (by omega)
            go_wp2_with fail
            refine (HAw _ HBa.out).out.mono ?_
            rintro e w1 ⟨rfl, hb1⟩
            have HBe := Lib.hid (HBa.out.trans (hb1.mono HBa.out.size))
            clear hb1
            go_wp2_with fail
            go_ret
            exact ⟨rfl, HBe.out⟩
          · have b3 : decide ((tk.size : Int) > 300) = false := decide_eq_false (by omega)
            go_wp2_with fail
            go_roundw
            case rel => exact ⟨k + 1, by omega, by go_num, Lib.hid (fun j hj => by
              rcases Nat.lt_or_ge j k with h | h
              · exact HX.out j h
              · obtain rfl : j = k := by omega
                rw [HTk.out]; omega), HBa⟩
            case measure => simp [intOf]; omega
        · obtain rfl : k = m := by omega
          have HD := Lib.hid (HDo.out wr HB.out (by omega) (by omega) HX.out)
          go_wp2_with fail
          refine HD.out.mono ?_
          rintro e w1 ⟨rfl, hb1⟩
          have HB1 := Lib.hid (HB.out.trans (hb1.mono HB.out.size))
          clear hb1 HD
          go_wp2_with fail
          refine (HAw w1 HB1.out).out.mono ?_
          rintro e w2 ⟨rfl, hb2⟩
          go_wp2_with fail
          go_ret
          exact ⟨rfl, HB1.out.trans (hb2.mono HB1.out.size)⟩
end Go.Proofs.YtandanbojfdfjaaDoor
