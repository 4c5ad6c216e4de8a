import Derived.Test.YtknhdojciihjlaaAwake
import Derived.Test.YtknhdojciihjlaaScale
import Derived.Test.YtknhdojciihjlaaLaw
namespace Go.Proofs.Ytknhdojciihjlaa
open Go.ChangeShapes Go.WideShapes Go.ChangeAt Go.RowKit

theorem total_num {A B : Option Addr} {c d n : Nat} {xs ms : List Int} {w0 w : World} {a b : Int} (h : Rd w0 w0.heap.size A (ics .i64 xs)) (hM : Rd w0 w0.heap.size B (ics .i64 ms)) (hb : Below w0.heap.size w0 w) (hR : RightB xs = true) (hn : ms.length = n) (hl : n ≤ 1000000)
    (hok : ms.all mOk = true) (ha : ((xs.length * n : Nat) : Int) + totN xs ms = a) (hbb : ((xs.length * n : Nat) : Int) - totN xs ms = b) :
    Calls Try.prog 17 #[.slice A xs.length c, .slice B n d] w fun e w' =>
      e = .returned (.tuple #[.int .i64 a, .int .i64 b, .int .i64 0]) ∧ Below w0.heap.size w0 w' := by
  subst hn
  have := total_any A B c d xs ms w (h.now hb) (hM.now hb) hR hl
  rw [totRes_ok hok, ha, hbb] at this
  exact this.mono fun _ _ ⟨he, h'⟩ => ⟨he, hb.trans (h'.mono hb.size)⟩

theorem all_ok {ms : List Int} (h : ∀ x ∈ ms, -32768 ≤ x ∧ x ≤ 32767) : ms.all mOk = true := by
  rw [List.all_eq_true]
  intro x hx
  have := h x hx
  simp [mOk]; omega

set_option maxRecDepth 100000 in
set_option maxHeartbeats 4000000 in
theorem tots_any (A A2 A3 : Option Addr) (c c2 c3 : Nat) (xs zs ws : List Int) (w : World) (hx : Rd w w.heap.size A (ics .u8 xs)) (hc : xs.length ≤ c) (hm : c ≤ maxLen) (hbd : ∀ x ∈ xs, 0 ≤ x ∧ x ≤ 255)
    (ha : Rd w w.heap.size A2 (ics .i16 zs)) (hca : zs.length ≤ c2) (hma : c2 ≤ maxLen) (hba : ∀ x ∈ zs, -32768 ≤ x ∧ x ≤ 32767)
    (hb : Rd w w.heap.size A3 (ics .i16 ws)) (hcb : ws.length ≤ c3) (hmb : c3 ≤ maxLen) (hbb : ∀ x ∈ ws, -32768 ≤ x ∧ x ≤ 32767)
    (n m : Nat) (hnn : n = min zs.length 30) (hmm : m = min ws.length 30) :
    Calls Try.prog 7 #[.slice A xs.length c, .slice A2 zs.length c2, .slice A3 ws.length c3] w fun e w' => e = .returned (.bool true) ∧ Below w.heap.size w w' := by
  unfold maxLen at hma hmb
  have HS := Lib.hid (scale_any A c xs w hx hc hm hbd)
  obtain ⟨hR, hl⟩ := scaleS_right xs hbd
  clear hx hc hm hbd hl
  generalize scaleS xs = s at *
  obtain ⟨l1, l2⟩ := RightB_len hR
  have HR := Lib.hid hR
  have HA := Lib.hid ha
  have HB := Lib.hid hb
  have HBA := Lib.hid hba
  have HBB := Lib.hid hbb
  have hn1 : n ≤ zs.length := by omega
  have hn2 : n ≤ 30 := by omega
  have hm1 : m ≤ ws.length := by omega
  have hm2 : m ≤ 30 := by omega
  have Mn : min (zs.length : Int) 30 = n := by omega
  have Mm : min (ws.length : Int) 30 = m := by omega
  clear hR ha hb hba hbb hnn hmm
  go_enter Try.func7, Try.ntmps7
  go_wp2_with fail
  refine HS.out.mono ?_
  rintro e w1 ⟨v, rfl, own⟩
  obtain ⟨A', c', rfl, hc', rd⟩ := own.rd
  have b0 := own.bel
  clear own
  go_wp2_with ((with_reducible refine min_step _ _ .i64 (zs.length : Int) 30 (n : Int) ?_ ?_ ?_ ?_); (exact rfl); (exact rfl); (exact Mn))
  clear Mn
  go_loopw [8, 32] (fun out i wr => ∃ k : Nat, k ≤ n ∧ i = .int .i64 k ∧ Own w1 wr 3 1 out k (ics .i64 (zs.take k))) (fun _ i _ => n - (intOf i).toNat)
  case atStart => exact ⟨0, Nat.zero_le _, rfl, Own.nil _ _ (Below.refl _ _)⟩
  case round =>
    obtain ⟨k, hk, rfl, own1⟩ := hrel
    by_cases hlt : k < n
    · obtain ⟨b, off, rfl, hbb, hc2⟩ := HA.out.int (by omega)
      have g1 := (bcell (b0.trans (own1.bel.mono b0.size)) b (off + k) hbb).trans (hc2 k (by omega))
      have gb := HBA.out (zs.getD k 0) (getD_mem' (by omega))
      have HT := Lib.hid (show zs.take (k + 1) = zs.take k ++ [zs.getD k 0] from take_succ_getD zs k (by omega))
      generalize zs.getD k 0 = x at *
      obtain ⟨gb1, gb2⟩ := gb
      clear hc2
      go_wp2_with (at_builtin; refine ap_one rfl (.tmp 36) (.tmp 39) 24 rfl eInt [.int .i64 x] own1 rfl rfl rfl (by simp [Value.oneCell']) (by omega) ?_; intro v' w' hown' hsz)
      go_roundw
      case rel => exact ⟨k + 1, by omega, by go_num, by rw [HT.out, ics, List.map_append]; exact hown'⟩
      case measure => simp [intOf]; omega
    · obtain rfl : k = n := by omega
      obtain ⟨wa, rfl⟩ : ∃ wa : World, wa = wr := ⟨_, rfl⟩
      obtain ⟨A8, c8, rfl, hc8, rd8⟩ := own1.rd
      have b1 := b0.trans (own1.bel.mono b0.size)
      have rds := rd.now own1.bel
      clear own1 rd b0
      go_wp2_with ((with_reducible refine min_step _ _ .i64 (ws.length : Int) 30 (m : Int) ?_ ?_ ?_ ?_); (exact rfl); (exact rfl); (exact Mm))
      clear Mm
      go_loopw [9, 48] (fun out i w2 => ∃ j : Nat, j ≤ m ∧ i = .int .i64 j ∧ Own wa w2 3 1 out j (ics .i64 (ws.take j))) (fun _ i _ => m - (intOf i).toNat)
      case atStart => exact ⟨0, Nat.zero_le _, rfl, Own.nil _ _ (Below.refl _ _)⟩
      case round =>
        obtain ⟨j, hj, rfl, own2⟩ := hrel
        by_cases hlt : j < m
        · obtain ⟨b, off, rfl, hbb, hc2⟩ := HB.out.int (by omega)
          have g1 := (bcell (b1.trans (own2.bel.mono b1.size)) b (off + j) hbb).trans (hc2 j (by omega))
          have gb := HBB.out (ws.getD j 0) (getD_mem' (by omega))
          have HT := Lib.hid (show ws.take (j + 1) = ws.take j ++ [ws.getD j 0] from take_succ_getD ws j (by omega))
          generalize ws.getD j 0 = x at *
          obtain ⟨gb1, gb2⟩ := gb
          clear hc2
          go_wp2_with (at_builtin; refine ap_one rfl (.tmp 52) (.tmp 55) 24 rfl eInt [.int .i64 x] own2 rfl rfl rfl (by simp [Value.oneCell']) (by omega) ?_; intro v' w' hown' hsz)
          go_roundw
          case rel => first | exact ⟨j + 1, by omega, by go_num, by rw [HT.out, ics, List.map_append]; exact hown'⟩ | ((repeat apply Exists.intro); exact ⟨⟨j + 1, by omega, by go_num, by rw [HT.out, ics, List.map_append]; exact hown'⟩, rfl⟩)
          case measure => simp [intOf]; omega
        · obtain rfl : j = m := by omega
          obtain ⟨A9, c9, rfl, hc9, rd9⟩ := own2.rd
          have b2 := b1.trans (own2.bel.mono b1.size)
          have rds2 := rds.now own2.bel
          have rd82 := rd8.now own2.bel
          have ok1 := Lib.hid (all_ok (ms := zs.take k) (fun x hx => HBA.out x (List.mem_of_mem_take hx)))
          have ok2 := Lib.hid (all_ok (ms := ws.take j) (fun x hx => HBB.out x (List.mem_of_mem_take hx)))
          have e1 := Lib.hid (show (zs.take k).length = k by rw [List.length_take]; omega)
          have e2 := Lib.hid (show (ws.take j).length = j by rw [List.length_take]; omega)
          have e3 := Lib.hid (show (ws.take j ++ zs.take k).length = j + k by rw [List.length_append, e1.out, e2.out])
          have ok3 : Hid ((ws.take j ++ zs.take k).all mOk = true) := by rw [Hid, List.all_append, ok1.out, ok2.out]; rfl
          have t12 := Lib.hid (totN_app s (ws.take j) (zs.take k))
          have bd1 := totN_bd s (zs.take k) l2
          have bd2 := totN_bd s (ws.take j) l2
          rw [e1.out] at bd1
          rw [e2.out] at bd2
          have mb1 := mul_bd l2 (show k ≤ 1000000 by omega)
          have mb2 := mul_bd l2 (show j ≤ 1000000 by omega)
          have mm3 := Lib.hid (show ((s.length * (j + k) : Nat) : Int) = (s.length * j : Nat) + (s.length * k : Nat) by rw [Nat.mul_add]; simp)
          have mb4 : Hid (2 * (s.length : Int) * ((j : Int) + (k : Int)) = 2 * ((s.length * j : Nat) : Int) + 2 * ((s.length * k : Nat) : Int)) := by
            show _ = _
            rw [Int.natCast_mul, Int.natCast_mul, ← Int.mul_add, ← Int.mul_add, Int.mul_assoc]
          clear own2 rds rd8 HA HB HBA HBB
          generalize hX : s.length * k = X at *
          generalize hY : s.length * j = Y at *
          generalize htx : totN s (zs.take k) = tx at *
          generalize hty : totN s (ws.take j) = ty at *
          have HX := Lib.hid hX
          have HY := Lib.hid hY
          have HTX := Lib.hid htx
          have HTY := Lib.hid hty
          clear hX hY htx hty
          obtain ⟨p, hp⟩ : ∃ p : Int, p = X + tx := ⟨_, rfl⟩
          obtain ⟨q, hq⟩ : ∃ q : Int, q = X - tx := ⟨_, rfl⟩
          obtain ⟨r, hr⟩ : ∃ r : Int, r = Y + ty := ⟨_, rfl⟩
          obtain ⟨t, ht⟩ : ∃ t : Int, t = Y - ty := ⟨_, rfl⟩
          have hsum : (p + r + (q + t) == 2 * (s.length : Int) * ((j : Int) + (k : Int))) = true := by
            rw [beq_iff_eq, mb4.out]; omega
          have bp : -1000000000 ≤ p ∧ p ≤ 1000000000 := by omega
          have bq : -1000000000 ≤ q ∧ q ≤ 1000000000 := by omega
          have br : -1000000000 ≤ r ∧ r ≤ 1000000000 := by omega
          have bt : -1000000000 ≤ t ∧ t ≤ 1000000000 := by omega
          have pb1 : 0 ≤ 2 * (s.length : Int) * ((j : Int) + (k : Int)) := by rw [mb4.out]; omega
          have pb2 : 2 * (s.length : Int) * ((j : Int) + (k : Int)) ≤ 1000000000 := by rw [mb4.out]; omega
          have HP := Lib.hid hp
          have HQ := Lib.hid hq
          have HRr := Lib.hid hr
          have HT := Lib.hid ht
          clear hp hq hr ht bd1 bd2
          go_wp2_with (first
            | (at_builtin; refine ap_many rfl (.tmp 58) (.tmp 59) 24 rfl eInt A9 j c9 (ics .i64 (ws.take j)) (Own.nil (w0 := wr) 3 1 (Below.refl _ _)) rfl rfl (by rw [ics, List.length_map, e2.out]; omega) rd9 (oneCells_ints _ _) (by omega) ?_; intro v3 w3 own3 hsz3)
            | (at_builtin; refine ap_many rfl (.tmp 60) (.tmp 61) 24 rfl eInt A8 k c8 (ics .i64 (zs.take k)) own3 rfl rfl (by rw [ics, List.length_map, e1.out]; omega) (rd82.now own3.bel) (oneCells_ints _ _) (by omega) ?_; intro v4 w4 own4 hsz4))
          have own4' : Own wr w4 3 1 v4 (j + k) (ics .i64 (ws.take j ++ zs.take k)) := by
            rw [Nat.zero_add] at own4
            simpa [ics] using own4
          obtain ⟨AB, cB, rfl, hcB, rdB⟩ := own4'.rd
          clear own4'
          have b4 : Below wr.heap.size wr w4 := own4.bel
          have b5 := b2.trans (b4.mono b2.size)
          have rs := rds2.now b4
          have r8 := rd82.now b4
          have r9 := rd9.now b4
          have rB : Rd w4 w4.heap.size AB (ics .i64 (ws.take j ++ zs.take k)) := rdB
          clear own3 own4 rds2 rd82 rd9 rdB
          refine (total_num (a := p) (b := q) rs r8 (Below.refl _ _) HR.out e1.out (by omega) ok1.out (by rw [HX.out, HTX.out, HP.out]) (by rw [HX.out, HTX.out, HQ.out])).mono ?_
          rintro e w5 ⟨rfl, b6⟩
          go_wp2_with fail
          refine (total_num (a := r) (b := t) rs r9 b6 HR.out e2.out (by omega) ok2.out (by rw [HY.out, HTY.out, HRr.out]) (by rw [HY.out, HTY.out, HT.out])).mono ?_
          rintro e w6 ⟨rfl, b7⟩
          go_wp2_with fail
          refine (total_num (n := j + k) (a := p + r) (b := q + t) rs rB b7 HR.out e3.out (by omega) ok3.out (by rw [mm3.out, t12.out, HP.out, HRr.out]; omega) (by rw [mm3.out, t12.out, HQ.out, HT.out]; omega)).mono ?_
          rintro e w7 ⟨rfl, b8⟩
          go_wp2_with fail
          refine (awake_any _).mono ?_
          rintro e w8 ⟨rfl, b9⟩
          go_wp2_with fail
          go_ret
          exact ⟨rfl, b5.trans ((b8.trans (b9.mono b8.size)).mono b5.size)⟩
end Go.Proofs.Ytknhdojciihjlaa
