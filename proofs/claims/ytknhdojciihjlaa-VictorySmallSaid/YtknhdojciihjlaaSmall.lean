import Derived.Test.YtknhdojciihjlaaSame
import Derived.Test.YtknhdojciihjlaaAwake
import Derived.Deep.RegionHeld3
namespace Go.Proofs.Ytknhdojciihjlaa
open Go.ChangeShapes Go.WideShapes Go.ChangeAt Go.RowKit

theorem same_b {A B : Option Addr} {c d n1 n2 : Nat} {n : Int} {w0 w : World} (xs ms : List Int) (hx : Rd w0 w0.heap.size A (ics .i64 xs)) (hM : Rd w w.heap.size B (ics .i64 ms)) (hb : Below w0.heap.size w0 w)
    (h1 : xs.length = n1) (h2 : ms.length = n2) (l1 : n1 ≤ 1000) (l2 : n2 ≤ 1000) (hp1 : -9223372036854775808 ≤ n) (hp2 : n ≤ 9223372036854775807) :
    Calls Try.prog 16 #[.slice A n1 c, .int .i64 n, .slice B n2 d] w fun e w' => e = .returned (.bool true) ∧ Below w0.heap.size w0 w' := by
  subst h1
  subst h2
  exact (same_law A B c d xs ms n w (hx.now hb) hM l1 l2 hp1 hp2).mono fun _ _ ⟨he, h'⟩ => ⟨he, hb.trans (h'.mono hb.size)⟩

theorem same_c {A B : Option Addr} {c d n1 n2 : Nat} {n : Int} {w0 w : World} (xs ms : List Int) (hx : Rd w w.heap.size A (ics .i64 xs)) (hM : Rd w w.heap.size B (ics .i64 ms)) (hb : Below w0.heap.size w0 w)
    (h1 : xs.length = n1) (h2 : ms.length = n2) (l1 : n1 ≤ 1000) (l2 : n2 ≤ 1000) (hp1 : -9223372036854775808 ≤ n) (hp2 : n ≤ 9223372036854775807) :
    Calls Try.prog 16 #[.slice A n1 c, .int .i64 n, .slice B n2 d] w fun e w' => e = .returned (.bool true) ∧ Below w0.heap.size w0 w' := by
  subst h1
  subst h2
  exact (same_law A B c d xs ms n w hx hM l1 l2 hp1 hp2).mono fun _ _ ⟨he, h'⟩ => ⟨he, hb.trans (h'.mono hb.size)⟩
theorem two_lits (w : World) (xs ms : List Int) : Rd ((w.alloc (.cells (ics .i64 xs).toArray 3)).alloc (.cells (ics .i64 ms).toArray 3)) ((w.alloc (.cells (ics .i64 xs).toArray 3)).alloc (.cells (ics .i64 ms).toArray 3)).heap.size (some ⟨w.heap.size, 0, none⟩) (ics .i64 xs) ∧
    Rd ((w.alloc (.cells (ics .i64 xs).toArray 3)).alloc (.cells (ics .i64 ms).toArray 3)) ((w.alloc (.cells (ics .i64 xs).toArray 3)).alloc (.cells (ics .i64 ms).toArray 3)).heap.size (some ⟨w.heap.size + 1, 0, none⟩) (ics .i64 ms) := by
  refine ⟨(Rd.built (ics .i64 xs)).alloc _, ?_⟩
  have := Rd.built (w := w.alloc (.cells (ics .i64 xs).toArray 3)) (e := 3) (ics .i64 ms)
  simpa using this

def thr (m : Nat) : List Int := (List.range m).map fun i : Nat => 3 * (i : Int) + 1
theorem thr_len (m : Nat) : (thr m).length = m := by simp [thr]
theorem thr_succ (m : Nat) : thr (m + 1) = thr m ++ [3 * (m : Int) + 1] := by simp [thr, List.range_succ]
def odd7 : List Int := [-9223372036854775808, -1000001, -1000000, 999999, 1000000, 1000001, 9223372036854775807]
theorem odd7_bd (k : Nat) (h : k < 7) : -9223372036854775808 ≤ odd7.getD k 0 ∧ odd7.getD k 0 ≤ 9223372036854775807 := by
  obtain rfl | rfl | rfl | rfl | rfl | rfl | rfl : k = 0 ∨ k = 1 ∨ k = 2 ∨ k = 3 ∨ k = 4 ∨ k = 5 ∨ k = 6 := by omega
  all_goals decide

set_option maxRecDepth 100000 in
set_option maxHeartbeats 8000000 in
theorem small_any (w : World) : Calls Try.prog 6 #[] w fun e w' => e = .returned (.bool true) ∧ Below w.heap.size w w' := by
  go_enter Try.func6, Try.ntmps6
  go_wp2_with fail
  go_loopw [1] (fun i wr => ∃ n : Int, -1 ≤ n ∧ n ≤ 131 ∧ i = .int .i64 n ∧ Below w.heap.size w wr) (fun i _ => (131 - intOf i).toNat)
  case atStart => exact ⟨-1, by omega, by omega, rfl, Below.refl _ _⟩
  case round =>
    obtain ⟨n, hn1, hn2, rfl, hbw⟩ := hrel
    by_cases hlt : n < 131
    · obtain ⟨m1, hm1⟩ : ∃ m, min n 128 = m := ⟨_, rfl⟩
      obtain ⟨m2, hm2⟩ : ∃ m : Nat, max 1 m1 = (m : Int) := ⟨(max 1 m1).toNat, by omega⟩
      have lm : 1 ≤ m2 ∧ m2 ≤ 128 := by omega
      have HM1 := Lib.hid hm1
      have HM2 := Lib.hid hm2
      clear hm1 hm2
      go_wp2_with (first
        | ((with_reducible refine min_step _ _ .i64 n 128 m1 ?_ ?_ ?_ ?_); (exact rfl); (exact rfl); (exact HM1.out))
        | ((with_reducible refine max_step _ _ .i64 1 m1 (m2 : Int) ?_ ?_ ?_ ?_); (exact rfl); (exact rfl); (exact HM2.out)))
      refine (rusual_ok m2 _ lm.1 lm.2).mono ?_
      rintro e W ⟨v, rfl, own⟩
      obtain ⟨A, c, rfl, hc, rd⟩ := own.rd
      have bW := hbw.trans (own.bel.mono hbw.size)
      obtain ⟨b, off, rfl, hb, hcell⟩ := rd.int (by rw [us_len]; omega)
      have g := hcell 3 (by rw [us_len]; omega)
      have hx0 := us_get m2 10 3 (by omega)
      have hx1 := lst_le (tk m2 4)
      rw [hx0] at g
      clear hcell own hx0
      generalize lst (tk m2 (3 + 1)) = x at *
      have hU := Lib.hid (us_len m2 10)
      have e0 : IntKind.i64.wrap (-(x : Int)) = -(x : Int) := IntWalk.i64_in _ (by omega)
      have e1 : IntKind.i64.wrap (n - 60) = n - 60 := IntWalk.i64_in _ (by omega)
      have e2 : IntKind.i64.wrap (1000001 - n) = 1000001 - n := IntWalk.i64_in _ (by omega)
      have e3 : IntKind.i64.wrap (n - 1000001) = n - 1000001 := IntWalk.i64_in _ (by omega)
      have l10 : 10 ≤ 1000 := by omega
      have l3 : 3 ≤ 1000 := by omega
      have l0 : 0 ≤ 1000 := by omega
      have n1 : -9223372036854775808 ≤ n := by omega
      have n2 : n ≤ 9223372036854775807 := by omega
      have n3 : -9223372036854775808 ≤ n - 60 := by omega
      have n4 : n - 60 ≤ 9223372036854775807 := by omega
      have n5 : -9223372036854775808 ≤ 1000001 - n := by omega
      have n6 : 1000001 - n ≤ 9223372036854775807 := by omega
      have n7 : -9223372036854775808 ≤ n - 1000001 := by omega
      have n8 : n - 1000001 ≤ 9223372036854775807 := by omega
      go_wp2_with fail
      go_region_held3 (fun w' => w'.cell? ⟨b, off + 3, none⟩ = some (.int .i64 x))
        (first
          | go_keep
          | ((exact ((bcell hb1 b (off + 3) hb).trans g))))
        (first
          | (go_at_call 16; (with_reducible refine (same_b (n2 := 3) (us m2 10) [(x : Int), -(x : Int), 0] rd ?_ ?_ hU.out rfl l10 l3 n1 n2).mono ?_); (exact (Rd.built (w := W) (e := 3) (ics .i64 [(x : Int), -(x : Int), 0])).drew); go_grown; rintro e w1 ⟨rfl, hb1⟩)
          | (go_at_call 16; (with_reducible refine (same_b (us m2 10) (us m2 10) rd ?_ hb1 hU.out hU.out l10 l10 n3 n4).mono ?_); (exact rd.now hb1); clear hb1; rintro e w1 ⟨rfl, hb1⟩)
          | (go_at_call 16; (with_reducible refine (same_b (n2 := 0) (us m2 10) [] rd Rd.nil hb1 hU.out rfl l10 l0 n5 n6).mono ?_); clear hb1; rintro e w1 ⟨rfl, hb1⟩)
          | (go_at_call 16; (with_reducible refine (same_b (n2 := 0) (us m2 10) [] rd Rd.nil hb1 hU.out rfl l10 l0 n7 n8).mono ?_); clear hb1; rintro e w1 ⟨rfl, hb1⟩))
      go_wp2_with fail
      go_roundw
      case rel => exact ⟨n + 1, by omega, by omega, by go_num, bW.trans (hb1.mono bW.size)⟩
      case measure => simp [intOf]; omega
    · obtain rfl : n = 131 := by omega
      obtain ⟨wa, rfl⟩ : ∃ wa : World, wa = wr := ⟨_, rfl⟩
      go_wp2_with fail
      go_loopw [58] (fun i wr => ∃ j : Nat, j ≤ 216 ∧ i = .int .i64 j ∧ Below w.heap.size w wr) (fun i _ => 216 - (intOf i).toNat)
      case atStart => exact ⟨0, by omega, rfl, hbw⟩
      case round =>
        obtain ⟨j, hj, rfl, hb2⟩ := hrel
        by_cases hlt : j < 216
        · have hltI : (j : Int) < 216 := by omega
          have q1 : (j : Int) / 6 % 6 = ((j / 6 % 6 : Nat) : Int) := by omega
          have q2 : (j : Int) / 36 = ((j / 36 : Nat) : Int) := by omega
          have q3 : (j : Int) % 6 = ((j % 6 : Nat) : Int) := by omega
          obtain ⟨a1, ha1⟩ : ∃ a, a = j % 6 := ⟨_, rfl⟩
          obtain ⟨a2, ha2⟩ : ∃ a, a = j / 6 % 6 := ⟨_, rfl⟩
          obtain ⟨a3, ha3⟩ : ∃ a, a = j / 36 := ⟨_, rfl⟩
          rw [← ha2] at q1
          rw [← ha3] at q2
          rw [← ha1] at q3
          have HA1 := Lib.hid ha1
          have HA2 := Lib.hid ha2
          have HA3 := Lib.hid ha3
          clear ha1 ha2 ha3
          obtain ⟨wb, rfl⟩ : ∃ wb : World, wb = wr := ⟨_, rfl⟩
          go_wp2_with fail
          have rdS : Rd (wb.alloc (.cells (ics .i64 [(a1 : Int), a2, a3]).toArray 3)) (wb.alloc (.cells (ics .i64 [(a1 : Int), a2, a3]).toArray 3)).heap.size (some ⟨wb.heap.size, 0, none⟩) (ics .i64 [(a1 : Int), a2, a3]) := Rd.built _
          have hb3 : Below w.heap.size w (wb.alloc (.cells (ics .i64 [(a1 : Int), a2, a3]).toArray 3)) := hb2.alloc hb2.size _
          clear q1 q2 q3
          go_loopw [6] (fun i wr => ∃ k : Int, -7 ≤ k ∧ k ≤ 8 ∧ i = .int .i64 k ∧ Below w.heap.size w wr ∧ Rd wr wr.heap.size (some ⟨wb.heap.size, 0, none⟩) (ics .i64 [(a1 : Int), a2, a3])) (fun i _ => (8 - intOf i).toNat)
          case atStart => exact ⟨-7, by omega, by omega, rfl, hb3, rdS⟩
          case round =>
            obtain ⟨k, hk1, hk2, rfl, hb4, rd⟩ := hrel
            obtain ⟨wc, rfl⟩ : ∃ wc : World, wc = wr := ⟨_, rfl⟩
            clear rdS hb3 hb2
            by_cases hlt2 : k < 8
            · have c1 : 2 ≤ 3 := by omega
              clear hltI
              go_wp2_with fail
              refine (same_b (w0 := wc) (n1 := 3) (n2 := 3) [(a1 : Int), a2, a3] [k, -k, 1] rd (Rd.built (ics .i64 [k, -k, 1])) (by go_grown) rfl rfl (by omega) (by omega) (by omega) (by omega)).mono ?_
              rintro e w1 ⟨rfl, hb1⟩
              go_wp2_with fail
              refine (same_b (w0 := wc) (n1 := 2) (n2 := 1) [(a1 : Int), a2] [k] (rd.take 2) (Rd.built (ics .i64 [k])) (hb1.alloc hb1.size _) rfl rfl (by omega) (by omega) (by omega) (by omega)).mono ?_
              clear hb1
              rintro e w1 ⟨rfl, hb1⟩
              go_wp2_with fail
              refine (same_b (w0 := wc) (n1 := 1) (n2 := 3) [(a1 : Int)] [(a1 : Int), a2, a3] (rd.take 1) (rd.now hb1) hb1 rfl rfl (by omega) (by omega) (by omega) (by omega)).mono ?_
              clear hb1
              rintro e w1 ⟨rfl, hb1⟩
              go_wp2_with fail
              go_roundw
              case rel => first | exact ⟨k + 1, by omega, by omega, by go_num, hb4.trans (hb1.mono hb4.size), rd.now hb1⟩ | ((repeat apply Exists.intro); exact ⟨⟨k + 1, by omega, by omega, by go_num, hb4.trans (hb1.mono hb4.size), rd.now hb1⟩, rfl⟩)
              case measure => simp [intOf]; omega
            · go_wp2_with fail
              go_roundw
              case rel => first | exact ⟨j + 1, by omega, by go_num, hb4⟩ | ((repeat apply Exists.intro); exact ⟨⟨j + 1, by omega, by go_num, hb4⟩, rfl⟩)
              case measure => simp [intOf]; omega
        · obtain rfl : j = 216 := by omega
          obtain ⟨wb, rfl⟩ : ∃ wb : World, wb = wr := ⟨_, rfl⟩
          go_wp2_with fail
          clear hbw
          go_loopw [7] (fun i wr => ∃ n : Nat, 48 ≤ n ∧ n ≤ 53 ∧ i = .int .i64 n ∧ Below w.heap.size w wr) (fun i _ => 53 - (intOf i).toNat)
          case atStart => exact ⟨48, by omega, by omega, rfl, hb2⟩
          case round =>
            obtain ⟨n, hn1, hn2, rfl, hb3⟩ := hrel
            clear hb2
            obtain ⟨wc, rfl⟩ : ∃ wc : World, wc = wr := ⟨_, rfl⟩
            by_cases hlt : n < 53
            · have hltI : (n : Int) < 53 := by omega
              go_wp2_with fail
              go_loopw [8, 104] (fun out i wr => ∃ m : Nat, m ≤ n ∧ i = .int .i64 m ∧ Own wc wr 3 1 out m (ics .i64 (thr m))) (fun _ i _ => n - (intOf i).toNat)
              case atStart => exact ⟨0, by omega, rfl, Own.nil _ _ (Below.refl _ _)⟩
              case round =>
                obtain ⟨m, hm, rfl, own⟩ := hrel
                by_cases hlt2 : m < n
                · go_wp2_with (at_builtin; refine ap_one rfl (.tmp 107) (.tmp 111) 24 rfl eInt [.int .i64 (3 * (m : Int) + 1)] own rfl rfl rfl (by simp [Value.oneCell']) (by omega) ?_; intro v' w' hown' hsz)
                  go_roundw
                  case rel => first | exact ⟨m + 1, by omega, by go_num, by rw [thr_succ, ics, List.map_append]; exact hown'⟩ | ((repeat apply Exists.intro); exact ⟨⟨m + 1, by omega, by go_num, by rw [thr_succ, ics, List.map_append]; exact hown'⟩, rfl⟩)
                  case measure => simp [intOf]; omega
                · obtain rfl : m = n := by omega
                  obtain ⟨A, c, rfl, hc, rd⟩ := own.rd
                  have hb4 := hb3.trans (own.bel.mono hb3.size)
                  obtain ⟨wd, rfl⟩ : ∃ wd : World, wd = wr := ⟨_, rfl⟩
                  have hL := Lib.hid (thr_len m)
                  clear own
                  go_wp2_with fail
                  go_loopw [10] (fun i wr => ∃ k : Int, -5 ≤ k ∧ k ≤ 2 * (m : Int) + 8 ∧ i = .int .i64 k ∧ Below w.heap.size w wr ∧ Rd wr wr.heap.size A (ics .i64 (thr m))) (fun i _ => (2 * (m : Int) + 8 - intOf i).toNat)
                  case atStart => exact ⟨-5, by omega, by omega, rfl, hb4, rd⟩
                  case round =>
                    obtain ⟨k, hk1, hk2, rfl, hb5, rdk⟩ := hrel
                    clear hb4 rd
                    obtain ⟨we, rfl⟩ : ∃ we : World, we = wr := ⟨_, rfl⟩
                    by_cases hlt3 : k < 2 * (m : Int) + 5
                    · go_wp2_with fail
                      refine (same_b (w0 := we) (thr m) (thr m) rdk rdk (Below.refl _ _) hL.out hL.out (by omega) (by omega) (by omega) (by omega)).mono ?_
                      rintro e w1 ⟨rfl, hb1⟩
                      go_wp2_with fail
                      go_roundw
                      case rel => first | exact ⟨k + 3, by omega, by omega, by go_num, hb5.trans (hb1.mono hb5.size), rdk.now hb1⟩ | ((repeat apply Exists.intro); exact ⟨⟨k + 3, by omega, by omega, by go_num, hb5.trans (hb1.mono hb5.size), rdk.now hb1⟩, rfl⟩)
                      case measure => simp [intOf]; omega
                    · go_wp2_with fail
                      go_roundw
                      case rel => first | exact ⟨m + 1, by omega, by omega, by go_num, hb5⟩ | ((repeat apply Exists.intro); exact ⟨⟨m + 1, by omega, by omega, by go_num, hb5⟩, rfl⟩)
                      case measure => simp [intOf]; omega
            · obtain rfl : n = 53 := by omega
              go_wp2_with fail
              obtain ⟨W, tg, hW, htg⟩ : ∃ (W : World) (tg : Nat), W = wc.alloc (.cells (ics .i64 odd7).toArray 3) ∧ tg = wc.heap.size := ⟨_, _, rfl, rfl⟩
              have rdT0 : Rd W W.heap.size (some ⟨tg, 0, none⟩) (ics .i64 odd7) := by rw [hW, htg]; exact Rd.built (ics .i64 odd7)
              have b1W : Below w.heap.size w W := by rw [hW]; exact hb3.alloc hb3.size _
              change Code.wp _ _ _ _ (wc.alloc (.cells (ics .i64 odd7).toArray 3))
              rw [← hW, ← htg]
              clear hW htg hb3
              go_loopw [128] (fun i wr => ∃ k : Nat, k ≤ 7 ∧ i = .int .i64 k ∧ Below w.heap.size w wr ∧ Rd wr wr.heap.size (some ⟨tg, 0, none⟩) (ics .i64 odd7)) (fun i _ => 7 - (intOf i).toNat)
              case atStart => exact ⟨0, by omega, rfl, b1W, rdT0⟩
              case round =>
                obtain ⟨k, hk, rfl, hb5, rdT⟩ := hrel
                clear b1W rdT0
                obtain ⟨we, rfl⟩ : ∃ we : World, we = wr := ⟨_, rfl⟩
                by_cases hlt : k < 7
                · obtain ⟨g', o', hgo, hltT, hcT⟩ := rdT.int (by simp [odd7])
                  simp only [Option.some.injEq, Addr.mk.injEq, and_true] at hgo
                  obtain ⟨rfl, rfl⟩ := hgo
                  have g0 : we.cell? ⟨tg, k, none⟩ = some (.int .i64 (odd7.getD k 0)) := by have := hcT k (by simpa [odd7] using hlt); rwa [Nat.zero_add] at this
                  obtain ⟨x1, x2⟩ := odd7_bd k hlt
                  generalize odd7.getD k 0 = x at *
                  clear hcT
                  have X1 := Lib.hid x1
                  have X2 := Lib.hid x2
                  clear x1 x2
                  go_wp2_with fail
                  refine (same_c (w0 := we) (n1 := 2) (n2 := 1) [1, 999999] [x] (two_lits we [1, 999999] [x]).1 (two_lits we [1, 999999] [x]).2 (by go_grown) rfl rfl (by decide) (by decide) X1.out X2.out).mono ?_
                  rintro e w1 ⟨rfl, hb1⟩
                  go_wp2_with fail
                  refine (same_c (w0 := we) (n1 := 2) (n2 := 1) [5, x] [7] (two_lits w1 [5, x] [7]).1 (two_lits w1 [5, x] [7]).2 ((hb1.alloc hb1.size _).alloc (hb1.alloc hb1.size _).size _) rfl rfl (by decide) (by decide) (by decide) (by decide)).mono ?_
                  clear hb1
                  rintro e w2 ⟨rfl, hb1⟩
                  go_wp2_with fail
                  refine (same_c (w0 := we) (n1 := 1) (n2 := 0) [x] [] (Rd.built (ics .i64 [x])) Rd.nil (hb1.alloc hb1.size _) rfl rfl (by decide) (by decide) X1.out X2.out).mono ?_
                  clear hb1
                  rintro e w3 ⟨rfl, hb1⟩
                  go_wp2_with fail
                  refine (same_c (w0 := we) (n1 := 0) (n2 := 0) [] [] Rd.nil Rd.nil hb1 rfl rfl (by decide) (by decide) X1.out X2.out).mono ?_
                  clear hb1
                  rintro e w4 ⟨rfl, hb1⟩
                  go_wp2_with fail
                  go_roundw
                  case rel => first | exact ⟨k + 1, by omega, by go_num, hb5.trans (hb1.mono hb5.size), rdT.now hb1⟩ | ((repeat apply Exists.intro); exact ⟨⟨k + 1, by omega, by go_num, hb5.trans (hb1.mono hb5.size), rdT.now hb1⟩, rfl⟩)
                  case measure => simp [intOf]; omega
                · obtain rfl : k = 7 := by omega
                  go_wp2_with fail
                  refine (awake_any _).mono ?_
                  rintro e w7 ⟨rfl, b7⟩
                  go_wp2_with fail
                  go_ret
                  exact ⟨rfl, hb5.trans (b7.mono hb5.size)⟩
end Go.Proofs.Ytknhdojciihjlaa
