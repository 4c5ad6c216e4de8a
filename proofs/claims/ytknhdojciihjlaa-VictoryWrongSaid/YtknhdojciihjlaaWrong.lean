import Derived.Test.YtknhdojciihjlaaAwake
import Derived.Test.YtknhdojciihjlaaScale
import Derived.Test.YtknhdojciihjlaaLaw
import Derived.Deep.DeepCutAuto
import Derived.Deep.CutBlock
namespace Go.Proofs.Ytknhdojciihjlaa
open Go.ChangeShapes Go.WideShapes Go.ChangeAt Go.RowKit

def lenV : Value → Nat
  | .slice _ n _ => n
  | _ => 0

/-- what the switch leaves: a slice that is no right scale -/
def Bad (w1 wx : World) (v : Value) : Prop :=
  ∃ (A : Option Addr) (n c : Nat) (xs : List Int), v = .slice A n c ∧ xs.length = n ∧ n ≤ 1000 ∧ RightB xs = false ∧ Rd wx wx.heap.size A (ics .i64 xs) ∧ Below w1.heap.size w1 wx

theorem right_num {A : Option Addr} {c n : Nat} {xs : List Int} {w : World} {r : Bool} (h : Rd w w.heap.size A (ics .i64 xs)) (hn : xs.length = n) (hr : RightB xs = r) :
    Calls Try.prog 14 #[.slice A n c] w fun e w' => e = .returned (.bool r) ∧ w = w' := by
  subst hn
  rw [← hr]
  exact right_any A c xs w h
theorem pts_bad {A : Option Addr} {c n : Nat} {xs : List Int} {m : Int} {w0 w : World} (h : Rd w0 w0.heap.size A (ics .i64 xs)) (hb : Below w0.heap.size w0 w) (hn : xs.length = n) (hk : RightB xs = false ∨ m < -1000000 ∨ 1000000 < m) :
    Calls Try.prog 10 #[.slice A n c, .int .i64 m] w fun e w' => e = .returned (.tuple #[.int .i64 0, .int .i64 0, .int .i64 2]) ∧ Below w0.heap.size w0 w' := by
  subst hn
  exact points_bad_b h hb hk
theorem mar_bad {A : Option Addr} {c n : Nat} {xs : List Int} {p : Int} {w0 w : World} (h : Rd w0 w0.heap.size A (ics .i64 xs)) (hb : Below w0.heap.size w0 w) (hn : xs.length = n) (hR : RightB xs = false) :
    Calls Try.prog 12 #[.slice A n c, .int .i64 p] w fun e w' => e = .returned (.tuple #[.int .i64 0, .int .i64 0, .int .i64 2]) ∧ w = w' := by
  subst hn
  exact margins_wrong A c xs p w (h.now hb) hR
theorem tot_bad {A B : Option Addr} {c d n m : Nat} {xs : List Int} {w0 w : World} (h : Rd w0 w0.heap.size A (ics .i64 xs)) (hb : Below w0.heap.size w0 w) (hn : xs.length = n) (hR : RightB xs = false) :
    Calls Try.prog 17 #[.slice A n c, .slice B m d] w fun e w' => e = .returned (.tuple #[.int .i64 0, .int .i64 0, .int .i64 2]) ∧ Below w.heap.size w w' := by
  subst hn
  have := total_wrong A B c d xs (List.replicate m 0) w (h.now hb) hR
  rwa [List.length_replicate] at this

set_option maxRecDepth 100000 in
set_option maxHeartbeats 4000000 in
theorem wrong_any (A : Option Addr) (c : Nat) (xs : List Int) (hh : Nat) (n : Int) (w : World) (hx : Rd w w.heap.size A (ics .u8 xs)) (hc : xs.length ≤ c) (hm : c ≤ maxLen) (hbd : ∀ x ∈ xs, 0 ≤ x ∧ x ≤ 255)
    (hhb : hh ≤ 255) (hn1 : -9223372036854775808 ≤ n) (hn2 : n ≤ 9223372036854775807) :
    Calls Try.prog 8 #[.slice A xs.length c, .int .u8 hh, .int .i64 n] w fun e w' => e = .returned (.bool true) ∧ Below w.heap.size w w' := by
  have HS := Lib.hid (scale_any A c xs w hx hc hm hbd)
  obtain ⟨hR, hl⟩ := scaleS_right xs hbd
  clear hx hc hm hbd
  generalize scaleS xs = s at *
  obtain ⟨l1, l2⟩ := RightB_len hR
  have HR := Lib.hid hR
  clear hR
  go_enter Try.func8, Try.ntmps8
  go_wp2_with fail
  refine HS.out.mono ?_
  rintro e w1 ⟨v, rfl, own⟩
  obtain ⟨A', c', rfl, hc', rd⟩ := own.rd
  have b0 := own.bel
  clear own HS
  go_upto_block 0 with (at_builtin; refine ap_many rfl (.tmp 32) (.tmp 33) 24 rfl eInt A' s.length c' (ics .i64 s) (Own.built w1 3 0 [] (Below.refl _ _) rfl (by omega)) rfl rfl (by simp) (rd.alloc _) (oneCells_ints _ _) (by omega) ?_; intro v2 w2 own2 hsz2; have own2' : Own w1 w2 3 1 v2 s.length (ics .i64 s) := (by simpa using own2); obtain ⟨g, cg, rfl, hcg, hg1, hg2, hcell, hfz⟩ := own2'.form (by omega))
  have hcl : w2.cell? ⟨g, s.length - 1, none⟩ = some (.int .i64 (s.getD (s.length - 1) 0)) := hcell _ _ (ics_get (by omega))
  have hc0 : w2.cell? ⟨g, 0, none⟩ = some (.int .i64 (s.getD 0 0)) := hcell _ _ (ics_get (by omega))
  have hf0 := hfz 0
  have hfl := hfz (s.length - 1)
  have hz : (0 : Int) < s.length := by omega
  have hz' : 0 < s.length := by omega
  have rdw := rd.now own2'.bel
  clear hcell hfz own2
  go_cut [8] (fun bad wx => Hid (Bad w1 wx bad))
  case first =>
    obtain hr | hr | hr | hr | hr : (hh : Int) % 5 = 0 ∨ (hh : Int) % 5 = 1 ∨ (hh : Int) % 5 = 2 ∨ (hh : Int) % 5 = 3 ∨ (hh : Int) % 5 = 4 := by omega
    · have t0 : ((hh : Int) % 5 == 0) = true := by rw [beq_iff_eq]; omega
      clear hr
      have HB := Lib.hid (RightB_twice s l1)
      generalize s.getD (s.length - 1) 0 = x at *
      go_wp2_with (at_builtin; refine ap_one rfl (.tmp 42) (.tmp 47) 24 rfl eInt [.int .i64 x] own2' rfl rfl rfl (by simp [Value.oneCell']) (by omega) ?_; intro v' w' hown' hsz)
      obtain ⟨A3, c3, rfl, hc3, rd3⟩ := hown'.rd
      go_meet
      exact ⟨A3, _, c3, s ++ [x], rfl, by simp, by omega, HB.out, by simpa [ics] using rd3, hown'.bel⟩
    · have t0 : ((hh : Int) % 5 == 0) = false := by rw [beq_eq_false_iff_ne]; omega
      have t1 : ((hh : Int) % 5 == 1) = true := by rw [beq_iff_eq]; omega
      clear hr
      go_wp2_with fail
      go_meet
      exact ⟨none, 0, 0, [], rfl, rfl, by omega, RightB_nil, Rd.nil, own2'.bel⟩
    · have t0 : ((hh : Int) % 5 == 0) = false := by rw [beq_eq_false_iff_ne]; omega
      have t1 : ((hh : Int) % 5 == 1) = false := by rw [beq_eq_false_iff_ne]; omega
      have t2 : ((hh : Int) % 5 == 2) = true := by rw [beq_iff_eq]; omega
      clear hr
      obtain ⟨m, hm⟩ : ∃ m, min n 0 = m := ⟨_, rfl⟩
      have HB := Lib.hid (RightB_head s m l1 (by omega))
      have HM := Lib.hid hm
      clear hm
      go_wp2_with ((with_reducible refine min_step _ _ .i64 n 0 m ?_ ?_ ?_ ?_); (exact rfl); (exact rfl); (exact HM.out))
      go_meet
      have hst := own2'.store 0 (.int .i64 m)
      obtain ⟨A3, c3, he, hc3, rd3⟩ := hst.rd
      injection he with e1 e2 e3
      subst e1
      exact ⟨_, s.length, cg, s.set 0 m, rfl, by simp, by omega, HB.out, by simpa [ics, List.map_set] using rd3, hst.bel⟩
    · have t0 : ((hh : Int) % 5 == 0) = false := by rw [beq_eq_false_iff_ne]; omega
      have t1 : ((hh : Int) % 5 == 1) = false := by rw [beq_eq_false_iff_ne]; omega
      have t2 : ((hh : Int) % 5 == 2) = false := by rw [beq_eq_false_iff_ne]; omega
      have t3 : ((hh : Int) % 5 == 3) = true := by rw [beq_iff_eq]; omega
      clear hr
      obtain ⟨m, hm⟩ : ∃ m, max n 1000001 = m := ⟨_, rfl⟩
      have HB := Lib.hid (RightB_tail s m l1 (by omega))
      have HM := Lib.hid hm
      clear hm
      go_wp2_with ((with_reducible refine max_step _ _ .i64 n 1000001 m ?_ ?_ ?_ ?_); (exact rfl); (exact rfl); (exact HM.out))
      go_meet
      have hst := own2'.store (s.length - 1) (.int .i64 m)
      obtain ⟨A3, c3, he, hc3, rd3⟩ := hst.rd
      injection he with e1 e2 e3
      subst e1
      exact ⟨_, s.length, cg, s.set (s.length - 1) m, rfl, by simp, by omega, HB.out, by simpa [ics, List.map_set] using rd3, hst.bel⟩
    · have t0 : ((hh : Int) % 5 == 0) = false := by rw [beq_eq_false_iff_ne]; omega
      have t1 : ((hh : Int) % 5 == 1) = false := by rw [beq_eq_false_iff_ne]; omega
      have t2 : ((hh : Int) % 5 == 2) = false := by rw [beq_eq_false_iff_ne]; omega
      have t3 : ((hh : Int) % 5 == 3) = false := by rw [beq_eq_false_iff_ne]; omega
      have t4 : ((hh : Int) % 5 == 4) = true := by rw [beq_iff_eq]; omega
      clear hr
      clear hcl hc0 hf0 hfl
      have hb0 := RightB_bd HR.out (s.length - 1) (by omega)
      go_wp2_with fail
      clear t0 t1 t2 t3 t4
      go_loopw [8] (fun bad wr => ∃ (k g c : Nat) (ys : List Int), bad = .slice (some ⟨g, 0, none⟩) k c ∧ ys.length = k ∧ 1 ≤ k ∧ k ≤ 51 ∧ 0 ≤ ys.getD (k - 1) 0 ∧ ys.getD (k - 1) 0 ≤ 13000 + k ∧ Own w1 wr 3 1 (.slice (some ⟨g, 0, none⟩) k c) k (ics .i64 ys)) (fun bad _ => 51 - lenV bad)
      case atStart => exact ⟨s.length, g, cg, s, rfl, rfl, l1, by omega, by omega, by omega, own2'⟩
      case round =>
        obtain ⟨k, g', c3, ys, rfl, hyl, hk1, hk2, hy1, hy2, own3⟩ := hrel
        obtain ⟨g3, c4, he, hc4, hg3, hg4, hcell, hfz⟩ := own3.form (by omega)
        injection he with e1 e2 e3
        injection e1 with e1
        injection e1 with e1
        subst e1
        have hyl' := Lib.hid hyl
        by_cases hlt : k ≤ 50
        · have hck : wr.cell? ⟨g', k - 1, none⟩ = some (.int .i64 (ys.getD (k - 1) 0)) := hcell _ _ (ics_get (by omega))
          clear hcell hfz hyl
          have hgd : Hid ((ys ++ [ys.getD (k - 1) 0 + 1]).getD (k + 1 - 1) 0 = ys.getD (k - 1) 0 + 1) := by
            show _ = _
            have := hyl'.out
            rw [List.getD_eq_getElem?_getD, List.getElem?_append_right (by omega)]
            simp [this]
          generalize ys.getD (k - 1) 0 = y at *
          go_wp2_with (at_builtin; refine ap_one rfl (.tmp 69) (.tmp 77) 24 rfl eInt [.int .i64 (y + 1)] own3 rfl rfl rfl (by simp [Value.oneCell']) (by omega) ?_; intro v' w' hown' hsz)
          obtain ⟨g5, c5, rfl, hc5, hg5, hg6, hcell5, hfz5⟩ := hown'.form (by omega)
          go_roundw
          case rel => exact ⟨k + 1, g5, c5, ys ++ [y + 1], rfl, by rw [List.length_append, hyl'.out]; rfl, by omega, by omega, by rw [hgd.out]; omega, by rw [hgd.out]; omega, by simpa [ics] using hown'⟩
          case measure => simp [lenV]; omega
        · obtain rfl : k = 51 := by omega
          clear hcell hfz hyl
          go_wp2_with fail
          obtain ⟨A3, c5, he, hc3, rd3⟩ := own3.rd
          injection he with e1 e2 e3
          subst e1
          go_meet
          exact ⟨_, 51, _, ys, rfl, hyl'.out, by omega, RightB_long _ (by have := hyl'.out; omega), rd3, own3.bel⟩
  case rest =>
    obtain ⟨AB, nb, cb, bs, rfl, hbl, hb1, hbR, rdb, bb⟩ := hcut.out
    have HBL := Lib.hid hbl
    have HBR := Lib.hid hbR
    have rs := rd.now bb
    clear hbl hbR rdw own2' hcl hc0 hf0 hfl
    go_wp2_with fail
    refine (pts_bad rdb (Below.refl _ _) HBL.out (.inl HBR.out)).mono ?_
    rintro e w3 ⟨rfl, b3⟩
    go_wp2_with fail
    refine (mar_bad rdb b3 HBL.out HBR.out).mono ?_
    rintro e w4 ⟨rfl, rfl⟩
    go_wp2_with fail
    refine (tot_bad (B := none) (d := 0) (m := 0) rdb b3 HBL.out HBR.out).mono ?_
    rintro e w5 ⟨rfl, b5⟩
    have b4 := b3.trans (b5.mono b3.size)
    go_wp2_with fail
    refine (right_num (rdb.now b4) HBL.out HBR.out).mono ?_
    rintro e w6 ⟨rfl, rfl⟩
    obtain ⟨m1, hm1⟩ : ∃ m, min n (-1000001) = m := ⟨_, rfl⟩
    obtain ⟨m2, hm2⟩ : ∃ m, max n 1000001 = m := ⟨_, rfl⟩
    have lm1 : m1 ≤ -1000001 := by omega
    have lm2 : 1000001 ≤ m2 := by omega
    have HM1 := Lib.hid hm1
    have HM2 := Lib.hid hm2
    clear hm1 hm2
    go_wp2_with (first
      | ((with_reducible refine min_step _ _ .i64 n (-1000001) m1 ?_ ?_ ?_ ?_); (exact rfl); (exact rfl); (exact HM1.out))
      | ((with_reducible refine max_step _ _ .i64 n 1000001 m2 ?_ ?_ ?_ ?_); (exact rfl); (exact rfl); (exact HM2.out)))
    obtain ⟨W, tg, hW, htg⟩ : ∃ (W : World) (tg : Nat), W = w5.alloc (.cells (ics .i64 [m1, m2]).toArray 3) ∧ tg = w5.heap.size := ⟨_, _, rfl, rfl⟩
    have rdT0 : Rd W W.heap.size (some ⟨tg, 0, none⟩) (ics .i64 [m1, m2]) := by rw [hW, htg]; exact Rd.built (ics .i64 [m1, m2])
    have rdS0 : Rd W W.heap.size A' (ics .i64 s) := by rw [hW]; exact (rs.now b4).alloc _
    have b1W : Below w1.heap.size w1 W := by
      rw [hW]
      have h1 := bb.trans (b4.mono bb.size)
      exact h1.alloc h1.size _
    change Code.wp _ _ _ _ (w5.alloc (.cells (ics .i64 [m1, m2]).toArray 3))
    rw [← hW, ← htg]
    clear hW htg b3 b4 b5 rs rdb bb
    go_loopw [141] (fun i wr => ∃ k : Nat, k ≤ 2 ∧ i = .int .i64 k ∧ Below w1.heap.size w1 wr ∧ Rd wr wr.heap.size A' (ics .i64 s) ∧ Rd wr wr.heap.size (some ⟨tg, 0, none⟩) (ics .i64 [m1, m2])) (fun i _ => 2 - (intOf i).toNat)
    case atStart => exact ⟨0, by omega, rfl, b1W, rdS0, rdT0⟩
    case round =>
      obtain ⟨k, hk, rfl, hbw, rdS, rdT⟩ := hrel
      by_cases hlt : k < 2
      · obtain ⟨g', o', hgo, hltT, hcT⟩ := rdT.int (by simp)
        simp only [Option.some.injEq, Addr.mk.injEq, and_true] at hgo
        obtain ⟨rfl, rfl⟩ := hgo
        have hx : ([m1, m2] : List Int).getD k 0 < -1000000 ∨ 1000000 < ([m1, m2] : List Int).getD k 0 := by
          obtain rfl | rfl : k = 0 ∨ k = 1 := by omega
          · left; simp; omega
          · right; simp; omega
        have g0 : wr.cell? ⟨tg, k, none⟩ = some (.int .i64 (([m1, m2] : List Int).getD k 0)) := by have := hcT k (by simpa using hlt); rwa [Nat.zero_add] at this
        generalize ([m1, m2] : List Int).getD k 0 = x at *
        have HX := Lib.hid hx
        have hnok : ¬ ([1, x, 2] : List Int).all mOk = true := by
          simp [mOk]; omega
        have HNOK := Lib.hid hnok
        clear hcT hx hnok
        go_wp2_with fail
        refine (points_bad_b rdS (Below.refl _ _) (.inr HX.out)).mono ?_
        rintro e w6 ⟨rfl, b6⟩
        go_wp2_with fail
        have HTot := total_any A' (some ⟨w6.heap.size, 0, none⟩) c' 3 s [1, x, 2] (w6.alloc (.cells (ics .i64 [1, x, 2]).toArray 3)) ((rdS.now b6).alloc _) (Rd.built (ics .i64 [1, x, 2])) HR.out (by simp)
        rw [totRes_bad HNOK.out] at HTot
        refine Calls.mono HTot ?_
        clear HTot
        rintro e w7 ⟨rfl, b7⟩
        have b8 : Below wr.heap.size wr w7 := (b6.alloc b6.size _).trans (b7.mono (b6.alloc b6.size _).size)
        go_wp2_with fail
        go_roundw
        case rel => first | exact ⟨k + 1, by omega, by go_num, hbw.trans (b8.mono hbw.size), rdS.now b8, rdT.now b8⟩ | ((repeat apply Exists.intro); exact ⟨⟨k + 1, by omega, by go_num, hbw.trans (b8.mono hbw.size), rdS.now b8, rdT.now b8⟩, rfl⟩)
        case measure => simp [intOf]; omega
      · obtain rfl : k = 2 := by omega
        obtain ⟨m3, hm3⟩ : ∃ m, min n (-1) = m := ⟨_, rfl⟩
        obtain ⟨m4, hm4⟩ : ∃ m, max n (2 * (s.length : Int) + 1) = m := ⟨_, rfl⟩
        obtain ⟨m5, hm5⟩ : ∃ m, min n 0 = m := ⟨_, rfl⟩
        obtain ⟨m6, hm6⟩ : ∃ m, max n 129 = m := ⟨_, rfl⟩
        have lm3 : m3 ≤ -1 := by omega
        have lm4 : 2 * (s.length : Int) + 1 ≤ m4 := by omega
        have lm5 : m5 ≤ 0 := by omega
        have lm6 : 129 ≤ m6 := by omega
        have HM3 := Lib.hid hm3
        have HM4 := Lib.hid hm4
        have HM5 := Lib.hid hm5
        have HM6 := Lib.hid hm6
        clear hm3 hm4 hm5 hm6
        go_wp2_with ((with_reducible refine min_step _ _ .i64 n (-1) m3 ?_ ?_ ?_ ?_); (exact rfl); (exact rfl); (exact HM3.out))
        refine (margins_none A' c' s m3 _ rdS HR.out (by omega)).mono ?_
        rintro e w6 ⟨rfl, rfl⟩
        go_wp2_with ((with_reducible refine max_step _ _ .i64 n (2 * (s.length : Int) + 1) m4 ?_ ?_ ?_ ?_); (exact rfl); (exact rfl); (exact HM4.out))
        refine (margins_none A' c' s m4 _ rdS HR.out (by omega)).mono ?_
        rintro e w6 ⟨rfl, rfl⟩
        go_wp2_with ((with_reducible refine min_step _ _ .i64 n 0 m5 ?_ ?_ ?_ ?_); (exact rfl); (exact rfl); (exact HM5.out))
        refine (usual_bad m5 _ (by omega)).mono ?_
        rintro e w6 ⟨rfl, rfl⟩
        go_wp2_with ((with_reducible refine max_step _ _ .i64 n 129 m6 ?_ ?_ ?_ ?_); (exact rfl); (exact rfl); (exact HM6.out))
        refine (usual_bad m6 _ (by omega)).mono ?_
        rintro e w6 ⟨rfl, rfl⟩
        go_wp2_with fail
        refine (awake_any _).mono ?_
        rintro e w7 ⟨rfl, b7⟩
        go_wp2_with fail
        go_ret
        exact ⟨rfl, b0.trans ((hbw.trans (b7.mono hbw.size)).mono b0.size)⟩
end Go.Proofs.Ytknhdojciihjlaa
