import Derived.Test.YtandanbojfdfjaaDoorKeeps
import Derived.Test.YtandanbojfdfjaaDoorLog2
namespace Go.Proofs.YtandanbojfdfjaaDoor
open Go.ChangeShapes Go.WideShapes Go.ChangeAt Go.RowKit

theorem bcs_get {b : Bs} {i : Nat} (h : i < b.length) : (bcs b)[i]? = some (.int .u8 ((b.getD i 0).toNat : Int)) := by simp [h]
theorem Rd.byte {w : World} {B : Nat} {A : Option Addr} {b : Bs} (h : Rd w B A (bcs b)) (h0 : 0 < b.length) :
    ∃ k o, A = some ⟨k, o, none⟩ ∧ k < B ∧ ∀ i, i < b.length → w.cell? ⟨k, o + i, none⟩ = some (.int .u8 ((b.getD i 0).toNat : Int)) := by
  obtain ⟨k, o, e, hlt, hc⟩ := h (by simpa using h0)
  exact ⟨k, o, e, hlt, fun i hi => hc i _ (bcs_get hi)⟩
theorem bcs_set (b : Bs) (n : Nat) (c : UInt8) : (bcs b).set n (.int .u8 (c.toNat : Int)) = bcs (b.set n c) := by
  rw [bcs, bcs, List.map_set]

set_option maxRecDepth 100000 in
set_option maxHeartbeats 4000000 in
theorem one_any (A : Option Addr) (c n0 at_ : Nat) (dd : UInt8) (xs : List Bs) (w : World) (hr : Rd w w.heap.size A (scs xs)) (hn : xs.length = n0) (hc : n0 ≤ c) (hm : n0 ≤ maxLen) (hs : ∀ x ∈ xs, x.length ≤ maxLen) (ha : at_ < 65536) (hT : Tb w) :
    Calls Tryd.prog 9 #[.slice A n0 c, .int .u16 at_, .int .u8 (dd.toNat : Int)] w fun e w' => e = .returned (.bool true) ∧ Below w.heap.size w w' := by
  have HT := Lib.hid hT
  have HX := Lib.hid (texts_any A c n0 xs w hr hn hc hm hs)
  have HF := Lib.hid (few_out xs)
  have hdd : dd.toNat < 256 := dd.toNat_lt
  clear hr hn hc hm hs hT
  generalize outT xs = l at *
  have HAw := fun (W : World) (b : Below w.heap.size w W) => Lib.hid (awake_any W (HT.out.below b HT.out.lt))
  go_enter Tryd.func9, Tryd.ntmps9
  go_wp2_with fail
  refine HX.out.mono ?_
  rintro e w1 ⟨v, rfl, hrow, hb1⟩
  obtain ⟨A1, c1, rfl, hc1, hrd1, _⟩ := row_rd hrow
  have HB1 := Lib.hid hb1
  have HR1 := Lib.hid hrd1
  have hz : l.length ≤ 20 := HF.out.num
  clear HX hrow hb1 hrd1
  go_wp2_with fail
  refine (written_any A1 c1 l.length l w1 HR1.out rfl hc1 HF.out (HT.out.below HB1.out HT.out.lt)).mono ?_
  rintro e w2 ⟨vb, u, rfl, hby, hen, hb2⟩
  obtain ⟨A2, c2, rfl, hr2, hc2, _⟩ := hby.form
  obtain ⟨A3, c3, rfl, hc3, hr3, _⟩ := row_rd hen
  have HB2 := Lib.hid (HB1.out.trans (hb2.mono HB1.out.size))
  have HR2 := Lib.hid hr2
  have HR3 := Lib.hid hr3
  have HRl := Lib.hid (HR1.out.keep hb2 hb2.size)
  clear hby hen hb2 hr2 hr3 HR1 HB1
  have hlog := HF.out.log
  obtain ⟨N, hN⟩ : ∃ N, (logB 1 l).length = N := ⟨_, rfl⟩
  rw [hN] at hc2 hlog ⊢
  by_cases hN0 : N = 0
  · have hN0' : ((N : Int) == 0) = true := by rw [beq_iff_eq]; omega
    clear hN0
    go_wp2_with fail
    refine (HAw w2 HB2.out).out.mono ?_
    rintro e w3 ⟨rfl, b3⟩
    have HB3 := Lib.hid (HB2.out.trans (b3.mono HB2.out.size))
    clear b3
    go_wp2_with fail
    go_ret
    exact ⟨rfl, HB3.out⟩
  obtain ⟨n, hnn⟩ : ∃ n, at_ % N = n := ⟨_, rfl⟩
  have hnN : n < N := by rw [← hnn]; exact Nat.mod_lt _ (by omega)
  have hni : ((at_ : Int) % (N : Int)) = (n : Int) := by subst hnn; simp
  obtain ⟨kb, ob, rfl, hkb, hcb⟩ := HR2.out.byte (by omega)
  have gb := hcb n (by omega)
  have HNN := Lib.hid hN
  clear hN hnn hcb
  obtain ⟨ch, hch⟩ : ∃ ch, (logB 1 l).getD n 0 = ch := ⟨_, rfl⟩
  rw [hch] at gb
  have hch2 : ch.toNat < 256 := ch.toNat_lt
  by_cases q1 : ch.toNat = 10
  · have e1 : ((ch.toNat : Int) == 10) = true := by rw [beq_iff_eq]; omega
    clear q1
    clear hch
    generalize dd.toNat = d at *
    generalize ch.toNat = x at *
    go_wp2_with fail
    refine (HAw w2 HB2.out).out.mono ?_
    rintro e w3 ⟨rfl, b3⟩
    have HB3 := Lib.hid (HB2.out.trans (b3.mono HB2.out.size))
    clear b3
    go_wp2_with fail
    go_ret
    exact ⟨rfl, HB3.out⟩
  have e1 : ((ch.toNat : Int) == 10) = false := by rw [beq_eq_false_iff_ne]; omega
  by_cases q2 : dd.toNat = 10
  · have e2 : ((dd.toNat : Int) == 10) = true := by rw [beq_iff_eq]; omega
    clear q1 q2
    clear hch
    generalize dd.toNat = d at *
    generalize ch.toNat = x at *
    go_wp2_with fail
    refine (HAw w2 HB2.out).out.mono ?_
    rintro e w3 ⟨rfl, b3⟩
    have HB3 := Lib.hid (HB2.out.trans (b3.mono HB2.out.size))
    clear b3
    go_wp2_with fail
    go_ret
    exact ⟨rfl, HB3.out⟩
  have e2 : ((dd.toNat : Int) == 10) = false := by rw [beq_eq_false_iff_ne]; omega
  by_cases q3 : dd.toNat = ch.toNat
  · have e3 : ((dd.toNat : Int) == (ch.toNat : Int)) = true := by rw [beq_iff_eq]; omega
    clear q1 q2 q3
    clear hch
    generalize dd.toNat = d at *
    generalize ch.toNat = x at *
    go_wp2_with fail
    refine (HAw w2 HB2.out).out.mono ?_
    rintro e w3 ⟨rfl, b3⟩
    have HB3 := Lib.hid (HB2.out.trans (b3.mono HB2.out.size))
    clear b3
    go_wp2_with fail
    go_ret
    exact ⟨rfl, HB3.out⟩
  have e3 : ((dd.toNat : Int) == (ch.toNat : Int)) = false := by rw [beq_eq_false_iff_ne]; omega
  have HQ := Lib.hid (show (logB 1 l).getD n 0 ≠ 10 ∧ dd ≠ 10 ∧ (logB 1 l).getD n 0 ≠ dd from by
    rw [hch]
    exact ⟨fun h => q1 (by rw [h]; rfl), fun h => q2 (by rw [h]; rfl), fun h => q3 (by rw [h])⟩)
  have HSet := Lib.hid (bcs_set (logB 1 l) n dd)
  clear q1 q2 q3 hch
  generalize dd.toNat = d at *
  generalize ch.toNat = x at *
  go_wp2_with (at_builtin; refine ap_many rfl (.tmp 62) (.tmp 63) 26 rfl eByte (some ⟨kb, ob, none⟩) N c2 (bcs (logB 1 l)) (Own.built w2 5 0 [] (Below.refl _ _) rfl (by omega)) rfl rfl (by rw [Nat.mul_one, List.length_map]; exact HNN.out) (HR2.out.alloc _) (oneCells_bcs _) (by omega) ?_; intro v3 w3 own3 hsz3)
  have hz3 : 0 + N = N := by omega
  rw [hz3, List.nil_append] at own3
  obtain ⟨g, c4, rfl, hc4, hg1, hg2, hgc, hgf⟩ := own3.form (by omega)
  obtain ⟨u3, g3⟩ : ∃ u, w3.cell? ⟨g, n, none⟩ = some u := ⟨_, hgc n _ (by rw [List.getElem?_eq_getElem (by rw [List.length_map, HNN.out]; omega)])⟩
  have f3 := hgf n
  have HO3 := Lib.hid own3
  have HSt := Lib.hid (own3.store n (.int .u8 d))
  rw [HSet.out] at HSt
  clear own3 hgc hgf hsz3 hz3 HSet
  go_wp2_with fail
  simp [go_sem, *]
  go_wp2_with fail
  have HB4 := Lib.hid (HB2.out.trans (HSt.out.bel.mono HB2.out.size))
  have HBa := Lib.hid HSt.out.bel
  generalize w3.setCell ⟨g, n, none⟩ (.int .u8 d) = w4 at *
  have HR4 := Lib.hid (HR3.out.keep HBa.out HBa.out.size)
  have HRl4 := Lib.hid (HRl.out.keep HBa.out HBa.out.size)
  clear g3 f3 HO3 HR3 HRl HR2 gb hkb e1 e2 e3 hg1 hg2
  go_loopw [11, 12, 71] (fun u v i wr => ∃ k j : Nat, k ≤ l.length ∧ i = .int .i64 k ∧ u = .int .i64 j ∧ v = .int .i64 (lenN l j) ∧ Hid (Upto l n k j) ∧ wr = w4) (fun _ _ i _ => l.length - (intOf i).toNat)
  case atStart => exact ⟨0, 0, Nat.zero_le _, rfl, rfl, rfl, Lib.hid (Upto.zero l n), rfl⟩
  case round =>
    obtain ⟨k, j, hk, rfl, rfl, rfl, hU, rfl⟩ := hrel
    by_cases hlt : k < l.length
    · obtain ⟨b1, o1, rfl, hb1, hc1⟩ := HR4.out.int (by rw [endsN_len]; omega)
      have g1 := hc1 k (by rw [endsN_len]; omega)
      rw [endsN_get hlt] at g1
      clear hc1
      by_cases hle : lenN l (k + 1) ≤ n
      · have HU2 := Lib.hid (hU.out.take hle)
        go_wp2_with fail
        go_roundw
        case rel => exact ⟨k + 1, k + 1, by omega, by go_num, by go_num, rfl, HU2, trivial⟩
        case measure => simp [intOf]; omega
      · have HU2 := Lib.hid (hU.out.leave (by omega))
        go_wp2_with fail
        go_roundw
        case rel => exact ⟨k + 1, j, by omega, by go_num, rfl, rfl, HU2, trivial⟩
        case measure => simp [intOf]; omega
    · obtain rfl : k = l.length := by omega
      have hjl : j ≤ l.length := hU.out.1
      obtain ⟨hpre, hsc⟩ := one_scan HF.out.okr (by rw [HNN.out]; exact hnN) hU.out HQ.out.1 HQ.out.2.1 HQ.out.2.2
      have hbl : ((logB 1 l).set n dd).length = N := by rw [List.length_set, HNN.out]
      have hsz : (St.zero.adds (l.take j)).size = lenN l j := by rw [adds_size]; simp [St.zero, lenN]
      have htk : ((logB 1 l).set n dd).take (lenN l j) = logB 1 (l.take j) := by
        obtain ⟨r, hr⟩ := hpre
        rw [hr, show lenN l j = (logB 1 (l.take j)).length from rfl, List.take_left]
      have hqN : lenN l j ≤ N := by rw [← HNN.out]; exact lenN_le l j
      have hby : By wr (.slice (some ⟨g, 0, none⟩) N c4) ((logB 1 l).set n dd) := By.row (base := w2.heap.size) (by rw [hbl]; exact HSt.out.row)
      have hop := fun p => one_open hsc (by omega) p
      have hrp := one_repair hsc (by omega)
      have hjt : (l.take j).length = j := by rw [List.length_take]; omega
      have HFj := Lib.hid (HF.out.take j)
      have hS := scan_num (some ⟨g, 0, none⟩) c4 N ((logB 1 l).set n dd) (l.take j) (lenN l j) 2 wr wr (by
        obtain ⟨A', c', e, h, _⟩ := hby.form
        rw [hbl] at e
        obtain ⟨rfl, _⟩ : some ⟨g, 0, none⟩ = A' ∧ c4 = c' := by simpa using e
        exact h) hc4 (by omega) hbl (HT.out.below HB4.out HT.out.lt) (Below.refl _ _) (by rw [hsc]; exact ⟨HFj.out.recs, hsz, rfl⟩)
      rw [hjt] at hS
      rw [hsz, htk, hbl] at hrp
      have HS := Lib.hid hS
      have HOp := Lib.hid hop
      have HRp := Lib.hid hrp
      have HBy := Lib.hid hby
      have HBL := Lib.hid hbl
      have HJT := Lib.hid hjt
      have hq1320 : lenN l j ≤ 1320 := by omega
      have hOW := fun p => open_whole HFj.out p
      have HLj : Hid ((logB 1 (l.take j)).length = lenN l j) := Lib.hid rfl
      clear hU hpre hsc hbl hsz htk hby hop hrp hS hjt HSt HQ
      generalize (logB 1 l).set n dd = b' at *
      generalize lenN l j = q at *
      have hSame := fun (a5 : Option Addr) (c5 : Nat) (W : World) (h5 : Rd W W.heap.size a5 (scs (l.take j))) (hbl : Below wr.heap.size wr W) => Lib.hid (same_num (c := c5) (d := c1) (xs := l.take j) (ys := l.take j) (n := j) (m := j) (r := true) h5 (by have := (HRl4.out.keep hbl hbl.size).take j; rwa [← List.map_take] at this) hbl HJT.out HJT.out (by omega) (by omega) (by simp))
      go_wp2_with fail
      refine HS.out.mono ?_
      rintro e w5 ⟨a5, c5, rfl, _, h5, hb5⟩
      have HSm := hSame a5 c5 w5 h5 hb5
      clear HS h5
      go_wp2_with fail
      refine HSm.out.mono ?_
      rintro e w6 ⟨rfl, _, hb6⟩
      have HB6 := Lib.hid hb6
      clear HSm hb5 hb6
      go_wp2_with fail
      have HB6' := Lib.hid (HB4.out.trans (HB6.out.mono HB4.out.size))
      have hba : Below wr.heap.size wr (w6.alloc (.cells #[.slice (some ⟨g, 0, none⟩) N c4, .int .i64 1] 28)) := HB6.out.trans ((below_alloc _ _).mono HB6.out.size)
      have HT6 := Lib.hid (HT.out.below HB6'.out HT.out.lt)
      have HO1 : Hid _ := Lib.hid (open_any w6.heap.size b' 1 (w6.alloc (.cells #[.slice (some ⟨g, 0, none⟩) N c4, .int .i64 1] 28)) ⟨_, Blk.new _ _ _, HBy.out.below hba⟩ (by have := HBL.out; omega) (by decide) (by decide) (HT6.out.below (below_alloc _ _) HT6.out.lt))
      rw [HOp.out 1] at HO1
      clear hSame
      refine HO1.out.mono ?_
      rintro e w7 ⟨hd7, hk7, rfl⟩
      have HB7 := Lib.hid (hk7.below (below_alloc _ _) (fun k e => by omega))
      have HR7 : Hid _ := Lib.hid (repair_any w6.heap.size b' 1 w7 hd7 (by have := HBL.out; omega) (by decide) (by decide) (HT6.out.below HB7.out HT6.out.lt))
      rw [HRp.out] at HR7
      clear HO1 hd7 hk7 hba
      go_wp2_with fail
      refine HR7.out.mono ?_
      rintro e w8 ⟨rfl, hd8, hk8⟩
      have HB8 := Lib.hid (hk8.below HB7.out (fun k e => by omega))
      have HO2 : Hid _ := Lib.hid (open_any w6.heap.size (logB 1 (l.take j)) 0 w8 hd8 (by rw [HLj.out]; omega) (by decide) (by decide) (HT6.out.below HB8.out HT6.out.lt))
      rw [hOW 0] at HO2
      clear hd8 hk8 HR7
      go_wp2_with fail
      refine HO2.out.mono ?_
      intro e w9 ho
      obtain ⟨L, rfl, h9, _⟩ := Sys.of_open HB8.out (Nat.le_refl _) ho
      have h8 := h9.below (w' := w9.drew) ((Below.refl _ _).drew)
      have HS9 := Lib.hid h8
      clear ho HO2 h9 h8
      go_wp2_with fail
      obtain ⟨_, _, _, g9, _⟩ := HS9.out.disk.bytes
      have HQ := HS9.out.records (by rw [HFj.out.recs, HJT.out]; omega)
      rw [HFj.out.recs, HJT.out] at HQ
      have HQ' := Lib.hid HQ
      have hjc : j ≤ c1 := by omega
      have HSm := fun (W : World) (a8 : Option Addr) (c8 : Nat) (h8 : Rd W W.heap.size a8 (scs (l.take j))) (hb : Below w9.drew.heap.size w9.drew W) => Lib.hid (same_num (c := c8) (d := c1) (xs := l.take j) (ys := l.take j) (n := j) (m := j) (r := true) (B := A1) h8 (by
        have hb0 := HB6.out.trans (HS9.out.bel.mono HB6.out.size)
        have h := (HRl4.out.keep (hb0.trans (hb.mono hb0.size)) (Nat.le_trans hb0.size hb.size)).take j
        rwa [← List.map_take] at h) (Below.refl _ _) HJT.out HJT.out (by omega) (by omega) (by simp))
      have B9 := Lib.hid (HB6'.out.trans (HS9.out.bel.mono HB6'.out.size))
      have hsub : IntKind.i64.wrap ((N : Int) - (q : Int)) = (N : Int) - (q : Int) := IntWalk.i64_in _ (by omega)
      have hcut : (((N - q : Nat) : Int) == (N : Int) - (q : Int)) = true := by rw [beq_iff_eq]; omega
      clear HQ
      refine wp_region_any (by kernel_rfl) ?_
      change wpAny _ _ _ _ _ _ _ (World.drew _)
      refine any_pure 0 (o := ⟨some 122, Op.move (Operand.tmp 19), 29, "outright.go:133", #[], none⟩) (.pointer none) (by kernel_rfl) rfl (by kernel_rfl) (by kernel_rfl) ?_
      refine any_pure 1 (o := ⟨some 123, Op.binOp BinOp.eql 29 (Operand.tmp 122) (Operand.const (Value.pointer none)) 29, 4, "outright.go:133", #[⟨0, .data⟩], none⟩) (.bool true) (by kernel_rfl) rfl (by kernel_rfl) (by kernel_rfl) ?_
      refine any_pure 2 (o := ⟨some 124, Op.move (Operand.tmp 123), 4, "outright.go:133", #[⟨1, .data⟩], none⟩) (.bool true) (by kernel_rfl) rfl (by kernel_rfl) (by kernel_rfl) ?_
      refine any_pure 3 (o := ⟨some 125, Op.move (Operand.tmp 20), 30, "outright.go:133", #[⟨2, .guard⟩], some (2, true)⟩) (.int .i64 421) (by kernel_rfl) rfl (by kernel_rfl) (by kernel_rfl) ?_
      refine any_pure 4 (o := ⟨some 126, Op.binOp BinOp.eql 30 (Operand.tmp 125) (Operand.const (Value.int IntKind.i64 421)) 30, 4, "outright.go:133", #[⟨3, .data⟩, ⟨2, .guard⟩], some (2, true)⟩) (.bool true) (by kernel_rfl) rfl (by kernel_rfl) (by kernel_rfl) ?_
      refine any_pure 5 (o := ⟨some 127, Op.pick (Operand.tmp 124) (Operand.tmp 126) (Operand.const (Value.bool false)), 4, "outright.go:133", #[⟨2, .data⟩, ⟨4, .data⟩], none⟩) (.bool true) (by kernel_rfl) rfl (by kernel_rfl) (by kernel_rfl) ?_
      refine any_pure 6 (o := ⟨some 128, Op.move (Operand.tmp 127), 4, "outright.go:133", #[⟨5, .data⟩, ⟨2, .chain⟩], none⟩) (.bool true) (by kernel_rfl) rfl (by kernel_rfl) (by kernel_rfl) ?_
      refine wpAny_take (i := 7) (oi := ⟨some 129, Op.move (Operand.tmp 21), 3, "outright.go:133", #[⟨6, .guard⟩], some (6, true)⟩) (v := (.int .i64 ((N - q : Nat) : Int))) rfl (by kernel_rfl) (by kernel_rfl) (by kernel_rfl) (fun _ _ _ h => h) (Or.inl ⟨by kernel_rfl, fun _ => (by kernel_rfl)⟩) ?_
      refine wpAny_take (i := 8) (oi := ⟨some 130, Op.move (Operand.tmp 7), 26, "outright.go:133", #[⟨6, .guard⟩], some (6, true)⟩) (v := (.slice (some ⟨g, 0, none⟩) N c4)) rfl (by kernel_rfl) (by kernel_rfl) (by kernel_rfl) (fun _ _ _ h => h) (Or.inl ⟨by kernel_rfl, fun _ => (by kernel_rfl)⟩) ?_
      refine wpAny_take (i := 9) (oi := ⟨some 131, Op.call { callee := Callee.builtin Builtin.len, args := #[Operand.tmp 130], argTypes := #[26] }, 3, "outright.go:133", #[⟨8, .data⟩, ⟨6, .guard⟩], some (6, true)⟩) (v := (.int .i64 (N : Int))) rfl (by kernel_rfl) (by kernel_rfl) (by kernel_rfl) (fun _ _ _ h => h) (Or.inl ⟨by kernel_rfl, fun _ => (by kernel_rfl)⟩) ?_
      refine any_pure 10 (o := ⟨some 132, Op.move (Operand.tmp 12), 3, "outright.go:133", #[⟨6, .guard⟩], some (6, true)⟩) (.int .i64 (q : Int)) (by kernel_rfl) rfl (by kernel_rfl) (by kernel_rfl) ?_
      refine any_pure 11 (o := ⟨some 133, Op.binOp BinOp.sub 3 (Operand.tmp 131) (Operand.tmp 132) 3, 3, "outright.go:133", #[⟨9, .data⟩, ⟨10, .data⟩, ⟨6, .guard⟩], some (6, true)⟩) (.int .i64 ((N : Int) - (q : Int))) (by kernel_rfl) rfl (by kernel_rfl) (ex_bin rfl (by kernel_rfl) (by kernel_rfl) (by kernel_rfl) (bin_sub_int 3 N q _ _ hsub)) ?_
      refine any_pure 12 (o := ⟨some 134, Op.binOp BinOp.eql 3 (Operand.tmp 129) (Operand.tmp 133) 3, 4, "outright.go:133", #[⟨7, .data⟩, ⟨11, .data⟩, ⟨6, .guard⟩], some (6, true)⟩) (.bool true) (by kernel_rfl) rfl (by kernel_rfl) (ex_bin rfl (by kernel_rfl) (by kernel_rfl) (by kernel_rfl) (bin_eql_int 3 _ _ _ true hcut)) ?_
      refine any_pure 13 (o := ⟨some 135, Op.pick (Operand.tmp 128) (Operand.tmp 134) (Operand.const (Value.bool false)), 4, "outright.go:133", #[⟨6, .data⟩, ⟨12, .data⟩], none⟩) (.bool true) (by kernel_rfl) rfl (by kernel_rfl) (by kernel_rfl) ?_
      refine any_pure 14 (o := ⟨some 136, Op.move (Operand.tmp 135), 4, "outright.go:133", #[⟨13, .data⟩, ⟨6, .chain⟩], none⟩) (.bool true) (by kernel_rfl) rfl (by kernel_rfl) (by kernel_rfl) ?_
      refine any_pure 15 (o := ⟨some 137, Op.move (Operand.tmp 22), 30, "outright.go:133", #[⟨14, .guard⟩], some (14, true)⟩) (.int .i64 0) (by kernel_rfl) rfl (by kernel_rfl) (by kernel_rfl) ?_
      refine any_pure 16 (o := ⟨some 138, Op.binOp BinOp.eql 30 (Operand.tmp 137) (Operand.const (Value.int IntKind.i64 0)) 30, 4, "outright.go:133", #[⟨15, .data⟩, ⟨14, .guard⟩], some (14, true)⟩) (.bool true) (by kernel_rfl) rfl (by kernel_rfl) (by kernel_rfl) ?_
      refine any_pure 17 (o := ⟨some 139, Op.pick (Operand.tmp 136) (Operand.tmp 138) (Operand.const (Value.bool false)), 4, "outright.go:133", #[⟨14, .data⟩, ⟨16, .data⟩], none⟩) (.bool true) (by kernel_rfl) rfl (by kernel_rfl) (by kernel_rfl) ?_
      refine any_pure 18 (o := ⟨some 140, Op.move (Operand.tmp 139), 4, "outright.go:133", #[⟨17, .data⟩, ⟨14, .chain⟩], none⟩) (.bool true) (by kernel_rfl) rfl (by kernel_rfl) (by kernel_rfl) ?_
      refine any_pure 19 (o := ⟨some 141, Op.move (Operand.tmp 18), 25, "outright.go:133", #[⟨18, .guard⟩], some (18, true)⟩) (.pointer (some ⟨w6.heap.size, 0, none⟩)) (by kernel_rfl) rfl (by kernel_rfl) (by kernel_rfl) ?_
      refine any_pure 20 (o := ⟨some 142, Op.nilCheck (Operand.tmp 141), 0, "outright.go:133", #[⟨19, .data⟩, ⟨18, .guard⟩], some (18, true)⟩) (.pointer (some ⟨w6.heap.size, 0, none⟩)) (by kernel_rfl) rfl (by kernel_rfl) (by kernel_rfl) ?_
      refine any_pure 21 (o := ⟨some 143, Op.fieldAddr 28 (Operand.tmp 142) 1, 0, "outright.go:133", #[⟨20, .data⟩, ⟨18, .guard⟩], some (18, true)⟩) (.pointer (some ⟨w6.heap.size, 1, none⟩)) (by kernel_rfl) rfl (by kernel_rfl) (by kernel_rfl) ?_
      refine any_load 22 (o := ⟨some 144, Op.load 3 (Operand.tmp 143), 3, "outright.go:133", #[⟨21, .data⟩, ⟨18, .guard⟩], some (18, true)⟩) _ _ (.int .i64 0) (by kernel_rfl) rfl (by kernel_rfl) rfl (by kernel_rfl) (by kernel_rfl) g9 ?_
      refine any_pure 23 (o := ⟨some 145, Op.binOp BinOp.eql 3 (Operand.tmp 144) (Operand.const (Value.int IntKind.i64 0)) 3, 4, "outright.go:133", #[⟨22, .data⟩, ⟨18, .guard⟩], some (18, true)⟩) (.bool true) (by kernel_rfl) rfl (by kernel_rfl) (by kernel_rfl) ?_
      refine any_pure 24 (o := ⟨some 146, Op.pick (Operand.tmp 140) (Operand.tmp 145) (Operand.const (Value.bool false)), 4, "outright.go:133", #[⟨18, .data⟩, ⟨23, .data⟩], none⟩) (.bool true) (by kernel_rfl) rfl (by kernel_rfl) (by kernel_rfl) ?_
      refine any_pure 25 (o := ⟨some 147, Op.move (Operand.tmp 146), 4, "outright.go:133", #[⟨24, .data⟩, ⟨18, .chain⟩], none⟩) (.bool true) (by kernel_rfl) rfl (by kernel_rfl) (by kernel_rfl) ?_
      refine any_pure 26 (o := ⟨some 148, Op.move (Operand.tmp 24), 30, "outright.go:133", #[⟨25, .guard⟩], some (25, true)⟩) (.int .i64 0) (by kernel_rfl) rfl (by kernel_rfl) (by kernel_rfl) ?_
      refine any_pure 27 (o := ⟨some 149, Op.binOp BinOp.eql 30 (Operand.tmp 148) (Operand.const (Value.int IntKind.i64 0)) 30, 4, "outright.go:133", #[⟨26, .data⟩, ⟨25, .guard⟩], some (25, true)⟩) (.bool true) (by kernel_rfl) rfl (by kernel_rfl) (by kernel_rfl) ?_
      refine any_pure 28 (o := ⟨some 150, Op.pick (Operand.tmp 147) (Operand.tmp 149) (Operand.const (Value.bool false)), 4, "outright.go:133", #[⟨25, .data⟩, ⟨27, .data⟩], none⟩) (.bool true) (by kernel_rfl) rfl (by kernel_rfl) (by kernel_rfl) ?_
      refine any_pure 29 (o := ⟨some 151, Op.move (Operand.tmp 150), 4, "outright.go:133", #[⟨28, .data⟩, ⟨25, .chain⟩], none⟩) (.bool true) (by kernel_rfl) rfl (by kernel_rfl) (by kernel_rfl) ?_
      refine any_pure 30 (o := ⟨some 152, Op.move (Operand.tmp 23), 29, "outright.go:133", #[⟨29, .guard⟩], some (29, true)⟩) (.pointer (some ⟨L, 0, none⟩)) (by kernel_rfl) rfl (by kernel_rfl) (by kernel_rfl) ?_
      refine any_pure 31 (o := ⟨some 153, Op.binOp BinOp.neq 29 (Operand.tmp 152) (Operand.const (Value.pointer none)) 29, 4, "outright.go:133", #[⟨30, .data⟩, ⟨29, .guard⟩], some (29, true)⟩) (.bool true) (by kernel_rfl) rfl (by kernel_rfl) (by kernel_rfl) ?_
      refine any_pure 32 (o := ⟨some 154, Op.pick (Operand.tmp 151) (Operand.tmp 153) (Operand.const (Value.bool false)), 4, "outright.go:133", #[⟨29, .data⟩, ⟨31, .data⟩], none⟩) (.bool true) (by kernel_rfl) rfl (by kernel_rfl) (by kernel_rfl) ?_
      refine any_pure 33 (o := ⟨some 155, Op.move (Operand.tmp 154), 4, "outright.go:133", #[⟨32, .data⟩, ⟨29, .chain⟩], none⟩) (.bool true) (by kernel_rfl) rfl (by kernel_rfl) (by kernel_rfl) ?_
      refine wpAny_take (i := 34) (oi := ⟨some 156, Op.move (Operand.tmp 23), 29, "outright.go:133", #[⟨33, .guard⟩], some (33, true)⟩) (v := (.pointer (some ⟨L, 0, none⟩))) rfl (by kernel_rfl) (by kernel_rfl) (by kernel_rfl) (fun _ _ _ h => h) (Or.inl ⟨by kernel_rfl, fun _ => (by kernel_rfl)⟩) ?_
      refine wpAny_take (i := 36) (oi := ⟨some 158, Op.move (Operand.tmp 0), 22, "outright.go:133", #[⟨33, .guard⟩], some (33, true)⟩) (v := (.slice A1 l.length c1)) rfl (by kernel_rfl) (by kernel_rfl) (by kernel_rfl) (fun _ _ _ h => h) (Or.inl ⟨by kernel_rfl, fun _ => (by kernel_rfl)⟩) ?_
      refine wpAny_take (i := 37) (oi := ⟨some 159, Op.move (Operand.tmp 11), 3, "outright.go:133", #[⟨33, .guard⟩], some (33, true)⟩) (v := (.int .i64 (j : Int))) rfl (by kernel_rfl) (by kernel_rfl) (by kernel_rfl) (fun _ _ _ h => h) (Or.inl ⟨by kernel_rfl, fun _ => (by kernel_rfl)⟩) ?_
      refine wpAny_take (i := 38) (oi := ⟨some 160, Op.slice 22 (Operand.tmp 158) none (some (Operand.tmp 159)) none, 22, "outright.go:133", #[⟨36, .data⟩, ⟨37, .data⟩, ⟨33, .guard⟩], some (33, true)⟩) (v := (.slice A1 j c1)) rfl (by kernel_rfl) (by kernel_rfl) (by kernel_rfl) (fun _ _ _ h => h) (Or.inl ⟨by kernel_rfl, fun _ => (ex_slice_h (n := l.length) (s := 1) rfl (by kernel_rfl) (by kernel_rfl) (by kernel_rfl) (by kernel_rfl) hjc)⟩) ?_
      refine any_call 35 (o := ⟨some 157, Op.call { callee := Callee.value (Operand.func 16), args := #[Operand.tmp 156], argTypes := #[29] }, 22, "outright.go:133", #[⟨34, .data⟩, ⟨33, .chain⟩, ⟨33, .guard⟩], some (33, true)⟩) 16 _ _ #[(.pointer (some ⟨L, 0, none⟩))] (by kernel_rfl) rfl (by kernel_rfl) rfl (by kernel_rfl) en16 (Calls.mono HQ'.out ?_)
      rintro e w10 ⟨a8, c8, rfl, r8, b8⟩
      refine ⟨_, rfl, ?_⟩
      refine any_call 39 (o := ⟨some 161, Op.call { callee := Callee.value (Operand.func 15), args := #[Operand.tmp 157, Operand.tmp 160], argTypes := #[22, 22] }, 4, "outright.go:133", #[⟨35, .data⟩, ⟨38, .data⟩, ⟨35, .chain⟩, ⟨33, .guard⟩], some (33, true)⟩) 15 _ _ #[(.slice a8 j c8), (.slice A1 j c1)] (by kernel_rfl) rfl (by kernel_rfl) rfl (by kernel_rfl) en15 (Calls.mono (HSm _ _ _ r8 b8).out ?_)
      rintro e w11 ⟨rfl, _, b11⟩
      refine ⟨_, rfl, ?_⟩
      have B11 : Below w.heap.size w w11 := Below.trans B9.out ((Below.trans b8 (b11.mono b8.size)).mono B9.out.size)
      refine any_pure 40 (o := ⟨some 162, Op.pick (Operand.tmp 155) (Operand.tmp 161) (Operand.const (Value.bool false)), 4, "outright.go:133", #[⟨33, .data⟩, ⟨39, .data⟩], none⟩) (.bool true) (by kernel_rfl) rfl (by kernel_rfl) (by kernel_rfl) ?_
      refine any_pure 41 (o := ⟨some 163, Op.move (Operand.tmp 162), 4, "outright.go:133", #[⟨40, .data⟩, ⟨39, .chain⟩], none⟩) (.bool true) (by kernel_rfl) rfl (by kernel_rfl) (by kernel_rfl) ?_
      refine any_call 42 (o := ⟨some 164, Op.call { callee := Callee.value (Operand.func 19), args := #[], argTypes := #[] }, 4, "outright.go:133", #[⟨41, .chain⟩, ⟨41, .guard⟩], some (41, true)⟩) 19 _ _ #[] (by kernel_rfl) rfl (by kernel_rfl) rfl (by kernel_rfl) en19 (Calls.mono (HAw w11 B11).out ?_)
      rintro e w12 ⟨rfl, b12⟩
      refine ⟨_, rfl, ?_⟩
      refine any_pure 43 (o := ⟨some 165, Op.pick (Operand.tmp 163) (Operand.tmp 164) (Operand.const (Value.bool false)), 4, "outright.go:133", #[⟨41, .data⟩, ⟨42, .data⟩], none⟩) (.bool true) (by kernel_rfl) rfl (by kernel_rfl) (by kernel_rfl) ?_
      refine any_pure 44 (o := ⟨some 6, Op.assign (Operand.tmp 165), 4, "outright.go:133", #[⟨43, .data⟩, ⟨42, .chain⟩, ⟨0, .phase⟩, ⟨1, .phase⟩, ⟨2, .phase⟩, ⟨3, .phase⟩, ⟨4, .phase⟩, ⟨5, .phase⟩, ⟨6, .phase⟩, ⟨7, .phase⟩, ⟨8, .phase⟩, ⟨9, .phase⟩, ⟨10, .phase⟩, ⟨11, .phase⟩, ⟨12, .phase⟩, ⟨13, .phase⟩, ⟨14, .phase⟩, ⟨15, .phase⟩, ⟨16, .phase⟩, ⟨17, .phase⟩, ⟨18, .phase⟩, ⟨19, .phase⟩, ⟨20, .phase⟩, ⟨21, .phase⟩, ⟨22, .phase⟩, ⟨23, .phase⟩, ⟨24, .phase⟩, ⟨25, .phase⟩, ⟨26, .phase⟩, ⟨27, .phase⟩, ⟨28, .phase⟩, ⟨29, .phase⟩, ⟨30, .phase⟩, ⟨31, .phase⟩, ⟨32, .phase⟩, ⟨33, .phase⟩, ⟨34, .phase⟩, ⟨35, .phase⟩, ⟨36, .phase⟩, ⟨37, .phase⟩, ⟨38, .phase⟩, ⟨39, .phase⟩, ⟨40, .phase⟩, ⟨41, .phase⟩, ⟨42, .phase⟩, ⟨43, .phase⟩], none⟩) (.bool true) (by kernel_rfl) rfl (by kernel_rfl) (by kernel_rfl) ?_
      refine wpAny_done (by kernel_rfl) ?_ _
      exact end_ret (fn := Tryd.f9) (v := .bool true) rfl (by with_reducible assumption) (by kernel_rfl) (by kernel_rfl) ⟨rfl, Below.trans B11 (b12.mono B11.size)⟩
theorem one_num (A : Option Addr) (c n0 at_ d : Nat) (hd : d < 256) (xs : List Bs) (w : World) (hr : Rd w w.heap.size A (scs xs)) (hn : xs.length = n0) (hc : n0 ≤ c) (hm : n0 ≤ maxLen) (hs : ∀ x ∈ xs, x.length ≤ maxLen) (ha : at_ < 65536) (hT : Tb w) :
    Calls Tryd.prog 9 #[.slice A n0 c, .int .u16 at_, .int .u8 (d : Int)] w fun e w' => e = .returned (.bool true) ∧ Below w.heap.size w w' := by
  have h := one_any A c n0 at_ (UInt8.ofNat d) xs w hr hn hc hm hs ha hT
  rwa [show ((UInt8.ofNat d).toNat : Int) = (d : Int) by rw [UInt8.toNat_ofNat_of_lt' (show d < 2 ^ 8 from hd)]] at h
end Go.Proofs.YtandanbojfdfjaaDoor
