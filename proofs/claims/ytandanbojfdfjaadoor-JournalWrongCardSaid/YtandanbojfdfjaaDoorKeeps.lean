import Derived.Test.YtandanbojfdfjaaDoorCuts
import Derived.Test.YtandanbojfdfjaaDoorLog2
import Derived.Test.YtandanbojfdfjaaDoorStepAny
namespace Go.Proofs.YtandanbojfdfjaaDoor
open Go.ChangeShapes Go.WideShapes Go.ChangeAt Go.RowKit

theorem DiskAt.power {w : World} {D : Nat} {b : Bs} {p : Int} (h : DiskAt w D b p) (q : Int) : DiskAt (w.setCell ⟨D, 1, none⟩ (.int .i64 q)) D b q := by
  obtain ⟨v, hD, hB⟩ := h
  exact ⟨v, hD.set 1 _, hB.kp1 (Kp.set w D 1 _) hD (by decide)⟩
theorem outT_snoc {xs : List Bs} (h : xs.length < 20) (x : Bs) : outT (xs ++ [x]) = xs.map txt1 ++ [txt1 x] := by
  unfold outT
  rw [List.take_of_length_le (by simp; omega), List.map_append]; rfl
theorem few_map {xs : List Bs} (h : xs.length ≤ 20) : Few (xs.map txt1) := by
  refine ⟨fun t ht => ?_, fun t ht => ?_, by simpa using h⟩ <;> obtain ⟨s, _, rfl⟩ := List.mem_map.1 ht
  · exact txt1_rec s
  · exact txt1_len s
theorem keep_step {w0 w : World} {base L D : Nat} {b : Bs} {p : Int} {s : St} {cl : Bool} (h : Sys w0 w base L D b p s cl) (hT : Tb w0) (t : ByteArray) {n : Nat} {b' : Bs} {p' : Int} {s' : St} {cl' : Bool} {l : List Bs} (hF : Few l) {m : Nat} (hs : s = St.zero.adds (l.take m)) (hb : b.length ≤ 2000) (hp : -1 ≤ p) (hp2 : p ≤ 65535)
    (hr : appR b p s cl t.data.toList = (n, b', p', s', cl')) :
    Calls Tryd.prog 14 #[.pointer (some ⟨L, 0, none⟩), .string t] w fun e w' => e = .returned (.int .i64 n) ∧ Sys w0 w' base L D b' p' s' cl' ∧ (∃ A c, w'.cell? ⟨D, 0, none⟩ = some (.slice A b'.length c)) ∧ w'.cell? ⟨D, 1, none⟩ = some (.int .i64 p') := by
  subst hs
  have h1 := (hF.take m).size
  have h2 := (hF.take m).num
  refine (app_num h hT t (hF.take m).last (by omega) (by omega) (by omega) (by omega) (by rw [(hF.take m).recs]; omega) hr).mono ?_
  rintro e w' ⟨he, hs, _⟩
  obtain ⟨A, c, h1, h2, _⟩ := hs.disk.bytes
  exact ⟨he, hs, ⟨A, c, h1⟩, h2⟩

theorem keep_row {w3 W : World} {A : Option Addr} {rs : List Bs} {lt : Bs} {k q : Nat} (h : Rd w3 w3.heap.size A (scs (rs ++ [lt]))) (hl : rs.length = k) (hq : q ≤ k) (hb : Below w3.heap.size w3 W) : Rd W W.heap.size A (scs (rs.take q)) := by
  have h := (h.keep hb hb.size).take q
  rw [← List.map_take, List.take_append_of_le_length (by omega)] at h
  exact h

set_option maxRecDepth 100000 in
set_option maxHeartbeats 4000000 in
theorem keeps_any (A : Option Addr) (c n0 p : Nat) (xs : List Bs) (more : ByteArray) (w : World) (hr : Rd w w.heap.size A (scs xs)) (hn : xs.length = n0) (hc : n0 ≤ c) (hm : n0 ≤ maxLen) (hs : ∀ x ∈ xs, x.length ≤ maxLen) (hms : more.size ≤ maxLen) (hp : p < 65536) (hT : Tb w) :
    Calls Tryd.prog 3 #[.slice A n0 c, .int .u16 p, .string more] w fun e w' => e = .returned (.bool true) ∧ Below w.heap.size w w' := by
  have HT := Lib.hid hT
  have HR := Lib.hid hr
  obtain ⟨m, hmn⟩ : ∃ m, min n0 19 = m := ⟨_, rfl⟩
  have hm1 : m ≤ n0 := by omega
  have hm2 : m ≤ 19 := by omega
  unfold maxLen at hm
  have hX := Lib.hid (min_id hmn)
  have hlen : (xs.take m).length = m := by rw [List.length_take]; omega
  have HRt : Hid (Rd w w.heap.size A (scs (xs.take m))) := Lib.hid (by have := hr.take m; rwa [← List.map_take] at this)
  have HZ : Hid (∀ x ∈ xs.take m ++ [more.data.toList], x.length ≤ maxLen) := Lib.hid (by
    intro x hx
    rcases List.mem_append.1 hx with hx | hx
    · exact hs _ (List.mem_of_mem_take hx)
    · obtain rfl : x = more.data.toList := by simpa using hx
      rw [len_toList]; exact hms)
  have HO : Hid (outT (xs.take m ++ [more.data.toList]) = (xs.take m).map txt1 ++ [txt1 more.data.toList]) := Lib.hid (outT_snoc (by omega) _)
  have HF0 : Hid (Few ((xs.take m).map txt1)) := Lib.hid (few_map (by omega))
  have hlr : ((xs.take m).map txt1).length = m := by rw [List.length_map, hlen]
  have HLen := Lib.hid hlen
  clear hr hn hs hmn hms hlen hT
  generalize xs.take m = ys at *
  go_enter Tryd.func3, Tryd.ntmps3
  go_wp2_with (first
    | ((with_reducible refine min_step _ _ .i64 n0 19 m ?_ ?_ ?_ ?_); (exact rfl); (exact rfl); (exact hX.out))
    | (at_builtin; refine ap_many rfl (.tmp 19) (.tmp 24) 22 rfl eStr A m c (scs ys) (Own.built w 9 0 [] (Below.refl _ _) rfl (by omega)) rfl rfl (by rw [Nat.mul_one]; simp [HLen.out]) (HRt.out.alloc _) (oneCells_scs ys) (by omega) ?_; intro v1 w1 own1 hsz1)
    | (at_builtin; refine ap_one rfl (.tmp 25) (.tmp 27) 22 rfl eStr [.string more] own1 rfl rfl rfl (by simp [Value.oneCell']) (by omega) ?_; intro v2 w2 own2 hsz2))
  obtain ⟨A2, c2, rfl, hc2, rd2⟩ := own2.rd
  have HB2 := Lib.hid own2.bel
  have HTx := Lib.hid (texts_any A2 c2 (m + 1) (ys ++ [more.data.toList]) w2 (by simpa [scs] using rd2) (by simp [HLen.out]) (by omega) (by unfold maxLen; omega) HZ.out)
  rw [HO.out] at HTx
  have hz2 : 0 + m + 1 = m + 1 := by omega
  rw [hz2] at *
  clear own1 own2 rd2 hc2 hsz1 hsz2 HZ HO HRt HR hX
  have HF : Hid (Few (ys.map txt1 ++ [txt1 more.data.toList])) := Lib.hid (HF0.out.snoc (by rw [hlr]; omega) (txt1_rec _) (txt1_len _))
  generalize ys.map txt1 = rs at *
  generalize txt1 more.data.toList = lt at *
  refine HTx.out.mono ?_
  rintro e w3 ⟨v3, rfl, hrow, hb3⟩
  have hl1 : (rs ++ [lt]).length = m + 1 := by simp [hlr]
  rw [hl1] at hrow
  obtain ⟨A3, c3, rfl, hc3, rd3, _⟩ := row_rd hrow
  have HB3 := Lib.hid (HB2.out.trans (hb3.mono HB2.out.size))
  have HR3 := Lib.hid rd3
  have HL1 := Lib.hid hl1
  have HLr := Lib.hid hlr
  obtain ⟨b3, o3, rfl, hlt3, hcl3⟩ := rd3.strs (by omega)
  have g3 := hcl3 m (by omega)
  rw [show (rs ++ [lt]).getD m [] = lt by simp [← hlr]] at g3
  clear hrow rd3 hb3 hcl3 HTx HB2 hl1 hlr
  go_wp2_with fail
  have HO : Hid _ := Lib.hid (open_any w3.heap.size [] p (w3.alloc (.cells #[.slice none 0 0, .int .i64 p] 28)) ⟨.slice none 0 0, Blk.new _ _ _, By.nil _⟩ (by simp) (by omega) (by omega) (HT.out.below (HB3.out.trans ((below_alloc _ _).mono HB3.out.size)) HT.out.lt))
  rw [open_new] at HO
  refine HO.out.mono ?_
  intro e w5 ho
  obtain ⟨L, rfl, h1, _⟩ := Sys.of_open (below_alloc _ _) (Nat.le_refl _) ho
  have HS5 := Lib.hid h1
  have HT3 := Lib.hid (HT.out.below HB3.out HT.out.lt)
  clear ho HO h1
  go_wp2_with fail
  go_loopw [11, 58] (fun nv i wr => ∃ (k : Nat) (n : Int) (b : Bs) (pw : Int) (s : St) (cl : Bool), k ≤ m ∧ i = .int .i64 k ∧ nv = .int .i64 n ∧ Hid (Sys w3 wr (w3.alloc (.cells #[.slice none 0 0, .int .i64 p] 28)).heap.size L w3.heap.size b pw s cl) ∧ (Hid (KeepA rs p k n b pw s cl) ∨ Hid (KeepB rs k n b pw s cl))) (fun _ i _ => m - (intOf i).toNat)
  case atStart => exact ⟨0, 0, [], p, .zero, false, Nat.zero_le _, rfl, rfl, HS5, .inl (Lib.hid (keep_zero rs p))⟩
  case round =>
    obtain ⟨k, n, b, pw, s, cl, hk, rfl, rfl, hS, hK⟩ := hrel
    by_cases hlt : k < m
    · have hkr : k < rs.length := by have := HLr.out; omega
      have g1 := (bcell hS.out.bel b3 (o3 + k) hlt3).trans (((HR3.out.strs (by have := HL1.out; omega)).elim fun b' h => h.elim fun o' h => by
        obtain ⟨e, _, hc⟩ := h
        obtain ⟨rfl, rfl⟩ : b3 = b' ∧ o3 = o' := by simpa using e
        exact hc k (by have := HL1.out; omega)) : w3.cell? ⟨b3, o3 + k, none⟩ = _)
      rw [show (rs ++ [lt]).getD k [] = rs.getD k [] by simp [List.getD_eq_getElem?_getD, List.getElem?_append_left hkr]] at g1
      rcases hK with hA | hB
      · have hA' := hA.out
        obtain ⟨e1, e2, e3, e4, e5, e6⟩ := hA'
        have hbl : b.length ≤ 1320 := by rw [e2]; exact (HF0.out.take k).log
        by_cases hp : lenN rs (k + 1) ≤ p
        · obtain ⟨b', pw', s', ha, hA2⟩ := keep_ok hA.out HF0.out hkr hp
          have HA := Lib.hid (keep_step hS.out HT3.out ⟨(rs.getD k []).toArray⟩ HF0.out e5 (by omega) (by omega) (by omega) ha)
          have HA2 := Lib.hid hA2
          have hn0 : 0 ≤ n := by omega
          have hn1 : n ≤ 20 := by omega
          clear ha hA2 e1 e2 e3 e4 e5 e6 hp hA hbl
          generalize (ByteArray.mk (rs.getD k []).toArray) = t at *
          go_wp2_with fail
          refine HA.out.mono ?_
          rintro e w6 ⟨rfl, h6, _, _⟩
          have H6 := Lib.hid h6
          clear h6 HA
          go_wp2_with fail
          go_roundw
          case rel => exact ⟨k + 1, n + 1, b', pw', s', false, by omega, by go_num, by go_num, H6, .inl HA2⟩
          case measure => simp [intOf]; omega
        · obtain ⟨b', ha, hA2⟩ := keep_fail hA.out HF0.out hkr (by omega)
          have HA := Lib.hid (keep_step hS.out HT3.out ⟨(rs.getD k []).toArray⟩ HF0.out e5 (by omega) (by omega) (by omega) ha)
          have HA2 := Lib.hid hA2
          have hn0 : 0 ≤ n := by omega
          have hn1 : n ≤ 20 := by omega
          clear ha hA2 e1 e2 e3 e4 e5 e6 hp hA hbl
          generalize (ByteArray.mk (rs.getD k []).toArray) = t at *
          go_wp2_with fail
          refine HA.out.mono ?_
          rintro e w6 ⟨rfl, h6, _, g6⟩
          have H6 := Lib.hid h6
          clear h6 HA
          go_wp2_with fail
          go_roundw
          case rel => exact ⟨k + 1, -1 - n, b', 0, s, true, by omega, by go_num, by go_num, H6, .inr HA2⟩
          case measure => simp [intOf]; omega
      · obtain ⟨mm, y, q1, q2, q3, q4, q5, q6, q7, q8⟩ := hB.out
        obtain ⟨ha, hA2⟩ := keep_closed hB.out (rs.getD k [])
        have hbl : b.length ≤ 1400 := by rw [q3, List.length_append]; have := (HF0.out.take mm).log; omega
        have HA := Lib.hid (keep_step hS.out HT3.out ⟨(rs.getD k []).toArray⟩ HF0.out q7 (by omega) (by omega) (by omega) ha)
        have HA2 := Lib.hid hA2
        have hn0 : n < 0 := by omega
        have hn1 : -22 ≤ n := by omega
        clear ha hA2 q1 q2 q3 q4 q5 q6 q7 q8 hB hbl
        generalize (ByteArray.mk (rs.getD k []).toArray) = t at *
        go_wp2_with fail
        refine HA.out.mono ?_
        rintro e w6 ⟨rfl, h6, _, g6⟩
        have H6 := Lib.hid h6
        clear h6 HA
        go_wp2_with fail
        go_roundw
        case rel => exact ⟨k + 1, n, b, 0, s, true, by omega, by go_num, by go_num, H6, .inr HA2⟩
        case measure => simp [intOf]; omega
    · obtain rfl : k = m := by omega
      have hfin : ∃ (q : Nat) (y : Bs), q ≤ k ∧ (n = (q : Int) ∨ n = -1 - (q : Int)) ∧ b = logB 1 (rs.take q) ++ y ∧ (10 : UInt8) ∉ y ∧ y.length ≤ 66 := by
        rcases hK with hA | hB
        · obtain ⟨e1, e2, _⟩ := hA.out
          exact ⟨k, [], Nat.le_refl _, .inl e1, by rw [List.append_nil]; exact e2, by simp, by simp⟩
        · obtain ⟨q, y, q1, q2, q3, q4, q5, _⟩ := hB.out
          exact ⟨q, y, q1, .inr q2, q3, q4, q5⟩
      clear hK
      obtain ⟨q, y, hqk, hqn, rfl, hy1, hy2⟩ := hfin
      have HOp := Lib.hid (open_part q HF0.out hy1 hy2)
      have hbl : (logB 1 (rs.take q) ++ y).length ≤ 2000 := by rw [List.length_append]; have := (HF0.out.take q).log; omega
      obtain ⟨vd, hDd, _⟩ := hS.out.disk
      have gp := hDd.cell 1 _ rfl
      have gf := hDd.frozen 1
      have HW1 := Lib.hid (hS.out.bel.setCell (p := ⟨w3.heap.size, 1, none⟩) (Nat.le_refl _) (.int .i64 (-1)))
      have HO2 := Lib.hid (open_any w3.heap.size _ (-1) _ (hS.out.disk.power (-1)) (by omega) (by omega) (by omega) (HT3.out.below HW1.out HT3.out.lt))
      rw [HOp.out] at HO2
      clear hDd hbl hy1 hy2 HOp hS HS5
      have HFq := Lib.hid (HF0.out.take q)
      have hrq : (rs.take q).length = q := by rw [List.length_take, HLr.out]; omega
      have HRQ := Lib.hid hrq
      have hq19 : q ≤ 19 := by omega
      have HFl : Hid (Few (rs.take q ++ [lt])) := Lib.hid (HFq.out.snoc (by rw [hrq]; omega) (HF.out.okr lt (by simp)) (HF.out.len lt (by simp)))
      rcases hqn with rfl | rfl
      all_goals
        go_wp2_with fail
        try rw [show ((-1 : Int) - (-1 - (q : Int))) = q by omega]
        refine HO2.out.mono ?_
        intro e w7 ho
        obtain ⟨L2, rfl, h7, _⟩ := Sys.of_open HW1.out (Nat.le_refl _) ho
        have h8 := h7.below (w' := w7.drew) ((Below.refl _ _).drew)
        have HS7 := Lib.hid h8
        clear ho HO2 h7 h8 HW1
        go_wp2_with fail
        obtain ⟨A7, c7, g7, _⟩ := HS7.out.disk.bytes
        have hb' : ((logB 1 (rs.take q)).length : Int) = (St.zero.adds (rs.take q)).size := by rw [adds_size]; simp [St.zero]
        have hNN := HFq.out.log
        have HQ := HS7.out.records (by rw [HFq.out.recs]; omega)
        rw [HFq.out.recs, HRQ.out] at HQ
        have HQ' := Lib.hid HQ
        clear HQ
        have HSm := fun (W : World) (a8 : Option Addr) (c8 : Nat) (h8 : Rd W W.heap.size a8 (scs (rs.take q))) (hb : Below w7.drew.heap.size w7.drew W) => Lib.hid (same_num (c := c8) (d := c3) (xs := rs.take q) (ys := rs.take q) (n := q) (m := q) (r := true) (B := some ⟨b3, o3, none⟩) h8 (by
          have h := (HR3.out.keep (HS7.out.bel.trans (hb.mono HS7.out.bel.size)) (Nat.le_trans HS7.out.bel.size hb.size)).take q
          rw [← List.map_take, List.take_append_of_le_length (by have := HLr.out; omega)] at h
          exact h) (Below.refl _ _) HRQ.out HRQ.out (by omega) (by omega) (by simp))
        have HZ := fun (W : World) (hb : Below w7.drew.heap.size w7.drew W) => Lib.hid (HS7.out.below hb).size
        rw [← hb'] at HZ
        have HAp := fun (W : World) (hb : Below w7.drew.heap.size w7.drew W) => Lib.hid (keep_step (HS7.out.below hb) HT3.out ⟨lt.toArray⟩ HF0.out (m := q) rfl (by omega) (by omega) (by omega) (app_last HFl.out))
        have hlt7 := cell_lt g7
        generalize (logB 1 (rs.take q)).length = N at *
        refine wp_region_any (by kernel_rfl) ?_
        change wpAny _ _ _ _ _ _ _ (World.drew _)
        have hq3 : q ≤ c3 := by omega
        refine any_pure 0 (o := ⟨some 111, Op.move (Operand.tmp 10), 30, "outright.go:72", #[], none⟩) (.int .i64 0) (by kernel_rfl) rfl (by kernel_rfl) (by kernel_rfl) ?_
        refine any_pure 1 (o := ⟨some 112, Op.binOp BinOp.neq 30 (Operand.tmp 111) (Operand.const (Value.int IntKind.i64 0)) 30, 4, "outright.go:72", #[⟨0, .data⟩], none⟩) (.bool false) (by kernel_rfl) rfl (by kernel_rfl) (by kernel_rfl) ?_
        refine any_pure 2 (o := ⟨some 113, Op.move (Operand.tmp 112), 4, "outright.go:72", #[⟨1, .data⟩], none⟩) (.bool false) (by kernel_rfl) rfl (by kernel_rfl) (by kernel_rfl) ?_
        refine any_pure 3 (o := ⟨some 114, Op.move (Operand.tmp 15), 29, "outright.go:72", #[⟨2, .guard⟩], some (2, false)⟩) (.pointer (some ⟨L2, 0, none⟩)) (by kernel_rfl) rfl (by kernel_rfl) (by kernel_rfl) ?_
        refine any_pure 4 (o := ⟨some 115, Op.binOp BinOp.eql 29 (Operand.tmp 114) (Operand.const (Value.pointer none)) 29, 4, "outright.go:72", #[⟨3, .data⟩, ⟨2, .guard⟩], some (2, false)⟩) (.bool false) (by kernel_rfl) rfl (by kernel_rfl) (by kernel_rfl) ?_
        refine any_pure 5 (o := ⟨some 116, Op.pick (Operand.tmp 113) (Operand.const (Value.bool true)) (Operand.tmp 115), 4, "outright.go:72", #[⟨2, .data⟩, ⟨4, .data⟩], none⟩) (.bool false) (by kernel_rfl) rfl (by kernel_rfl) (by kernel_rfl) ?_
        refine any_pure 6 (o := ⟨some 117, Op.move (Operand.tmp 116), 4, "outright.go:72", #[⟨5, .data⟩, ⟨2, .chain⟩], none⟩) (.bool false) (by kernel_rfl) rfl (by kernel_rfl) (by kernel_rfl) ?_
        refine wpAny_take (i := 7) (oi := ⟨some 118, Op.move (Operand.tmp 15), 29, "outright.go:72", #[⟨6, .guard⟩], some (6, false)⟩) (v := (.pointer (some ⟨L2, 0, none⟩))) rfl (by kernel_rfl) (by kernel_rfl) (by kernel_rfl) (fun _ _ _ h => h) (Or.inl ⟨by kernel_rfl, fun _ => (by kernel_rfl)⟩) ?_
        refine wpAny_take (i := 9) (oi := ⟨some 120, Op.move (Operand.tmp 0), 22, "outright.go:72", #[⟨6, .guard⟩], some (6, false)⟩) (v := (.slice (some ⟨b3, o3, none⟩) k c3)) rfl (by kernel_rfl) (by kernel_rfl) (by kernel_rfl) (fun _ _ _ h => h) (Or.inl ⟨by kernel_rfl, fun _ => (by kernel_rfl)⟩) ?_
        refine wpAny_take (i := 10) (oi := ⟨some 121, Op.move (Operand.tmp 11), 3, "outright.go:72", #[⟨6, .guard⟩], some (6, false)⟩) (v := (.int .i64 (q : Int))) rfl (by kernel_rfl) (by kernel_rfl) (by kernel_rfl) (fun _ _ _ h => h) (Or.inl ⟨by kernel_rfl, fun _ => (by kernel_rfl)⟩) ?_
        refine wpAny_take (i := 11) (oi := ⟨some 122, Op.slice 22 (Operand.tmp 120) none (some (Operand.tmp 121)) none, 22, "outright.go:72", #[⟨9, .data⟩, ⟨10, .data⟩, ⟨6, .guard⟩], some (6, false)⟩) (v := (.slice (some ⟨b3, o3, none⟩) q c3)) rfl (by kernel_rfl) (by kernel_rfl) (by kernel_rfl) (fun _ _ _ h => h) (Or.inl ⟨by kernel_rfl, fun _ => (ex_slice_h (n := k) (s := 1) rfl (by kernel_rfl) (by kernel_rfl) (by kernel_rfl) (by kernel_rfl) hq3)⟩) ?_
        refine any_call 8 (o := ⟨some 119, Op.call { callee := Callee.value (Operand.func 16), args := #[Operand.tmp 118], argTypes := #[29] }, 22, "outright.go:72", #[⟨7, .data⟩, ⟨6, .chain⟩, ⟨6, .guard⟩], some (6, false)⟩) 16 _ _ #[(.pointer (some ⟨L2, 0, none⟩))] (by kernel_rfl) rfl (by kernel_rfl) rfl (by kernel_rfl) en16 (Calls.mono HQ'.out ?_)
        rintro e w8 ⟨a8, c8, rfl, r8, b8⟩
        refine ⟨_, rfl, ?_⟩
        refine any_call 12 (o := ⟨some 123, Op.call { callee := Callee.value (Operand.func 15), args := #[Operand.tmp 119, Operand.tmp 122], argTypes := #[22, 22] }, 4, "outright.go:72", #[⟨8, .data⟩, ⟨11, .data⟩, ⟨8, .chain⟩, ⟨6, .guard⟩], some (6, false)⟩) 15 _ _ #[(.slice a8 q c8), (.slice (some ⟨b3, o3, none⟩) q c3)] (by kernel_rfl) rfl (by kernel_rfl) rfl (by kernel_rfl) en15 (Calls.mono (HSm _ _ _ r8 b8).out ?_)
        rintro e w9 ⟨rfl, _, b9⟩
        refine ⟨_, rfl, ?_⟩
        have B9 : Below w7.drew.heap.size w7.drew w9 := Below.trans b8 (b9.mono b8.size)
        have g9 := (bcell B9 _ 0 hlt7).trans g7
        refine any_pure 13 (o := ⟨some 124, Op.unOp UnOp.not 4 (Operand.tmp 123), 4, "outright.go:72", #[⟨12, .data⟩, ⟨6, .guard⟩], some (6, false)⟩) (.bool false) (by kernel_rfl) rfl (by kernel_rfl) (by kernel_rfl) ?_
        refine any_pure 14 (o := ⟨some 125, Op.pick (Operand.tmp 117) (Operand.const (Value.bool true)) (Operand.tmp 124), 4, "outright.go:72", #[⟨6, .data⟩, ⟨13, .data⟩], none⟩) (.bool false) (by kernel_rfl) rfl (by kernel_rfl) (by kernel_rfl) ?_
        refine any_pure 15 (o := ⟨some 126, Op.move (Operand.tmp 125), 4, "outright.go:72", #[⟨14, .data⟩, ⟨12, .chain⟩], none⟩) (.bool false) (by kernel_rfl) rfl (by kernel_rfl) (by kernel_rfl) ?_
        refine wpAny_take (i := 16) (oi := ⟨some 127, Op.move (Operand.tmp 15), 29, "outright.go:72", #[⟨15, .guard⟩], some (15, false)⟩) (v := (.pointer (some ⟨L2, 0, none⟩))) rfl (by kernel_rfl) (by kernel_rfl) (by kernel_rfl) (fun _ _ _ h => h) (Or.inl ⟨by kernel_rfl, fun _ => (by kernel_rfl)⟩) ?_
        refine wpAny_take (i := 18) (oi := ⟨some 129, Op.move (Operand.tmp 8), 25, "outright.go:72", #[⟨15, .guard⟩], some (15, false)⟩) (v := (.pointer (some ⟨w3.heap.size, 0, none⟩))) rfl (by kernel_rfl) (by kernel_rfl) (by kernel_rfl) (fun _ _ _ h => h) (Or.inl ⟨by kernel_rfl, fun _ => (by kernel_rfl)⟩) ?_
        refine wpAny_take (i := 19) (oi := ⟨some 130, Op.nilCheck (Operand.tmp 129), 0, "outright.go:72", #[⟨18, .data⟩, ⟨15, .guard⟩], some (15, false)⟩) (v := (.pointer (some ⟨w3.heap.size, 0, none⟩))) rfl (by kernel_rfl) (by kernel_rfl) (by kernel_rfl) (fun _ _ _ h => h) (Or.inl ⟨by kernel_rfl, fun _ => (by kernel_rfl)⟩) ?_
        refine wpAny_take (i := 20) (oi := ⟨some 131, Op.fieldAddr 28 (Operand.tmp 130) 0, 0, "outright.go:72", #[⟨19, .data⟩, ⟨15, .guard⟩], some (15, false)⟩) (v := (.pointer (some ⟨w3.heap.size, 0, none⟩))) rfl (by kernel_rfl) (by kernel_rfl) (by kernel_rfl) (fun _ _ _ h => h) (Or.inl ⟨by kernel_rfl, fun _ => (by kernel_rfl)⟩) ?_
        refine any_call_load 17 21 (o := ⟨some 128, Op.call { callee := Callee.value (Operand.func 17), args := #[Operand.tmp 127], argTypes := #[29] }, 3, "outright.go:72", #[⟨16, .data⟩, ⟨15, .chain⟩, ⟨15, .guard⟩], some (15, false)⟩) (o' := ⟨some 132, Op.load 26 (Operand.tmp 131), 26, "outright.go:72", #[⟨20, .data⟩, ⟨15, .guard⟩], some (15, false)⟩) 17 _ _ #[(.pointer (some ⟨L2, 0, none⟩))] _ _ (.slice A7 N c7) (by kernel_rfl) rfl rfl (by kernel_rfl) (by kernel_rfl) rfl (by kernel_rfl) en17 rfl (by kernel_rfl) (by kernel_rfl) g9 (Calls.mono (HZ _ B9).out ?_) ?_
        · rintro e w10 ⟨rfl, hw10⟩
          refine ⟨_, rfl, ?_⟩
          subst hw10
          refine any_load 21 (o := ⟨some 132, Op.load 26 (Operand.tmp 131), 26, "outright.go:72", #[⟨20, .data⟩, ⟨15, .guard⟩], some (15, false)⟩) _ _ (.slice A7 N c7) (by kernel_rfl) rfl (by kernel_rfl) rfl (by kernel_rfl) (by kernel_rfl) g9 ?_
          refine any_pure 22 (o := ⟨some 133, Op.call { callee := Callee.builtin Builtin.len, args := #[Operand.tmp 132], argTypes := #[26] }, 3, "outright.go:72", #[⟨21, .data⟩, ⟨15, .guard⟩], some (15, false)⟩) (.int .i64 (N : Int)) (by kernel_rfl) rfl (by kernel_rfl) (by kernel_rfl) ?_
          refine any_pure 23 (o := ⟨some 134, Op.binOp BinOp.neq 3 (Operand.tmp 128) (Operand.tmp 133) 3, 4, "outright.go:72", #[⟨17, .data⟩, ⟨22, .data⟩, ⟨15, .guard⟩], some (15, false)⟩) (.bool false) (by kernel_rfl) rfl (by kernel_rfl) (ex_bin rfl (by kernel_rfl) (by kernel_rfl) (by kernel_rfl) (bin_neq_int 3 (by kernel_rfl) N N _ false (by simp))) ?_
          refine any_pure 24 (o := ⟨some 135, Op.pick (Operand.tmp 126) (Operand.const (Value.bool true)) (Operand.tmp 134), 4, "outright.go:72", #[⟨15, .data⟩, ⟨23, .data⟩], none⟩) (.bool false) (by kernel_rfl) rfl (by kernel_rfl) (by kernel_rfl) ?_
          refine any_pure 25 (o := ⟨some 136, Op.move (Operand.tmp 135), 4, "outright.go:72", #[⟨24, .data⟩, ⟨17, .chain⟩], none⟩) (.bool false) (by kernel_rfl) rfl (by kernel_rfl) (by kernel_rfl) ?_
          refine wpAny_take (i := 26) (oi := ⟨some 137, Op.move (Operand.tmp 15), 29, "outright.go:72", #[⟨25, .guard⟩], some (25, false)⟩) (v := (.pointer (some ⟨L2, 0, none⟩))) rfl (by kernel_rfl) (by kernel_rfl) (by kernel_rfl) (fun _ _ _ h => h) (Or.inl ⟨by kernel_rfl, fun _ => (by kernel_rfl)⟩) ?_
          refine any_pure 27 (o := ⟨some 138, Op.move (Operand.tmp 7), 9, "outright.go:72", #[⟨25, .guard⟩], some (25, false)⟩) (.string ⟨lt.toArray⟩) (by kernel_rfl) rfl (by kernel_rfl) (by kernel_rfl) ?_
          refine any_call 28 (o := ⟨some 139, Op.call { callee := Callee.value (Operand.func 14), args := #[Operand.tmp 137, Operand.tmp 138], argTypes := #[29, 9] }, 30, "outright.go:72", #[⟨26, .data⟩, ⟨27, .data⟩, ⟨25, .chain⟩, ⟨25, .guard⟩], some (25, false)⟩) 14 _ _ #[(.pointer (some ⟨L2, 0, none⟩)), (.string ⟨lt.toArray⟩)] (by kernel_rfl) rfl (by kernel_rfl) rfl (by kernel_rfl) en14 (Calls.mono (HAp _ B9).out ?_)
          rintro e w11 ⟨rfl, h11, ⟨A11, c11, g11⟩, _⟩
          refine ⟨_, rfl, ?_⟩
          refine any_pure 29 (o := ⟨some 140, Op.binOp BinOp.neq 30 (Operand.tmp 139) (Operand.const (Value.int IntKind.i64 0)) 30, 4, "outright.go:72", #[⟨28, .data⟩, ⟨25, .guard⟩], some (25, false)⟩) (.bool false) (by kernel_rfl) rfl (by kernel_rfl) (by kernel_rfl) ?_
          refine any_pure 30 (o := ⟨some 141, Op.pick (Operand.tmp 136) (Operand.const (Value.bool true)) (Operand.tmp 140), 4, "outright.go:72", #[⟨25, .data⟩, ⟨29, .data⟩], none⟩) (.bool false) (by kernel_rfl) rfl (by kernel_rfl) (by kernel_rfl) ?_
          refine wpAny_done (by kernel_rfl) ?_ _
          simp only [Act.put, List.setIfInBounds_toArray, List.set_cons_succ, List.set_cons_zero]
          have H11 := Lib.hid h11
          clear h11 g9 r8 b8 b9 B9 hb' hNN HQ' HSm HAp HZ g7 hlt7 gp gf g11 hlt hk hz2 HL1 hm hm1
          have hw11 := HB3.out.trans (H11.out.bel.mono HB3.out.size)
          have HR11 := Lib.hid (keep_row HR3.out HLr.out (by omega) H11.out.bel)
          go_wp2_with (first | (at_builtin; refine ap_many rfl (.tmp 143) (.tmp 146) 22 rfl eStr (some ⟨b3, o3, none⟩) q c3 (scs (rs.take q)) (Own.built w11 9 0 [] (Below.refl _ _) rfl (by omega)) rfl rfl (by rw [Nat.mul_one, List.length_map]; exact HRQ.out) (HR11.out.alloc _) (oneCells_scs _) (by omega) ?_; intro v12 w12 own12 hsz12) | (at_builtin; refine ap_one rfl (.tmp 147) (.tmp 149) 22 rfl eStr [.string ⟨lt.toArray⟩] own12 rfl rfl rfl (by simp [Value.oneCell']) (by omega) ?_; intro v13 w13 own13 hsz13))
          have hz13 : 0 + q + 1 = q + 1 := by omega
          rw [hz13] at own13
          obtain ⟨A13, c13, rfl, hc13, rd13⟩ := own13.rd
          have B13 := Lib.hid (hw11.trans (own13.bel.mono hw11.size))
          have B11 := Lib.hid own13.bel
          have HWr := Lib.hid (written_any A13 c13 (q + 1) (rs.take q ++ [lt]) w13 (by simpa [scs] using rd13) (by rw [List.length_append, HRQ.out]; rfl) hc13 HFl.out (HT.out.below B13.out HT.out.lt))
          clear own12 own13 hsz12 hsz13 rd13 hc13 hz13
          refine HWr.out.mono ?_
          rintro e w15 ⟨v15, u15, rfl, hby, _, hb15⟩
          have hb15d : Below w13.heap.size w13 w15.drew := hb15.drew
          have B15 := Lib.hid (B13.out.trans (hb15d.mono B13.out.size))
          have hby' : By w15.drew v15 (logB 1 (rs.take q ++ [lt])) := hby
          obtain ⟨A15, c15, rfl, _⟩ := hby'.form
          have cv15 := hby'.conv
          obtain ⟨A16, c16, g16, _, cv16, _⟩ := (H11.out.below (B11.out.trans (hb15d.mono B11.out.size))).disk.bytes
          clear hby hby' hb15 hb15d HWr
          generalize (logB 1 (rs.take q ++ [lt])).length = z at *
          generalize (ByteArray.mk (logB 1 (rs.take q ++ [lt])).toArray) = S15 at *
          go_wp2_with fail
          refine wp_region_any (by kernel_rfl) ?_
          change wpAny _ _ _ _ _ _ _ (World.drew _)
          refine any_pure 0 (o := ⟨some 155, Op.move (Operand.tmp 18), 4, "outright.go:76", #[], none⟩) (.bool true) (by kernel_rfl) rfl (by kernel_rfl) (by kernel_rfl) ?_
          refine any_pure 1 (o := ⟨some 156, Op.move (Operand.tmp 155), 4, "outright.go:76", #[⟨0, .data⟩], none⟩) (.bool true) (by kernel_rfl) rfl (by kernel_rfl) (by kernel_rfl) ?_
          refine wpAny_take (i := 2) (oi := ⟨some 157, Op.move (Operand.tmp 16), 26, "outright.go:76", #[⟨1, .guard⟩], some (1, true)⟩) (v := (.slice A15 z c15)) rfl (by kernel_rfl) (by kernel_rfl) (by kernel_rfl) (fun _ _ _ h => h) (Or.inl ⟨by kernel_rfl, fun _ => (by kernel_rfl)⟩) ?_
          refine wpAny_take (i := 4) (oi := ⟨some 159, Op.move (Operand.tmp 8), 25, "outright.go:76", #[⟨1, .guard⟩], some (1, true)⟩) (v := (.pointer (some ⟨w3.heap.size, 0, none⟩))) rfl (by kernel_rfl) (by kernel_rfl) (by kernel_rfl) (fun _ _ _ h => h) (Or.inl ⟨by kernel_rfl, fun _ => (by kernel_rfl)⟩) ?_
          refine wpAny_take (i := 5) (oi := ⟨some 160, Op.nilCheck (Operand.tmp 159), 0, "outright.go:76", #[⟨4, .data⟩, ⟨1, .guard⟩], some (1, true)⟩) (v := (.pointer (some ⟨w3.heap.size, 0, none⟩))) rfl (by kernel_rfl) (by kernel_rfl) (by kernel_rfl) (fun _ _ _ h => h) (Or.inl ⟨by kernel_rfl, fun _ => (by kernel_rfl)⟩) ?_
          refine wpAny_take (i := 6) (oi := ⟨some 161, Op.fieldAddr 28 (Operand.tmp 160) 0, 0, "outright.go:76", #[⟨5, .data⟩, ⟨1, .guard⟩], some (1, true)⟩) (v := (.pointer (some ⟨w3.heap.size, 0, none⟩))) rfl (by kernel_rfl) (by kernel_rfl) (by kernel_rfl) (fun _ _ _ h => h) (Or.inl ⟨by kernel_rfl, fun _ => (by kernel_rfl)⟩) ?_
          refine any_val_val 3 7 (o := ⟨some 158, Op.convert 26 9 (Operand.tmp 157), 9, "outright.go:76", #[⟨2, .data⟩, ⟨1, .guard⟩], some (1, true)⟩) (o' := ⟨some 162, Op.load 26 (Operand.tmp 161), 26, "outright.go:76", #[⟨6, .data⟩, ⟨1, .guard⟩], some (1, true)⟩) (.string S15) (.slice A16 z c16) (by kernel_rfl) rfl rfl (by kernel_rfl) (by kernel_rfl) (ex_conv _ _ _ rfl (by kernel_rfl) cv15) (ex_load _ _ _ rfl (by kernel_rfl) (by kernel_rfl) g16) ?_ ?_
          · skip
            refine any_load 7 (o := ⟨some 162, Op.load 26 (Operand.tmp 161), 26, "outright.go:76", #[⟨6, .data⟩, ⟨1, .guard⟩], some (1, true)⟩) _ _ (.slice A16 z c16) (by kernel_rfl) rfl (by kernel_rfl) rfl (by kernel_rfl) (by kernel_rfl) g16 ?_
            refine any_conv 8 (o := ⟨some 163, Op.convert 26 9 (Operand.tmp 162), 9, "outright.go:76", #[⟨7, .data⟩, ⟨1, .guard⟩], some (1, true)⟩) _ _ (.string S15) (by kernel_rfl) rfl (by kernel_rfl) rfl (by kernel_rfl) cv16 ?_
            refine any_pure 9 (o := ⟨some 164, Op.binOp BinOp.eql 9 (Operand.tmp 158) (Operand.tmp 163) 9, 4, "outright.go:76", #[⟨3, .data⟩, ⟨8, .data⟩, ⟨1, .guard⟩], some (1, true)⟩) (.bool true) (by kernel_rfl) rfl (by kernel_rfl) (ex_bin rfl (by kernel_rfl) (by kernel_rfl) (by kernel_rfl) (bin_eql_str S15 S15 _ true (beq_self_eq_true _))) ?_
            refine any_pure 10 (o := ⟨some 165, Op.pick (Operand.tmp 156) (Operand.tmp 164) (Operand.const (Value.bool false)), 4, "outright.go:76", #[⟨1, .data⟩, ⟨9, .data⟩], none⟩) (.bool true) (by kernel_rfl) rfl (by kernel_rfl) (by kernel_rfl) ?_
            refine any_pure 11 (o := ⟨some 166, Op.move (Operand.tmp 165), 4, "outright.go:76", #[⟨10, .data⟩, ⟨1, .chain⟩], none⟩) (.bool true) (by kernel_rfl) rfl (by kernel_rfl) (by kernel_rfl) ?_
            refine any_call 12 (o := ⟨some 167, Op.call { callee := Callee.value (Operand.func 19), args := #[], argTypes := #[] }, 4, "outright.go:76", #[⟨11, .chain⟩, ⟨11, .guard⟩], some (11, true)⟩) 19 _ _ #[] (by kernel_rfl) rfl (by kernel_rfl) rfl (by kernel_rfl) en19 (Calls.mono (awake_any w15.drew (HT.out.below B15.out HT.out.lt)) ?_)
            rintro e w16 ⟨rfl, b16⟩
            refine ⟨_, rfl, ?_⟩
            refine any_pure 13 (o := ⟨some 168, Op.pick (Operand.tmp 166) (Operand.tmp 167) (Operand.const (Value.bool false)), 4, "outright.go:76", #[⟨11, .data⟩, ⟨12, .data⟩], none⟩) (.bool true) (by kernel_rfl) rfl (by kernel_rfl) (by kernel_rfl) ?_
            refine any_pure 14 (o := ⟨some 6, Op.assign (Operand.tmp 168), 4, "outright.go:76", #[⟨13, .data⟩, ⟨12, .chain⟩, ⟨0, .phase⟩, ⟨1, .phase⟩, ⟨2, .phase⟩, ⟨3, .phase⟩, ⟨4, .phase⟩, ⟨5, .phase⟩, ⟨6, .phase⟩, ⟨7, .phase⟩, ⟨8, .phase⟩, ⟨9, .phase⟩, ⟨10, .phase⟩, ⟨11, .phase⟩, ⟨12, .phase⟩, ⟨13, .phase⟩], none⟩) (.bool true) (by kernel_rfl) rfl (by kernel_rfl) (by kernel_rfl) ?_
            refine wpAny_done (by kernel_rfl) ?_ _
            exact end_ret (fn := Tryd.f3) (v := .bool true) rfl (by with_reducible assumption) (by kernel_rfl) (by kernel_rfl) ⟨rfl, Below.trans B15.out (b16.mono B15.out.size)⟩
          · skip
            refine any_val_val 3 8 (o := ⟨some 158, Op.convert 26 9 (Operand.tmp 157), 9, "outright.go:76", #[⟨2, .data⟩, ⟨1, .guard⟩], some (1, true)⟩) (o' := ⟨some 163, Op.convert 26 9 (Operand.tmp 162), 9, "outright.go:76", #[⟨7, .data⟩, ⟨1, .guard⟩], some (1, true)⟩) (.string S15) (.string S15) (by kernel_rfl) rfl rfl (by kernel_rfl) (by kernel_rfl) (ex_conv _ _ _ rfl (by kernel_rfl) cv15) (ex_conv _ _ _ rfl (by kernel_rfl) cv16) ?_ ?_
            · skip
              refine any_conv 8 (o := ⟨some 163, Op.convert 26 9 (Operand.tmp 162), 9, "outright.go:76", #[⟨7, .data⟩, ⟨1, .guard⟩], some (1, true)⟩) _ _ (.string S15) (by kernel_rfl) rfl (by kernel_rfl) rfl (by kernel_rfl) cv16 ?_
              refine any_pure 9 (o := ⟨some 164, Op.binOp BinOp.eql 9 (Operand.tmp 158) (Operand.tmp 163) 9, 4, "outright.go:76", #[⟨3, .data⟩, ⟨8, .data⟩, ⟨1, .guard⟩], some (1, true)⟩) (.bool true) (by kernel_rfl) rfl (by kernel_rfl) (ex_bin rfl (by kernel_rfl) (by kernel_rfl) (by kernel_rfl) (bin_eql_str S15 S15 _ true (beq_self_eq_true _))) ?_
              refine any_pure 10 (o := ⟨some 165, Op.pick (Operand.tmp 156) (Operand.tmp 164) (Operand.const (Value.bool false)), 4, "outright.go:76", #[⟨1, .data⟩, ⟨9, .data⟩], none⟩) (.bool true) (by kernel_rfl) rfl (by kernel_rfl) (by kernel_rfl) ?_
              refine any_pure 11 (o := ⟨some 166, Op.move (Operand.tmp 165), 4, "outright.go:76", #[⟨10, .data⟩, ⟨1, .chain⟩], none⟩) (.bool true) (by kernel_rfl) rfl (by kernel_rfl) (by kernel_rfl) ?_
              refine any_call 12 (o := ⟨some 167, Op.call { callee := Callee.value (Operand.func 19), args := #[], argTypes := #[] }, 4, "outright.go:76", #[⟨11, .chain⟩, ⟨11, .guard⟩], some (11, true)⟩) 19 _ _ #[] (by kernel_rfl) rfl (by kernel_rfl) rfl (by kernel_rfl) en19 (Calls.mono (awake_any w15.drew (HT.out.below B15.out HT.out.lt)) ?_)
              rintro e w16 ⟨rfl, b16⟩
              refine ⟨_, rfl, ?_⟩
              refine any_pure 13 (o := ⟨some 168, Op.pick (Operand.tmp 166) (Operand.tmp 167) (Operand.const (Value.bool false)), 4, "outright.go:76", #[⟨11, .data⟩, ⟨12, .data⟩], none⟩) (.bool true) (by kernel_rfl) rfl (by kernel_rfl) (by kernel_rfl) ?_
              refine any_pure 14 (o := ⟨some 6, Op.assign (Operand.tmp 168), 4, "outright.go:76", #[⟨13, .data⟩, ⟨12, .chain⟩, ⟨0, .phase⟩, ⟨1, .phase⟩, ⟨2, .phase⟩, ⟨3, .phase⟩, ⟨4, .phase⟩, ⟨5, .phase⟩, ⟨6, .phase⟩, ⟨7, .phase⟩, ⟨8, .phase⟩, ⟨9, .phase⟩, ⟨10, .phase⟩, ⟨11, .phase⟩, ⟨12, .phase⟩, ⟨13, .phase⟩], none⟩) (.bool true) (by kernel_rfl) rfl (by kernel_rfl) (by kernel_rfl) ?_
              refine wpAny_done (by kernel_rfl) ?_ _
              exact end_ret (fn := Tryd.f3) (v := .bool true) rfl (by with_reducible assumption) (by kernel_rfl) (by kernel_rfl) ⟨rfl, Below.trans B15.out (b16.mono B15.out.size)⟩
            · skip
              refine any_conv 3 (o := ⟨some 158, Op.convert 26 9 (Operand.tmp 157), 9, "outright.go:76", #[⟨2, .data⟩, ⟨1, .guard⟩], some (1, true)⟩) _ _ (.string S15) (by kernel_rfl) rfl (by kernel_rfl) rfl (by kernel_rfl) cv15 ?_
              refine any_pure 9 (o := ⟨some 164, Op.binOp BinOp.eql 9 (Operand.tmp 158) (Operand.tmp 163) 9, 4, "outright.go:76", #[⟨3, .data⟩, ⟨8, .data⟩, ⟨1, .guard⟩], some (1, true)⟩) (.bool true) (by kernel_rfl) rfl (by kernel_rfl) (ex_bin rfl (by kernel_rfl) (by kernel_rfl) (by kernel_rfl) (bin_eql_str S15 S15 _ true (beq_self_eq_true _))) ?_
              refine any_pure 10 (o := ⟨some 165, Op.pick (Operand.tmp 156) (Operand.tmp 164) (Operand.const (Value.bool false)), 4, "outright.go:76", #[⟨1, .data⟩, ⟨9, .data⟩], none⟩) (.bool true) (by kernel_rfl) rfl (by kernel_rfl) (by kernel_rfl) ?_
              refine any_pure 11 (o := ⟨some 166, Op.move (Operand.tmp 165), 4, "outright.go:76", #[⟨10, .data⟩, ⟨1, .chain⟩], none⟩) (.bool true) (by kernel_rfl) rfl (by kernel_rfl) (by kernel_rfl) ?_
              refine any_call 12 (o := ⟨some 167, Op.call { callee := Callee.value (Operand.func 19), args := #[], argTypes := #[] }, 4, "outright.go:76", #[⟨11, .chain⟩, ⟨11, .guard⟩], some (11, true)⟩) 19 _ _ #[] (by kernel_rfl) rfl (by kernel_rfl) rfl (by kernel_rfl) en19 (Calls.mono (awake_any w15.drew (HT.out.below B15.out HT.out.lt)) ?_)
              rintro e w16 ⟨rfl, b16⟩
              refine ⟨_, rfl, ?_⟩
              refine any_pure 13 (o := ⟨some 168, Op.pick (Operand.tmp 166) (Operand.tmp 167) (Operand.const (Value.bool false)), 4, "outright.go:76", #[⟨11, .data⟩, ⟨12, .data⟩], none⟩) (.bool true) (by kernel_rfl) rfl (by kernel_rfl) (by kernel_rfl) ?_
              refine any_pure 14 (o := ⟨some 6, Op.assign (Operand.tmp 168), 4, "outright.go:76", #[⟨13, .data⟩, ⟨12, .chain⟩, ⟨0, .phase⟩, ⟨1, .phase⟩, ⟨2, .phase⟩, ⟨3, .phase⟩, ⟨4, .phase⟩, ⟨5, .phase⟩, ⟨6, .phase⟩, ⟨7, .phase⟩, ⟨8, .phase⟩, ⟨9, .phase⟩, ⟨10, .phase⟩, ⟨11, .phase⟩, ⟨12, .phase⟩, ⟨13, .phase⟩], none⟩) (.bool true) (by kernel_rfl) rfl (by kernel_rfl) (by kernel_rfl) ?_
              refine wpAny_done (by kernel_rfl) ?_ _
              exact end_ret (fn := Tryd.f3) (v := .bool true) rfl (by with_reducible assumption) (by kernel_rfl) (by kernel_rfl) ⟨rfl, Below.trans B15.out (b16.mono B15.out.size)⟩
        · skip
          refine wpAny_take (i := 22) (oi := ⟨some 133, Op.call { callee := Callee.builtin Builtin.len, args := #[Operand.tmp 132], argTypes := #[26] }, 3, "outright.go:72", #[⟨21, .data⟩, ⟨15, .guard⟩], some (15, false)⟩) (v := (.int .i64 (N : Int))) rfl (by kernel_rfl) (by kernel_rfl) (by kernel_rfl) (fun _ _ _ h => h) (Or.inl ⟨by kernel_rfl, fun _ => (by kernel_rfl)⟩) ?_
          refine any_call 17 (o := ⟨some 128, Op.call { callee := Callee.value (Operand.func 17), args := #[Operand.tmp 127], argTypes := #[29] }, 3, "outright.go:72", #[⟨16, .data⟩, ⟨15, .chain⟩, ⟨15, .guard⟩], some (15, false)⟩) 17 _ _ #[(.pointer (some ⟨L2, 0, none⟩))] (by kernel_rfl) rfl (by kernel_rfl) rfl (by kernel_rfl) en17 (Calls.mono (HZ _ B9).out ?_)
          rintro e w10 ⟨rfl, hw10⟩
          refine ⟨_, rfl, ?_⟩
          subst hw10
          refine any_pure 23 (o := ⟨some 134, Op.binOp BinOp.neq 3 (Operand.tmp 128) (Operand.tmp 133) 3, 4, "outright.go:72", #[⟨17, .data⟩, ⟨22, .data⟩, ⟨15, .guard⟩], some (15, false)⟩) (.bool false) (by kernel_rfl) rfl (by kernel_rfl) (ex_bin rfl (by kernel_rfl) (by kernel_rfl) (by kernel_rfl) (bin_neq_int 3 (by kernel_rfl) N N _ false (by simp))) ?_
          refine any_pure 24 (o := ⟨some 135, Op.pick (Operand.tmp 126) (Operand.const (Value.bool true)) (Operand.tmp 134), 4, "outright.go:72", #[⟨15, .data⟩, ⟨23, .data⟩], none⟩) (.bool false) (by kernel_rfl) rfl (by kernel_rfl) (by kernel_rfl) ?_
          refine any_pure 25 (o := ⟨some 136, Op.move (Operand.tmp 135), 4, "outright.go:72", #[⟨24, .data⟩, ⟨17, .chain⟩], none⟩) (.bool false) (by kernel_rfl) rfl (by kernel_rfl) (by kernel_rfl) ?_
          refine wpAny_take (i := 26) (oi := ⟨some 137, Op.move (Operand.tmp 15), 29, "outright.go:72", #[⟨25, .guard⟩], some (25, false)⟩) (v := (.pointer (some ⟨L2, 0, none⟩))) rfl (by kernel_rfl) (by kernel_rfl) (by kernel_rfl) (fun _ _ _ h => h) (Or.inl ⟨by kernel_rfl, fun _ => (by kernel_rfl)⟩) ?_
          refine any_pure 27 (o := ⟨some 138, Op.move (Operand.tmp 7), 9, "outright.go:72", #[⟨25, .guard⟩], some (25, false)⟩) (.string ⟨lt.toArray⟩) (by kernel_rfl) rfl (by kernel_rfl) (by kernel_rfl) ?_
          refine any_call 28 (o := ⟨some 139, Op.call { callee := Callee.value (Operand.func 14), args := #[Operand.tmp 137, Operand.tmp 138], argTypes := #[29, 9] }, 30, "outright.go:72", #[⟨26, .data⟩, ⟨27, .data⟩, ⟨25, .chain⟩, ⟨25, .guard⟩], some (25, false)⟩) 14 _ _ #[(.pointer (some ⟨L2, 0, none⟩)), (.string ⟨lt.toArray⟩)] (by kernel_rfl) rfl (by kernel_rfl) rfl (by kernel_rfl) en14 (Calls.mono (HAp _ B9).out ?_)
          rintro e w11 ⟨rfl, h11, ⟨A11, c11, g11⟩, _⟩
          refine ⟨_, rfl, ?_⟩
          refine any_pure 29 (o := ⟨some 140, Op.binOp BinOp.neq 30 (Operand.tmp 139) (Operand.const (Value.int IntKind.i64 0)) 30, 4, "outright.go:72", #[⟨28, .data⟩, ⟨25, .guard⟩], some (25, false)⟩) (.bool false) (by kernel_rfl) rfl (by kernel_rfl) (by kernel_rfl) ?_
          refine any_pure 30 (o := ⟨some 141, Op.pick (Operand.tmp 136) (Operand.const (Value.bool true)) (Operand.tmp 140), 4, "outright.go:72", #[⟨25, .data⟩, ⟨29, .data⟩], none⟩) (.bool false) (by kernel_rfl) rfl (by kernel_rfl) (by kernel_rfl) ?_
          refine wpAny_done (by kernel_rfl) ?_ _
          simp only [Act.put, List.setIfInBounds_toArray, List.set_cons_succ, List.set_cons_zero]
          have H11 := Lib.hid h11
          clear h11 g9 r8 b8 b9 B9 hb' hNN HQ' HSm HAp HZ g7 hlt7 gp gf g11 hlt hk hz2 HL1 hm hm1
          have hw11 := HB3.out.trans (H11.out.bel.mono HB3.out.size)
          have HR11 := Lib.hid (keep_row HR3.out HLr.out (by omega) H11.out.bel)
          go_wp2_with (first | (at_builtin; refine ap_many rfl (.tmp 143) (.tmp 146) 22 rfl eStr (some ⟨b3, o3, none⟩) q c3 (scs (rs.take q)) (Own.built w11 9 0 [] (Below.refl _ _) rfl (by omega)) rfl rfl (by rw [Nat.mul_one, List.length_map]; exact HRQ.out) (HR11.out.alloc _) (oneCells_scs _) (by omega) ?_; intro v12 w12 own12 hsz12) | (at_builtin; refine ap_one rfl (.tmp 147) (.tmp 149) 22 rfl eStr [.string ⟨lt.toArray⟩] own12 rfl rfl rfl (by simp [Value.oneCell']) (by omega) ?_; intro v13 w13 own13 hsz13))
          have hz13 : 0 + q + 1 = q + 1 := by omega
          rw [hz13] at own13
          obtain ⟨A13, c13, rfl, hc13, rd13⟩ := own13.rd
          have B13 := Lib.hid (hw11.trans (own13.bel.mono hw11.size))
          have B11 := Lib.hid own13.bel
          have HWr := Lib.hid (written_any A13 c13 (q + 1) (rs.take q ++ [lt]) w13 (by simpa [scs] using rd13) (by rw [List.length_append, HRQ.out]; rfl) hc13 HFl.out (HT.out.below B13.out HT.out.lt))
          clear own12 own13 hsz12 hsz13 rd13 hc13 hz13
          refine HWr.out.mono ?_
          rintro e w15 ⟨v15, u15, rfl, hby, _, hb15⟩
          have hb15d : Below w13.heap.size w13 w15.drew := hb15.drew
          have B15 := Lib.hid (B13.out.trans (hb15d.mono B13.out.size))
          have hby' : By w15.drew v15 (logB 1 (rs.take q ++ [lt])) := hby
          obtain ⟨A15, c15, rfl, _⟩ := hby'.form
          have cv15 := hby'.conv
          obtain ⟨A16, c16, g16, _, cv16, _⟩ := (H11.out.below (B11.out.trans (hb15d.mono B11.out.size))).disk.bytes
          clear hby hby' hb15 hb15d HWr
          generalize (logB 1 (rs.take q ++ [lt])).length = z at *
          generalize (ByteArray.mk (logB 1 (rs.take q ++ [lt])).toArray) = S15 at *
          go_wp2_with fail
          refine wp_region_any (by kernel_rfl) ?_
          change wpAny _ _ _ _ _ _ _ (World.drew _)
          refine any_pure 0 (o := ⟨some 155, Op.move (Operand.tmp 18), 4, "outright.go:76", #[], none⟩) (.bool true) (by kernel_rfl) rfl (by kernel_rfl) (by kernel_rfl) ?_
          refine any_pure 1 (o := ⟨some 156, Op.move (Operand.tmp 155), 4, "outright.go:76", #[⟨0, .data⟩], none⟩) (.bool true) (by kernel_rfl) rfl (by kernel_rfl) (by kernel_rfl) ?_
          refine wpAny_take (i := 2) (oi := ⟨some 157, Op.move (Operand.tmp 16), 26, "outright.go:76", #[⟨1, .guard⟩], some (1, true)⟩) (v := (.slice A15 z c15)) rfl (by kernel_rfl) (by kernel_rfl) (by kernel_rfl) (fun _ _ _ h => h) (Or.inl ⟨by kernel_rfl, fun _ => (by kernel_rfl)⟩) ?_
          refine wpAny_take (i := 4) (oi := ⟨some 159, Op.move (Operand.tmp 8), 25, "outright.go:76", #[⟨1, .guard⟩], some (1, true)⟩) (v := (.pointer (some ⟨w3.heap.size, 0, none⟩))) rfl (by kernel_rfl) (by kernel_rfl) (by kernel_rfl) (fun _ _ _ h => h) (Or.inl ⟨by kernel_rfl, fun _ => (by kernel_rfl)⟩) ?_
          refine wpAny_take (i := 5) (oi := ⟨some 160, Op.nilCheck (Operand.tmp 159), 0, "outright.go:76", #[⟨4, .data⟩, ⟨1, .guard⟩], some (1, true)⟩) (v := (.pointer (some ⟨w3.heap.size, 0, none⟩))) rfl (by kernel_rfl) (by kernel_rfl) (by kernel_rfl) (fun _ _ _ h => h) (Or.inl ⟨by kernel_rfl, fun _ => (by kernel_rfl)⟩) ?_
          refine wpAny_take (i := 6) (oi := ⟨some 161, Op.fieldAddr 28 (Operand.tmp 160) 0, 0, "outright.go:76", #[⟨5, .data⟩, ⟨1, .guard⟩], some (1, true)⟩) (v := (.pointer (some ⟨w3.heap.size, 0, none⟩))) rfl (by kernel_rfl) (by kernel_rfl) (by kernel_rfl) (fun _ _ _ h => h) (Or.inl ⟨by kernel_rfl, fun _ => (by kernel_rfl)⟩) ?_
          refine any_val_val 3 7 (o := ⟨some 158, Op.convert 26 9 (Operand.tmp 157), 9, "outright.go:76", #[⟨2, .data⟩, ⟨1, .guard⟩], some (1, true)⟩) (o' := ⟨some 162, Op.load 26 (Operand.tmp 161), 26, "outright.go:76", #[⟨6, .data⟩, ⟨1, .guard⟩], some (1, true)⟩) (.string S15) (.slice A16 z c16) (by kernel_rfl) rfl rfl (by kernel_rfl) (by kernel_rfl) (ex_conv _ _ _ rfl (by kernel_rfl) cv15) (ex_load _ _ _ rfl (by kernel_rfl) (by kernel_rfl) g16) ?_ ?_
          · skip
            refine any_load 7 (o := ⟨some 162, Op.load 26 (Operand.tmp 161), 26, "outright.go:76", #[⟨6, .data⟩, ⟨1, .guard⟩], some (1, true)⟩) _ _ (.slice A16 z c16) (by kernel_rfl) rfl (by kernel_rfl) rfl (by kernel_rfl) (by kernel_rfl) g16 ?_
            refine any_conv 8 (o := ⟨some 163, Op.convert 26 9 (Operand.tmp 162), 9, "outright.go:76", #[⟨7, .data⟩, ⟨1, .guard⟩], some (1, true)⟩) _ _ (.string S15) (by kernel_rfl) rfl (by kernel_rfl) rfl (by kernel_rfl) cv16 ?_
            refine any_pure 9 (o := ⟨some 164, Op.binOp BinOp.eql 9 (Operand.tmp 158) (Operand.tmp 163) 9, 4, "outright.go:76", #[⟨3, .data⟩, ⟨8, .data⟩, ⟨1, .guard⟩], some (1, true)⟩) (.bool true) (by kernel_rfl) rfl (by kernel_rfl) (ex_bin rfl (by kernel_rfl) (by kernel_rfl) (by kernel_rfl) (bin_eql_str S15 S15 _ true (beq_self_eq_true _))) ?_
            refine any_pure 10 (o := ⟨some 165, Op.pick (Operand.tmp 156) (Operand.tmp 164) (Operand.const (Value.bool false)), 4, "outright.go:76", #[⟨1, .data⟩, ⟨9, .data⟩], none⟩) (.bool true) (by kernel_rfl) rfl (by kernel_rfl) (by kernel_rfl) ?_
            refine any_pure 11 (o := ⟨some 166, Op.move (Operand.tmp 165), 4, "outright.go:76", #[⟨10, .data⟩, ⟨1, .chain⟩], none⟩) (.bool true) (by kernel_rfl) rfl (by kernel_rfl) (by kernel_rfl) ?_
            refine any_call 12 (o := ⟨some 167, Op.call { callee := Callee.value (Operand.func 19), args := #[], argTypes := #[] }, 4, "outright.go:76", #[⟨11, .chain⟩, ⟨11, .guard⟩], some (11, true)⟩) 19 _ _ #[] (by kernel_rfl) rfl (by kernel_rfl) rfl (by kernel_rfl) en19 (Calls.mono (awake_any w15.drew (HT.out.below B15.out HT.out.lt)) ?_)
            rintro e w16 ⟨rfl, b16⟩
            refine ⟨_, rfl, ?_⟩
            refine any_pure 13 (o := ⟨some 168, Op.pick (Operand.tmp 166) (Operand.tmp 167) (Operand.const (Value.bool false)), 4, "outright.go:76", #[⟨11, .data⟩, ⟨12, .data⟩], none⟩) (.bool true) (by kernel_rfl) rfl (by kernel_rfl) (by kernel_rfl) ?_
            refine any_pure 14 (o := ⟨some 6, Op.assign (Operand.tmp 168), 4, "outright.go:76", #[⟨13, .data⟩, ⟨12, .chain⟩, ⟨0, .phase⟩, ⟨1, .phase⟩, ⟨2, .phase⟩, ⟨3, .phase⟩, ⟨4, .phase⟩, ⟨5, .phase⟩, ⟨6, .phase⟩, ⟨7, .phase⟩, ⟨8, .phase⟩, ⟨9, .phase⟩, ⟨10, .phase⟩, ⟨11, .phase⟩, ⟨12, .phase⟩, ⟨13, .phase⟩], none⟩) (.bool true) (by kernel_rfl) rfl (by kernel_rfl) (by kernel_rfl) ?_
            refine wpAny_done (by kernel_rfl) ?_ _
            exact end_ret (fn := Tryd.f3) (v := .bool true) rfl (by with_reducible assumption) (by kernel_rfl) (by kernel_rfl) ⟨rfl, Below.trans B15.out (b16.mono B15.out.size)⟩
          · skip
            refine any_val_val 3 8 (o := ⟨some 158, Op.convert 26 9 (Operand.tmp 157), 9, "outright.go:76", #[⟨2, .data⟩, ⟨1, .guard⟩], some (1, true)⟩) (o' := ⟨some 163, Op.convert 26 9 (Operand.tmp 162), 9, "outright.go:76", #[⟨7, .data⟩, ⟨1, .guard⟩], some (1, true)⟩) (.string S15) (.string S15) (by kernel_rfl) rfl rfl (by kernel_rfl) (by kernel_rfl) (ex_conv _ _ _ rfl (by kernel_rfl) cv15) (ex_conv _ _ _ rfl (by kernel_rfl) cv16) ?_ ?_
            · skip
              refine any_conv 8 (o := ⟨some 163, Op.convert 26 9 (Operand.tmp 162), 9, "outright.go:76", #[⟨7, .data⟩, ⟨1, .guard⟩], some (1, true)⟩) _ _ (.string S15) (by kernel_rfl) rfl (by kernel_rfl) rfl (by kernel_rfl) cv16 ?_
              refine any_pure 9 (o := ⟨some 164, Op.binOp BinOp.eql 9 (Operand.tmp 158) (Operand.tmp 163) 9, 4, "outright.go:76", #[⟨3, .data⟩, ⟨8, .data⟩, ⟨1, .guard⟩], some (1, true)⟩) (.bool true) (by kernel_rfl) rfl (by kernel_rfl) (ex_bin rfl (by kernel_rfl) (by kernel_rfl) (by kernel_rfl) (bin_eql_str S15 S15 _ true (beq_self_eq_true _))) ?_
              refine any_pure 10 (o := ⟨some 165, Op.pick (Operand.tmp 156) (Operand.tmp 164) (Operand.const (Value.bool false)), 4, "outright.go:76", #[⟨1, .data⟩, ⟨9, .data⟩], none⟩) (.bool true) (by kernel_rfl) rfl (by kernel_rfl) (by kernel_rfl) ?_
              refine any_pure 11 (o := ⟨some 166, Op.move (Operand.tmp 165), 4, "outright.go:76", #[⟨10, .data⟩, ⟨1, .chain⟩], none⟩) (.bool true) (by kernel_rfl) rfl (by kernel_rfl) (by kernel_rfl) ?_
              refine any_call 12 (o := ⟨some 167, Op.call { callee := Callee.value (Operand.func 19), args := #[], argTypes := #[] }, 4, "outright.go:76", #[⟨11, .chain⟩, ⟨11, .guard⟩], some (11, true)⟩) 19 _ _ #[] (by kernel_rfl) rfl (by kernel_rfl) rfl (by kernel_rfl) en19 (Calls.mono (awake_any w15.drew (HT.out.below B15.out HT.out.lt)) ?_)
              rintro e w16 ⟨rfl, b16⟩
              refine ⟨_, rfl, ?_⟩
              refine any_pure 13 (o := ⟨some 168, Op.pick (Operand.tmp 166) (Operand.tmp 167) (Operand.const (Value.bool false)), 4, "outright.go:76", #[⟨11, .data⟩, ⟨12, .data⟩], none⟩) (.bool true) (by kernel_rfl) rfl (by kernel_rfl) (by kernel_rfl) ?_
              refine any_pure 14 (o := ⟨some 6, Op.assign (Operand.tmp 168), 4, "outright.go:76", #[⟨13, .data⟩, ⟨12, .chain⟩, ⟨0, .phase⟩, ⟨1, .phase⟩, ⟨2, .phase⟩, ⟨3, .phase⟩, ⟨4, .phase⟩, ⟨5, .phase⟩, ⟨6, .phase⟩, ⟨7, .phase⟩, ⟨8, .phase⟩, ⟨9, .phase⟩, ⟨10, .phase⟩, ⟨11, .phase⟩, ⟨12, .phase⟩, ⟨13, .phase⟩], none⟩) (.bool true) (by kernel_rfl) rfl (by kernel_rfl) (by kernel_rfl) ?_
              refine wpAny_done (by kernel_rfl) ?_ _
              exact end_ret (fn := Tryd.f3) (v := .bool true) rfl (by with_reducible assumption) (by kernel_rfl) (by kernel_rfl) ⟨rfl, Below.trans B15.out (b16.mono B15.out.size)⟩
            · skip
              refine any_conv 3 (o := ⟨some 158, Op.convert 26 9 (Operand.tmp 157), 9, "outright.go:76", #[⟨2, .data⟩, ⟨1, .guard⟩], some (1, true)⟩) _ _ (.string S15) (by kernel_rfl) rfl (by kernel_rfl) rfl (by kernel_rfl) cv15 ?_
              refine any_pure 9 (o := ⟨some 164, Op.binOp BinOp.eql 9 (Operand.tmp 158) (Operand.tmp 163) 9, 4, "outright.go:76", #[⟨3, .data⟩, ⟨8, .data⟩, ⟨1, .guard⟩], some (1, true)⟩) (.bool true) (by kernel_rfl) rfl (by kernel_rfl) (ex_bin rfl (by kernel_rfl) (by kernel_rfl) (by kernel_rfl) (bin_eql_str S15 S15 _ true (beq_self_eq_true _))) ?_
              refine any_pure 10 (o := ⟨some 165, Op.pick (Operand.tmp 156) (Operand.tmp 164) (Operand.const (Value.bool false)), 4, "outright.go:76", #[⟨1, .data⟩, ⟨9, .data⟩], none⟩) (.bool true) (by kernel_rfl) rfl (by kernel_rfl) (by kernel_rfl) ?_
              refine any_pure 11 (o := ⟨some 166, Op.move (Operand.tmp 165), 4, "outright.go:76", #[⟨10, .data⟩, ⟨1, .chain⟩], none⟩) (.bool true) (by kernel_rfl) rfl (by kernel_rfl) (by kernel_rfl) ?_
              refine any_call 12 (o := ⟨some 167, Op.call { callee := Callee.value (Operand.func 19), args := #[], argTypes := #[] }, 4, "outright.go:76", #[⟨11, .chain⟩, ⟨11, .guard⟩], some (11, true)⟩) 19 _ _ #[] (by kernel_rfl) rfl (by kernel_rfl) rfl (by kernel_rfl) en19 (Calls.mono (awake_any w15.drew (HT.out.below B15.out HT.out.lt)) ?_)
              rintro e w16 ⟨rfl, b16⟩
              refine ⟨_, rfl, ?_⟩
              refine any_pure 13 (o := ⟨some 168, Op.pick (Operand.tmp 166) (Operand.tmp 167) (Operand.const (Value.bool false)), 4, "outright.go:76", #[⟨11, .data⟩, ⟨12, .data⟩], none⟩) (.bool true) (by kernel_rfl) rfl (by kernel_rfl) (by kernel_rfl) ?_
              refine any_pure 14 (o := ⟨some 6, Op.assign (Operand.tmp 168), 4, "outright.go:76", #[⟨13, .data⟩, ⟨12, .chain⟩, ⟨0, .phase⟩, ⟨1, .phase⟩, ⟨2, .phase⟩, ⟨3, .phase⟩, ⟨4, .phase⟩, ⟨5, .phase⟩, ⟨6, .phase⟩, ⟨7, .phase⟩, ⟨8, .phase⟩, ⟨9, .phase⟩, ⟨10, .phase⟩, ⟨11, .phase⟩, ⟨12, .phase⟩, ⟨13, .phase⟩], none⟩) (.bool true) (by kernel_rfl) rfl (by kernel_rfl) (by kernel_rfl) ?_
              refine wpAny_done (by kernel_rfl) ?_ _
              exact end_ret (fn := Tryd.f3) (v := .bool true) rfl (by with_reducible assumption) (by kernel_rfl) (by kernel_rfl) ⟨rfl, Below.trans B15.out (b16.mono B15.out.size)⟩
end Go.Proofs.YtandanbojfdfjaaDoor
