import Derived.Test.YtandanbojfdfjaaDoorSys
import Derived.Test.YtandanbojfdfjaaDoorStepAny
import Derived.Deep.RegionWith
import Derived.Lib.ConvBytes
namespace Go.Proofs.YtandanbojfdfjaaDoor
open Go.ChangeShapes Go.WideShapes Go.ChangeAt Go.RowKit

/-- a string made into bytes -/
theorem conv_bytes (w : World) (s : ByteArray) : ∃ c w', (convert 9 26 (.string s)).run Tryd.prog w = .ok (.slice (some ⟨w.heap.size, 0, none⟩) s.size c) w' ∧ s.size ≤ c ∧ Below w.heap.size w w' ∧ Rd w' w'.heap.size (some ⟨w.heap.size, 0, none⟩) (bcs s.data.toList) := by
  refine ⟨grownCap w s.size 0 5, Lib.bytesWorld w 5 s, Lib.run_convert_string_bytes (P := Tryd.prog) (u := .string) w 9 26 5 s (by kernel_rfl) (by kernel_rfl) (by kernel_rfl), grownCap_ge _ _ _ _, ⟨rfl, rfl, rfl, by rw [Lib.bytesWorld_size]; omega, fun k hk => Lib.bytesWorld_at_old w 5 s k hk⟩, fun _ => ⟨w.heap.size, 0, rfl, by rw [Lib.bytesWorld_size]; omega, fun j u hu => ?_⟩⟩
  have hj : j < s.size := by
    have := (List.getElem?_eq_some_iff.1 hu).1
    simpa using this
  rw [Nat.zero_add, Lib.bytesWorld_cell w 5 s j hj, ← hu]
  simp [hj]

theorem conv_num (w : World) (s : ByteArray) (l : Bs) (n : Nat) (hl : s.data.toList = l) (hn : s.size = n) : ∃ c w', (convert 9 26 (.string s)).run Tryd.prog w = .ok (.slice (some ⟨w.heap.size, 0, none⟩) n c) w' ∧ n ≤ c ∧ Below w.heap.size w w' ∧ Rd w' w'.heap.size (some ⟨w.heap.size, 0, none⟩) (bcs l) := by
  subst hl hn; exact conv_bytes w s
def aw_b1 : Bs := [50, 57, 55, 55, 32, 65, 10, 51, 48, 53, 56, 32, 66, 50, 10]
def aw_b2 : Bs := [50, 57, 55, 55, 32, 65, 10, 51, 48, 53, 56, 32, 66, 51, 10]
theorem aw_s1 : (scanS (aw_b1.take 14)).1.recs = [[65]] ∧ (scanS (aw_b1.take 14)).1.size = 7 ∧ (scanS (aw_b1.take 14)).2 = 1 := by decide +kernel
theorem aw_s2 : (scanS aw_b2).1.recs = [[65]] ∧ (scanS aw_b2).1.size = 7 ∧ (scanS aw_b2).2 = 2 := by decide +kernel
theorem scan_num (A : Option Addr) (c n : Nat) (b : Bs) (rs : List Bs) (m t : Nat) (w w0 : World) (hr : Rd w w.heap.size A (bcs b)) (hcap : n ≤ c) (hlen : b.length ≤ 2000000) (hn : b.length = n) (hT : Tb w0) (hb : Below w0.heap.size w0 w) (h : (scanS b).1.recs = rs ∧ (scanS b).1.size = m ∧ (scanS b).2 = t) :
    Calls Tryd.prog 20 #[.slice A n c] w fun e w' => ∃ a1 c1, e = .returned (.tuple #[.slice a1 rs.length c1, .int .i64 m, .int .u8 t]) ∧ w'.ownsRow w.heap.size 9 1 (.slice a1 rs.length c1) rs.length (scs rs) ∧ Rd w' w'.heap.size a1 (scs rs) ∧ Below w0.heap.size w0 w' := by
  obtain ⟨h1, h2, h3⟩ := h
  have := Scan_rd A c n b w hr (by omega) hlen hn (hT.below hb hT.lt)
  rw [h1, h2, h3] at this
  refine this.mono ?_
  rintro e w' ⟨a1, c1, he, hrow, hb'⟩
  obtain ⟨A', c', e', _, hrd, _⟩ := row_rd hrow
  obtain ⟨rfl, rfl⟩ : a1 = A' ∧ c1 = c' := by simpa using e'
  exact ⟨a1, c1, he, hrow, hrd, hb.trans (hb'.mono hb.size)⟩
theorem same_num {A B : Option Addr} {c d n m : Nat} {xs ys : List Bs} {w w0 : World} {r : Bool} (hx : Rd w w.heap.size A (scs xs)) (hy : Rd w w.heap.size B (scs ys)) (h0 : Below w0.heap.size w0 w) (hn : xs.length = n) (hn' : ys.length = m) (hm : n ≤ 1000000) (hm' : m ≤ 1000000) (hr : decide (xs = ys) = r) :
    Calls Tryd.prog 15 #[.slice A n c, .slice B m d] w fun e w' => e = .returned (.bool r) ∧ Below w.heap.size w w' ∧ Below w0.heap.size w0 w' := by
  subst hn hn'
  have := same_any A B c d xs ys w hx hy (by omega) (by omega)
  rw [hr] at this
  exact this.mono fun _ _ ⟨he, h⟩ => ⟨he, h.below _, h0.trans (h.below _)⟩
theorem aw_l1 : linR 1 [65] = ([50, 57, 55, 55, 32, 65, 10], 0) := by decide +kernel
theorem aw_l2 : linR 2977 [66, 50] = ([51, 48, 53, 56, 32, 66, 50, 10], 0) := by decide +kernel
theorem aw_l3 : linR 1 [] = ([48, 48, 51, 49, 32, 10], 0) := by decide +kernel
theorem line_num (x : Int) (s : ByteArray) (l : Bs) (w w0 : World) (hT : Tb w0) (hb : Below w0.heap.size w0 w) (hx : 0 ≤ x) (hh : x < 9973) (h : linR x s.data.toList = (l, 0)) :
    Calls Tryd.prog 23 #[.int .i64 x, .string s] w fun e w' => e = .returned (.tuple #[.string ⟨l.toArray⟩, .int .i64 0]) ∧ Below w0.heap.size w0 w' := by
  have := Line_any x s w (by omega) (by omega) (hT.below hb hT.lt)
  rw [h] at this
  exact this.mono fun e w' ⟨he, h'⟩ => ⟨he, hb.trans (h'.mono hb.size)⟩

def aw_x1 : St := ⟨[[65]], 2977, 7⟩
def aw_d1 : Bs := [50, 57, 55, 55, 32, 65, 10]
def aw_d2 : Bs := [50, 57, 55, 55, 32, 65, 10, 51, 48, 53]
instance : DecidableEq St := fun a b => decidable_of_iff (a.recs = b.recs ∧ a.last = b.last ∧ a.size = b.size) (by cases a; cases b; simp)
theorem aw_o : openR [] 10 = (some .zero, 0, [], 10) := by decide +kernel
theorem aw_a1 : appR [] 10 .zero false [65] = (0, aw_d1, 3, aw_x1, false) := by decide +kernel
theorem aw_a2 : appR aw_d1 3 aw_x1 false [66, 50] = (420, aw_d2, 0, aw_x1, true) := by decide +kernel
theorem aw_a3 : appR aw_d2 0 aw_x1 true [67] = (423, aw_d2, 0, aw_x1, true) := by decide +kernel

/-- Append, its result given in numbers -/
theorem app_num {w0 w : World} {base L D : Nat} {b : Bs} {p : Int} {s : St} {cl : Bool} (h : Sys w0 w base L D b p s cl) (hT : Tb w0) (t : ByteArray) {n : Nat} {b' : Bs} {p' : Int} {s' : St} {cl' : Bool} (hx : s.last < 9973) (hn : b.length ≤ 2000000) (hl : -(2^63) ≤ p) (hh : p < 2^63) (hss : s.size ≤ 1000000000) (hrl : s.recs.length ≤ 1000000000)
    (hr : appR b p s cl t.data.toList = (n, b', p', s', cl')) :
    Calls Tryd.prog 14 #[.pointer (some ⟨L, 0, none⟩), .string t] w fun e w' => e = .returned (.int .i64 n) ∧ Sys w0 w' base L D b' p' s' cl' ∧ Kp w w' (SS w base L D) := by
  have := h.app hT t hx hn hl hh hss hrl
  rw [hr] at this
  exact this
theorem aw_app1 {w0 w : World} {base L D : Nat} (h : Sys w0 w base L D [] 10 .zero false) (hT : Tb w0) :
    Calls Tryd.prog 14 #[.pointer (some ⟨L, 0, none⟩), .string ⟨#[65]⟩] w fun e w' => e = .returned (.int .i64 0) ∧ Sys w0 w' base L D aw_d1 3 aw_x1 false ∧ w'.cell? ⟨D, 1, none⟩ = some (.int .i64 3) := by
  refine (app_num h hT ⟨#[65]⟩ (by decide) (by decide) (by decide) (by decide) (by decide) (by decide) aw_a1).mono ?_
  rintro e w' ⟨he, h', _⟩
  obtain ⟨A, c, _, h1, _⟩ := h'.disk.bytes
  exact ⟨he, h', h1⟩
theorem aw_app2 {w0 w : World} {base L D : Nat} (h : Sys w0 w base L D aw_d1 3 aw_x1 false) (hT : Tb w0) :
    Calls Tryd.prog 14 #[.pointer (some ⟨L, 0, none⟩), .string ⟨#[66, 50]⟩] w fun e w' => e = .returned (.int .i64 420) ∧ Sys w0 w' base L D aw_d2 0 aw_x1 true := by
  refine (app_num h hT ⟨#[66, 50]⟩ (by decide) (by decide) (by decide) (by decide) (by decide) (by decide) aw_a2).mono ?_
  rintro e w' ⟨he, h', _⟩
  exact ⟨he, h'⟩
theorem aw_app3 {w0 w : World} {base L D : Nat} (h : Sys w0 w base L D aw_d2 0 aw_x1 true) (hT : Tb w0) :
    Calls Tryd.prog 14 #[.pointer (some ⟨L, 0, none⟩), .string ⟨#[67]⟩] w fun e w' => e = .returned (.int .i64 423) ∧ Sys w0 w' base L D aw_d2 0 aw_x1 true ∧ ∃ A c, w'.cell? ⟨D, 0, none⟩ = some (.slice A 10 c) ∧ (convert 26 9 (.slice A 10 c)).run Tryd.prog w' = .ok (.string ⟨#[50, 57, 55, 55, 32, 65, 10, 51, 48, 53]⟩) w' := by
  refine (app_num h hT ⟨#[67]⟩ (by decide) (by decide) (by decide) (by decide) (by decide) (by decide) aw_a3).mono ?_
  rintro e w' ⟨he, h', _⟩
  obtain ⟨A, c, h0, h1, h2, _⟩ := h'.disk.bytes
  exact ⟨he, h', A, c, h0, h2⟩

theorem aw_last {w0 w : World} {base L D : Nat} (h : Sys w0 w base L D aw_d2 0 aw_x1 true) : Calls Tryd.prog 24 #[.pointer (some ⟨L, 0, none⟩)] w fun e w' => e = .returned (.int .i64 2977) ∧ w = w' := h.last
theorem aw_size {w0 w : World} {base L D : Nat} (h : Sys w0 w base L D aw_d2 0 aw_x1 true) : Calls Tryd.prog 17 #[.pointer (some ⟨L, 0, none⟩)] w fun e w' => e = .returned (.int .i64 7) ∧ w = w' := h.size
theorem aw_recs {w0 w : World} {base L D : Nat} (h : Sys w0 w base L D aw_d2 0 aw_x1 true) : Calls Tryd.prog 16 #[.pointer (some ⟨L, 0, none⟩)] w fun e w' => ∃ a c, e = .returned (.slice a 1 c) ∧ Rd w' w'.heap.size a (scs [[65]]) ∧ Below w.heap.size w w' ∧ Below w0.heap.size w0 w' :=
  (h.records (by decide)).mono fun e w' ⟨a, c, h1, h2, h3⟩ => ⟨a, c, h1, h2, h3, h.bel.trans (h3.mono h.bel.size)⟩
theorem aw_same1 {w w0 : World} {a : Option Addr} {c : Nat} (hx : Rd w w.heap.size a (scs [[65]])) (hb : Below w0.heap.size w0 w) : Calls Tryd.prog 15 #[.slice a 1 c, .slice (some ⟨w.heap.size, 0, none⟩) 1 1] (w.alloc (.cells #[.string ⟨#[65]⟩] 9)) fun e w' => e = .returned (.bool true) ∧ Below w0.heap.size w0 w' :=
  (same_num (xs := [[65]]) (ys := [[65]]) (hx.alloc _) (Rd.built (scs [[65]])) (hb.trans ((below_alloc _ _).mono hb.size)) rfl rfl (by decide) (by decide) (r := true) (by decide)).mono fun e w' ⟨h1, _, h2⟩ => ⟨h1, h2⟩
theorem aw_same2 {w w' w0 : World} {a : Option Addr} {c : Nat} (hb : Below (w.alloc (.cells #[.string ⟨#[65]⟩] 9)).heap.size (w.alloc (.cells #[.string ⟨#[65]⟩] 9)) w') (hx : Rd w' w'.heap.size a (scs [[65]])) (hb0 : Below w0.heap.size w0 w') : Calls Tryd.prog 15 #[.slice a 1 c, .slice (some ⟨w.heap.size, 0, none⟩) 1 1] w' fun e w' => e = .returned (.bool true) ∧ Below w0.heap.size w0 w' :=
  (same_num (xs := [[65]]) (ys := [[65]]) hx ((Rd.built (scs [[65]])).now hb) hb0 rfl rfl (by decide) (by decide) (r := true) (by decide)).mono fun e w' ⟨h1, _, h2⟩ => ⟨h1, h2⟩

set_option maxRecDepth 100000 in
set_option maxHeartbeats 20000000 in
theorem awake_any (w : World) (hT : Tb w) : Calls Tryd.prog 19 #[] w fun e w' => e = .returned (.bool true) ∧ Below w.heap.size w w' := by
  have HT := Lib.hid hT
  clear hT
  go_enter Tryd.func19, Tryd.ntmps19
  go_wp2_with fail
  refine (line_num 1 _ _ _ w HT.out (Below.refl _ _) (by omega) (by omega) aw_l1).mono ?_
  rintro e w1 ⟨rfl, hb1⟩
  go_wp2_with fail
  refine (line_num 2977 _ _ _ w HT.out hb1 (by omega) (by omega) aw_l2).mono ?_
  rintro e w2 ⟨rfl, hb2⟩
  go_wp2_with fail
  refine (line_num 1 _ _ _ w HT.out hb2 (by omega) (by omega) aw_l3).mono ?_
  rintro e w3 ⟨rfl, hb3⟩
  clear hb1 hb2
  obtain ⟨c3, w4, hcv, hc3, hb4, hr4⟩ := conv_num w3 (⟨#[50, 57, 55, 55, 32, 65, 10]⟩ ++ ⟨#[51, 48, 53, 56, 32, 66, 50, 10]⟩) aw_b1 15 (by decide +kernel) (by decide +kernel)
  have HR4 := Lib.hid hr4
  have HB4 := Lib.hid (hb3.trans (hb4.mono hb3.size))
  clear hb3 hb4 hr4
  go_wp2_with fail
  refine (scan_num _ _ 14 (aw_b1.take 14) _ _ _ w4 w (by have := HR4.out.take 14; rw [bcs_take] at this; exact this) (by omega) (by decide) (by decide) HT.out HB4.out aw_s1).mono ?_
  clear hcv hc3
  rintro e w5 ⟨a5, c5, rfl, _, hr5, hb5⟩
  go_wp2_with fail
  refine (same_num (xs := [[65]]) (ys := [[65]]) (hr5.alloc _) (Rd.built (scs [[65]])) (hb5.trans ((below_alloc _ _).mono hb5.size)) rfl rfl (by decide) (by decide) (r := true) (by decide)).mono ?_
  rintro e w6 ⟨rfl, _, hb6⟩
  have HB6 := Lib.hid hb6
  clear hr5 hb5 hb6 HR4 HB4
  obtain ⟨c7, w7, hcv, hc7, hb7, hr7⟩ := conv_num w6 (⟨#[50, 57, 55, 55, 32, 65, 10]⟩ ++ ⟨#[51, 48, 53, 56, 32, 66, 51, 10]⟩) aw_b2 15 (by decide +kernel) (by decide +kernel)
  have HR7 := Lib.hid hr7
  have HB7 := Lib.hid (HB6.out.trans (hb7.mono HB6.out.size))
  clear hb7 hr7 HB6
  go_wp2_with fail
  refine (scan_num _ _ 15 aw_b2 _ _ _ w7 w HR7.out (by omega) (by decide) (by decide) HT.out HB7.out aw_s2).mono ?_
  clear hcv hc7
  rintro e w8 ⟨a8, c8, rfl, _, hr8, hb8⟩
  go_wp2_with fail
  refine (same_num (xs := [[65]]) (ys := [[65]]) (hr8.alloc _) (Rd.built (scs [[65]])) (hb8.trans ((below_alloc _ _).mono hb8.size)) rfl rfl (by decide) (by decide) (r := true) (by decide)).mono ?_
  rintro e w9 ⟨rfl, _, hb9⟩
  have HB9 := Lib.hid hb9
  clear hr8 hb8 hb9 HR7 HB7
  go_wp2_with fail
  have HO : Hid _ := Lib.hid (open_any w9.heap.size [] 10 (w9.alloc (.cells #[.slice none 0 0, .int .i64 10] 28)) ⟨.slice none 0 0, Blk.new _ _ _, By.nil _⟩ (by decide) (by decide) (by decide) (HT.out.below (HB9.out.trans ((below_alloc _ _).mono HB9.out.size)) HT.out.lt))
  rw [aw_o] at HO
  refine HO.out.mono ?_
  intro e w10 ho
  obtain ⟨L, rfl, h1, _⟩ := Sys.of_open (HB9.out.trans ((below_alloc _ _).mono HB9.out.size)) HB9.out.size ho
  have H1 := Lib.hid h1
  clear h1 ho HO
  go_wp2_with fail
  have HS := Lib.hid (H1.out.below (w' := w10.drew) ((Below.refl _ _).drew))
  clear H1
  refine wp_region_any (by kernel_rfl) ?_
  change wpAny _ _ _ _ _ _ _ (World.drew _)
  refine any_pure 0 (o := ⟨some 95, Op.move (Operand.tmp 11), 29, "law.go:43", #[], none⟩) (.pointer (some ⟨L, 0, none⟩)) (by kernel_rfl) rfl (by kernel_rfl) (by kernel_rfl) ?_
  refine any_pure 1 (o := ⟨some 96, Op.binOp BinOp.neq 29 (Operand.tmp 95) (Operand.const (Value.pointer none)) 29, 4, "law.go:43", #[⟨0, .data⟩], none⟩) (.bool true) (by kernel_rfl) rfl (by kernel_rfl) (by kernel_rfl) ?_
  refine any_pure 2 (o := ⟨some 97, Op.move (Operand.tmp 96), 4, "law.go:43", #[⟨1, .data⟩], none⟩) (.bool true) (by kernel_rfl) rfl (by kernel_rfl) (by kernel_rfl) ?_
  refine any_pure 3 (o := ⟨some 98, Op.move (Operand.tmp 2), 30, "law.go:43", #[⟨2, .guard⟩], some (2, true)⟩) (.int .i64 0) (by kernel_rfl) rfl (by kernel_rfl) (by kernel_rfl) ?_
  refine any_pure 4 (o := ⟨some 99, Op.binOp BinOp.eql 30 (Operand.tmp 98) (Operand.const (Value.int IntKind.i64 0)) 30, 4, "law.go:43", #[⟨3, .data⟩, ⟨2, .guard⟩], some (2, true)⟩) (.bool true) (by kernel_rfl) rfl (by kernel_rfl) (by kernel_rfl) ?_
  refine any_pure 5 (o := ⟨some 100, Op.pick (Operand.tmp 97) (Operand.tmp 99) (Operand.const (Value.bool false)), 4, "law.go:43", #[⟨2, .data⟩, ⟨4, .data⟩], none⟩) (.bool true) (by kernel_rfl) rfl (by kernel_rfl) (by kernel_rfl) ?_
  refine any_pure 6 (o := ⟨some 101, Op.move (Operand.tmp 100), 4, "law.go:43", #[⟨5, .data⟩, ⟨2, .chain⟩], none⟩) (.bool true) (by kernel_rfl) rfl (by kernel_rfl) (by kernel_rfl) ?_
  refine any_pure 7 (o := ⟨some 102, Op.move (Operand.tmp 11), 29, "law.go:43", #[⟨6, .guard⟩], some (6, true)⟩) (.pointer (some ⟨L, 0, none⟩)) (by kernel_rfl) rfl (by kernel_rfl) (by kernel_rfl) ?_
  refine any_call 8 (o := ⟨some 103, Op.call { callee := Callee.value (Operand.func 14), args := #[Operand.tmp 102, Operand.const (Value.string { data := #[65] })], argTypes := #[29, 9] }, 30, "law.go:43", #[⟨7, .data⟩, ⟨6, .chain⟩, ⟨6, .guard⟩], some (6, true)⟩) 14 _ _ #[(.pointer (some ⟨L, 0, none⟩)), (Value.string { data := #[65] })] (by kernel_rfl) rfl (by kernel_rfl) rfl (by kernel_rfl) en14 (Calls.mono (aw_app1 HS.out HT.out) ?_)
  rintro e W1 ⟨rfl, k1, d1⟩
  refine ⟨_, rfl, ?_⟩
  refine any_pure 9 (o := ⟨some 104, Op.binOp BinOp.eql 30 (Operand.tmp 103) (Operand.const (Value.int IntKind.i64 0)) 30, 4, "law.go:43", #[⟨8, .data⟩, ⟨6, .guard⟩], some (6, true)⟩) (.bool true) (by kernel_rfl) rfl (by kernel_rfl) (by kernel_rfl) ?_
  refine any_pure 10 (o := ⟨some 105, Op.pick (Operand.tmp 101) (Operand.tmp 104) (Operand.const (Value.bool false)), 4, "law.go:43", #[⟨6, .data⟩, ⟨9, .data⟩], none⟩) (.bool true) (by kernel_rfl) rfl (by kernel_rfl) (by kernel_rfl) ?_
  refine any_pure 11 (o := ⟨some 106, Op.move (Operand.tmp 105), 4, "law.go:43", #[⟨10, .data⟩, ⟨8, .chain⟩], none⟩) (.bool true) (by kernel_rfl) rfl (by kernel_rfl) (by kernel_rfl) ?_
  refine any_pure 12 (o := ⟨some 107, Op.move (Operand.tmp 10), 25, "law.go:43", #[⟨11, .guard⟩], some (11, true)⟩) (.pointer (some ⟨w9.heap.size, 0, none⟩)) (by kernel_rfl) rfl (by kernel_rfl) (by kernel_rfl) ?_
  refine any_pure 13 (o := ⟨some 108, Op.nilCheck (Operand.tmp 107), 0, "law.go:43", #[⟨12, .data⟩, ⟨11, .guard⟩], some (11, true)⟩) (.pointer (some ⟨w9.heap.size, 0, none⟩)) (by kernel_rfl) rfl (by kernel_rfl) (by kernel_rfl) ?_
  refine any_pure 14 (o := ⟨some 109, Op.fieldAddr 28 (Operand.tmp 108) 1, 0, "law.go:43", #[⟨13, .data⟩, ⟨11, .guard⟩], some (11, true)⟩) (.pointer (some ⟨w9.heap.size, 1, none⟩)) (by kernel_rfl) rfl (by kernel_rfl) (by kernel_rfl) ?_
  refine any_load 15 (o := ⟨some 110, Op.load 3 (Operand.tmp 109), 3, "law.go:43", #[⟨14, .data⟩, ⟨11, .guard⟩], some (11, true)⟩) _ _ (.int .i64 3) (by kernel_rfl) rfl (by kernel_rfl) rfl (by kernel_rfl) (by kernel_rfl) d1 ?_
  refine any_pure 16 (o := ⟨some 111, Op.binOp BinOp.eql 3 (Operand.tmp 110) (Operand.const (Value.int IntKind.i64 3)) 3, 4, "law.go:43", #[⟨15, .data⟩, ⟨11, .guard⟩], some (11, true)⟩) (.bool true) (by kernel_rfl) rfl (by kernel_rfl) (by kernel_rfl) ?_
  refine any_pure 17 (o := ⟨some 112, Op.pick (Operand.tmp 106) (Operand.tmp 111) (Operand.const (Value.bool false)), 4, "law.go:43", #[⟨11, .data⟩, ⟨16, .data⟩], none⟩) (.bool true) (by kernel_rfl) rfl (by kernel_rfl) (by kernel_rfl) ?_
  refine any_pure 18 (o := ⟨some 113, Op.move (Operand.tmp 112), 4, "law.go:43", #[⟨17, .data⟩, ⟨11, .chain⟩], none⟩) (.bool true) (by kernel_rfl) rfl (by kernel_rfl) (by kernel_rfl) ?_
  refine any_pure 19 (o := ⟨some 114, Op.move (Operand.tmp 11), 29, "law.go:43", #[⟨18, .guard⟩], some (18, true)⟩) (.pointer (some ⟨L, 0, none⟩)) (by kernel_rfl) rfl (by kernel_rfl) (by kernel_rfl) ?_
  refine any_call 20 (o := ⟨some 115, Op.call { callee := Callee.value (Operand.func 14), args := #[Operand.tmp 114, Operand.const (Value.string { data := #[66, 50] })], argTypes := #[29, 9] }, 30, "law.go:43", #[⟨19, .data⟩, ⟨18, .chain⟩, ⟨18, .guard⟩], some (18, true)⟩) 14 _ _ #[(.pointer (some ⟨L, 0, none⟩)), (Value.string { data := #[66, 50] })] (by kernel_rfl) rfl (by kernel_rfl) rfl (by kernel_rfl) en14 (Calls.mono (aw_app2 k1 HT.out) ?_)
  rintro e W2 ⟨rfl, k2⟩
  refine ⟨_, rfl, ?_⟩
  refine any_pure 21 (o := ⟨some 116, Op.binOp BinOp.eql 30 (Operand.tmp 115) (Operand.const (Value.int IntKind.i64 420)) 30, 4, "law.go:43", #[⟨20, .data⟩, ⟨18, .guard⟩], some (18, true)⟩) (.bool true) (by kernel_rfl) rfl (by kernel_rfl) (by kernel_rfl) ?_
  refine any_pure 22 (o := ⟨some 117, Op.pick (Operand.tmp 113) (Operand.tmp 116) (Operand.const (Value.bool false)), 4, "law.go:43", #[⟨18, .data⟩, ⟨21, .data⟩], none⟩) (.bool true) (by kernel_rfl) rfl (by kernel_rfl) (by kernel_rfl) ?_
  refine any_pure 23 (o := ⟨some 118, Op.move (Operand.tmp 117), 4, "law.go:43", #[⟨22, .data⟩, ⟨20, .chain⟩], none⟩) (.bool true) (by kernel_rfl) rfl (by kernel_rfl) (by kernel_rfl) ?_
  refine any_pure 24 (o := ⟨some 119, Op.move (Operand.tmp 11), 29, "law.go:43", #[⟨23, .guard⟩], some (23, true)⟩) (.pointer (some ⟨L, 0, none⟩)) (by kernel_rfl) rfl (by kernel_rfl) (by kernel_rfl) ?_
  refine any_call 25 (o := ⟨some 120, Op.call { callee := Callee.value (Operand.func 14), args := #[Operand.tmp 119, Operand.const (Value.string { data := #[67] })], argTypes := #[29, 9] }, 30, "law.go:43", #[⟨24, .data⟩, ⟨23, .chain⟩, ⟨23, .guard⟩], some (23, true)⟩) 14 _ _ #[(.pointer (some ⟨L, 0, none⟩)), (Value.string { data := #[67] })] (by kernel_rfl) rfl (by kernel_rfl) rfl (by kernel_rfl) en14 (Calls.mono (aw_app3 k2 HT.out) ?_)
  rintro e W3 ⟨rfl, k3, A3, c3, q0, q1⟩
  refine ⟨_, rfl, ?_⟩
  have K3 := Lib.hid k3
  refine any_pure 26 (o := ⟨some 121, Op.binOp BinOp.eql 30 (Operand.tmp 120) (Operand.const (Value.int IntKind.i64 423)) 30, 4, "law.go:43", #[⟨25, .data⟩, ⟨23, .guard⟩], some (23, true)⟩) (.bool true) (by kernel_rfl) rfl (by kernel_rfl) (by kernel_rfl) ?_
  refine any_pure 27 (o := ⟨some 122, Op.pick (Operand.tmp 118) (Operand.tmp 121) (Operand.const (Value.bool false)), 4, "law.go:43", #[⟨23, .data⟩, ⟨26, .data⟩], none⟩) (.bool true) (by kernel_rfl) rfl (by kernel_rfl) (by kernel_rfl) ?_
  refine any_pure 28 (o := ⟨some 123, Op.move (Operand.tmp 122), 4, "law.go:43", #[⟨27, .data⟩, ⟨25, .chain⟩], none⟩) (.bool true) (by kernel_rfl) rfl (by kernel_rfl) (by kernel_rfl) ?_
  refine wpAny_take (i := 29) (oi := ⟨some 124, Op.move (Operand.tmp 10), 25, "law.go:43", #[⟨28, .guard⟩], some (28, true)⟩) (v := (.pointer (some ⟨w9.heap.size, 0, none⟩))) rfl (by kernel_rfl) (by kernel_rfl) (by kernel_rfl) (fun _ _ _ h => h) (Or.inl ⟨by kernel_rfl, fun _ => by kernel_rfl⟩) ?_
  refine wpAny_take (i := 30) (oi := ⟨some 125, Op.nilCheck (Operand.tmp 124), 0, "law.go:43", #[⟨29, .data⟩, ⟨28, .guard⟩], some (28, true)⟩) (v := (.pointer (some ⟨w9.heap.size, 0, none⟩))) rfl (by kernel_rfl) (by kernel_rfl) (by kernel_rfl) (fun _ _ _ h => h) (Or.inl ⟨by kernel_rfl, fun _ => by kernel_rfl⟩) ?_
  refine wpAny_take (i := 31) (oi := ⟨some 126, Op.fieldAddr 28 (Operand.tmp 125) 0, 0, "law.go:43", #[⟨30, .data⟩, ⟨28, .guard⟩], some (28, true)⟩) (v := (.pointer (some ⟨w9.heap.size, 0, none⟩))) rfl (by kernel_rfl) (by kernel_rfl) (by kernel_rfl) (fun _ _ _ h => h) (Or.inl ⟨by kernel_rfl, fun _ => by kernel_rfl⟩) ?_
  refine wpAny_take (i := 34) (oi := ⟨some 129, Op.move (Operand.tmp 1), 9, "law.go:43", #[⟨28, .guard⟩], some (28, true)⟩) (v := (.string ⟨#[50, 57, 55, 55, 32, 65, 10]⟩)) rfl (by kernel_rfl) (by kernel_rfl) (by kernel_rfl) (fun _ _ _ h => h) (Or.inl ⟨by kernel_rfl, fun _ => by kernel_rfl⟩) ?_
  refine wpAny_take (i := 35) (oi := ⟨some 130, Op.move (Operand.tmp 3), 9, "law.go:43", #[⟨28, .guard⟩], some (28, true)⟩) (v := (.string ⟨#[51, 48, 53, 56, 32, 66, 50, 10]⟩)) rfl (by kernel_rfl) (by kernel_rfl) (by kernel_rfl) (fun _ _ _ h => h) (Or.inl ⟨by kernel_rfl, fun _ => by kernel_rfl⟩) ?_
  refine wpAny_take (i := 36) (oi := ⟨some 131, Op.slice 9 (Operand.tmp 130) none (some (Operand.const (Value.int IntKind.i64 3))) none, 9, "law.go:43", #[⟨35, .data⟩, ⟨28, .guard⟩], some (28, true)⟩) (v := (.string ⟨#[51, 48, 53]⟩)) rfl (by kernel_rfl) (by kernel_rfl) (by kernel_rfl) (fun _ _ _ h => h) (Or.inl ⟨by kernel_rfl, fun _ => by kernel_rfl⟩) ?_
  refine wpAny_take (i := 37) (oi := ⟨some 132, Op.binOp BinOp.add 9 (Operand.tmp 129) (Operand.tmp 131) 9, 9, "law.go:43", #[⟨34, .data⟩, ⟨36, .data⟩, ⟨28, .guard⟩], some (28, true)⟩) (v := (.string ⟨#[50, 57, 55, 55, 32, 65, 10, 51, 48, 53]⟩)) rfl (by kernel_rfl) (by kernel_rfl) (by kernel_rfl) (fun _ _ _ h => h) (Or.inl ⟨by kernel_rfl, fun _ => by kernel_rfl⟩) ?_
  refine any_load 32 (o := ⟨some 127, Op.load 26 (Operand.tmp 126), 26, "law.go:43", #[⟨31, .data⟩, ⟨28, .guard⟩], some (28, true)⟩) _ _ (.slice A3 10 c3) (by kernel_rfl) rfl (by kernel_rfl) rfl (by kernel_rfl) (by kernel_rfl) q0 ?_
  refine any_conv 33 (o := ⟨some 128, Op.convert 26 9 (Operand.tmp 127), 9, "law.go:43", #[⟨32, .data⟩, ⟨28, .guard⟩], some (28, true)⟩) _ _ (.string ⟨#[50, 57, 55, 55, 32, 65, 10, 51, 48, 53]⟩) (by kernel_rfl) rfl (by kernel_rfl) rfl (by kernel_rfl) q1 ?_
  refine any_pure 38 (o := ⟨some 133, Op.binOp BinOp.eql 9 (Operand.tmp 128) (Operand.tmp 132) 9, 4, "law.go:43", #[⟨33, .data⟩, ⟨37, .data⟩, ⟨28, .guard⟩], some (28, true)⟩) (.bool true) (by kernel_rfl) rfl (by kernel_rfl) (by kernel_rfl) ?_
  refine any_pure 39 (o := ⟨some 134, Op.pick (Operand.tmp 123) (Operand.tmp 133) (Operand.const (Value.bool false)), 4, "law.go:43", #[⟨28, .data⟩, ⟨38, .data⟩], none⟩) (.bool true) (by kernel_rfl) rfl (by kernel_rfl) (by kernel_rfl) ?_
  refine any_pure 40 (o := ⟨some 135, Op.move (Operand.tmp 134), 4, "law.go:43", #[⟨39, .data⟩, ⟨28, .chain⟩], none⟩) (.bool true) (by kernel_rfl) rfl (by kernel_rfl) (by kernel_rfl) ?_
  refine any_pure 41 (o := ⟨some 136, Op.move (Operand.tmp 11), 29, "law.go:43", #[⟨40, .guard⟩], some (40, true)⟩) (.pointer (some ⟨L, 0, none⟩)) (by kernel_rfl) rfl (by kernel_rfl) (by kernel_rfl) ?_
  refine any_call 42 (o := ⟨some 137, Op.call { callee := Callee.value (Operand.func 24), args := #[Operand.tmp 136], argTypes := #[29] }, 3, "law.go:43", #[⟨41, .data⟩, ⟨40, .chain⟩, ⟨40, .guard⟩], some (40, true)⟩) 24 _ _ #[(.pointer (some ⟨L, 0, none⟩))] (by kernel_rfl) rfl (by kernel_rfl) rfl (by kernel_rfl) en24 (Calls.mono (aw_last K3.out) ?_)
  rintro e W4 ⟨rfl, rfl⟩
  refine ⟨_, rfl, ?_⟩
  refine any_pure 43 (o := ⟨some 138, Op.binOp BinOp.eql 3 (Operand.tmp 137) (Operand.const (Value.int IntKind.i64 2977)) 3, 4, "law.go:43", #[⟨42, .data⟩, ⟨40, .guard⟩], some (40, true)⟩) (.bool true) (by kernel_rfl) rfl (by kernel_rfl) (by kernel_rfl) ?_
  refine any_pure 44 (o := ⟨some 139, Op.pick (Operand.tmp 135) (Operand.tmp 138) (Operand.const (Value.bool false)), 4, "law.go:43", #[⟨40, .data⟩, ⟨43, .data⟩], none⟩) (.bool true) (by kernel_rfl) rfl (by kernel_rfl) (by kernel_rfl) ?_
  refine any_pure 45 (o := ⟨some 140, Op.move (Operand.tmp 139), 4, "law.go:43", #[⟨44, .data⟩, ⟨42, .chain⟩], none⟩) (.bool true) (by kernel_rfl) rfl (by kernel_rfl) (by kernel_rfl) ?_
  refine any_pure 46 (o := ⟨some 141, Op.move (Operand.tmp 11), 29, "law.go:43", #[⟨45, .guard⟩], some (45, true)⟩) (.pointer (some ⟨L, 0, none⟩)) (by kernel_rfl) rfl (by kernel_rfl) (by kernel_rfl) ?_
  refine any_call 47 (o := ⟨some 142, Op.call { callee := Callee.value (Operand.func 17), args := #[Operand.tmp 141], argTypes := #[29] }, 3, "law.go:43", #[⟨46, .data⟩, ⟨45, .chain⟩, ⟨45, .guard⟩], some (45, true)⟩) 17 _ _ #[(.pointer (some ⟨L, 0, none⟩))] (by kernel_rfl) rfl (by kernel_rfl) rfl (by kernel_rfl) en17 (Calls.mono (aw_size K3.out) ?_)
  rintro e W5 ⟨rfl, rfl⟩
  refine ⟨_, rfl, ?_⟩
  refine any_pure 48 (o := ⟨some 143, Op.binOp BinOp.eql 3 (Operand.tmp 142) (Operand.const (Value.int IntKind.i64 7)) 3, 4, "law.go:43", #[⟨47, .data⟩, ⟨45, .guard⟩], some (45, true)⟩) (.bool true) (by kernel_rfl) rfl (by kernel_rfl) (by kernel_rfl) ?_
  refine any_pure 49 (o := ⟨some 144, Op.pick (Operand.tmp 140) (Operand.tmp 143) (Operand.const (Value.bool false)), 4, "law.go:43", #[⟨45, .data⟩, ⟨48, .data⟩], none⟩) (.bool true) (by kernel_rfl) rfl (by kernel_rfl) (by kernel_rfl) ?_
  refine any_pure 50 (o := ⟨some 145, Op.move (Operand.tmp 144), 4, "law.go:43", #[⟨49, .data⟩, ⟨47, .chain⟩], none⟩) (.bool true) (by kernel_rfl) rfl (by kernel_rfl) (by kernel_rfl) ?_
  refine wpAny_take (i := 51) (oi := ⟨some 146, Op.move (Operand.tmp 11), 29, "law.go:43", #[⟨50, .guard⟩], some (50, true)⟩) (v := (.pointer (some ⟨L, 0, none⟩))) rfl (by kernel_rfl) (by kernel_rfl) (by kernel_rfl) (fun _ _ _ h => h) (Or.inl ⟨by kernel_rfl, fun _ => by kernel_rfl⟩) ?_
  refine any_call_val 52 53 (o := ⟨some 147, Op.call { callee := Callee.value (Operand.func 16), args := #[Operand.tmp 146], argTypes := #[29] }, 22, "law.go:43", #[⟨51, .data⟩, ⟨50, .chain⟩, ⟨50, .guard⟩], some (50, true)⟩) (o' := ⟨some 148, Op.buildSlice 22 1 #[(0, Operand.const (Value.string { data := #[65] }))], 22, "law.go:43", #[⟨50, .guard⟩], some (50, true)⟩) (w' := W3.alloc (.cells #[.string ⟨#[65]⟩] 9)) 16 _ _ #[(.pointer (some ⟨L, 0, none⟩))] (.slice (some ⟨W3.heap.size, 0, none⟩) 1 1) (by kernel_rfl) rfl rfl (by kernel_rfl) (by kernel_rfl) rfl (by kernel_rfl) en16 (by kernel_rfl) (Calls.mono (aw_recs K3.out) ?_) ?_
  · rintro e W6 ⟨a6, c6, rfl, r6, b6, B6⟩
    refine ⟨_, rfl, ?_⟩
    refine any_val 53 (o := ⟨some 148, Op.buildSlice 22 1 #[(0, Operand.const (Value.string { data := #[65] }))], 22, "law.go:43", #[⟨50, .guard⟩], some (50, true)⟩) (w' := W6.alloc (.cells #[.string ⟨#[65]⟩] 9)) (.slice (some ⟨W6.heap.size, 0, none⟩) 1 1) (by kernel_rfl) rfl (by kernel_rfl) (by kernel_rfl) ?_
    refine any_call 54 (o := ⟨some 149, Op.call { callee := Callee.value (Operand.func 15), args := #[Operand.tmp 147, Operand.tmp 148], argTypes := #[22, 22] }, 4, "law.go:43", #[⟨52, .data⟩, ⟨53, .data⟩, ⟨52, .chain⟩, ⟨50, .guard⟩], some (50, true)⟩) 15 _ _ #[(.slice a6 1 c6), (.slice (some ⟨W6.heap.size, 0, none⟩) 1 1)] (by kernel_rfl) rfl (by kernel_rfl) rfl (by kernel_rfl) en15 (Calls.mono (aw_same1 r6 B6) ?_)
    rintro e W7 ⟨rfl, b7⟩
    refine ⟨_, rfl, ?_⟩
    refine any_pure 55 (o := ⟨some 150, Op.pick (Operand.tmp 145) (Operand.tmp 149) (Operand.const (Value.bool false)), 4, "law.go:43", #[⟨50, .data⟩, ⟨54, .data⟩], none⟩) (.bool true) (by kernel_rfl) rfl (by kernel_rfl) (by kernel_rfl) ?_
    refine any_pure 56 (o := ⟨some 0, Op.assign (Operand.tmp 150), 4, "law.go:43", #[⟨55, .data⟩, ⟨54, .chain⟩, ⟨0, .phase⟩, ⟨1, .phase⟩, ⟨2, .phase⟩, ⟨3, .phase⟩, ⟨4, .phase⟩, ⟨5, .phase⟩, ⟨6, .phase⟩, ⟨7, .phase⟩, ⟨8, .phase⟩, ⟨9, .phase⟩, ⟨10, .phase⟩, ⟨11, .phase⟩, ⟨12, .phase⟩, ⟨13, .phase⟩, ⟨14, .phase⟩, ⟨15, .phase⟩, ⟨16, .phase⟩, ⟨17, .phase⟩, ⟨18, .phase⟩, ⟨19, .phase⟩, ⟨20, .phase⟩, ⟨21, .phase⟩, ⟨22, .phase⟩, ⟨23, .phase⟩, ⟨24, .phase⟩, ⟨25, .phase⟩, ⟨26, .phase⟩, ⟨27, .phase⟩, ⟨28, .phase⟩, ⟨29, .phase⟩, ⟨30, .phase⟩, ⟨31, .phase⟩, ⟨32, .phase⟩, ⟨33, .phase⟩, ⟨34, .phase⟩, ⟨35, .phase⟩, ⟨36, .phase⟩, ⟨37, .phase⟩, ⟨38, .phase⟩, ⟨39, .phase⟩, ⟨40, .phase⟩, ⟨41, .phase⟩, ⟨42, .phase⟩, ⟨43, .phase⟩, ⟨44, .phase⟩, ⟨45, .phase⟩, ⟨46, .phase⟩, ⟨47, .phase⟩, ⟨48, .phase⟩, ⟨49, .phase⟩, ⟨50, .phase⟩, ⟨51, .phase⟩, ⟨52, .phase⟩, ⟨53, .phase⟩, ⟨54, .phase⟩, ⟨55, .phase⟩], none⟩) (.bool true) (by kernel_rfl) rfl (by kernel_rfl) (by kernel_rfl) ?_
    refine wpAny_done (by kernel_rfl) ?_ _
    exact end_ret (fn := Tryd.f19) (v := .bool true) rfl (by assumption) (by kernel_rfl) (by kernel_rfl) ⟨rfl, b7⟩
  · skip
    refine any_call 52 (o := ⟨some 147, Op.call { callee := Callee.value (Operand.func 16), args := #[Operand.tmp 146], argTypes := #[29] }, 22, "law.go:43", #[⟨51, .data⟩, ⟨50, .chain⟩, ⟨50, .guard⟩], some (50, true)⟩) 16 _ _ #[(.pointer (some ⟨L, 0, none⟩))] (by kernel_rfl) rfl (by kernel_rfl) rfl (by kernel_rfl) en16 (Calls.mono (aw_recs (K3.out.below (below_alloc _ _))) ?_)
    rintro e W6 ⟨a6, c6, rfl, r6, b6, B6⟩
    refine ⟨_, rfl, ?_⟩
    refine any_call 54 (o := ⟨some 149, Op.call { callee := Callee.value (Operand.func 15), args := #[Operand.tmp 147, Operand.tmp 148], argTypes := #[22, 22] }, 4, "law.go:43", #[⟨52, .data⟩, ⟨53, .data⟩, ⟨52, .chain⟩, ⟨50, .guard⟩], some (50, true)⟩) 15 _ _ #[(.slice a6 1 c6), (.slice (some ⟨W3.heap.size, 0, none⟩) 1 1)] (by kernel_rfl) rfl (by kernel_rfl) rfl (by kernel_rfl) en15 (Calls.mono (aw_same2 b6 r6 B6) ?_)
    rintro e W7 ⟨rfl, b7⟩
    refine ⟨_, rfl, ?_⟩
    refine any_pure 55 (o := ⟨some 150, Op.pick (Operand.tmp 145) (Operand.tmp 149) (Operand.const (Value.bool false)), 4, "law.go:43", #[⟨50, .data⟩, ⟨54, .data⟩], none⟩) (.bool true) (by kernel_rfl) rfl (by kernel_rfl) (by kernel_rfl) ?_
    refine any_pure 56 (o := ⟨some 0, Op.assign (Operand.tmp 150), 4, "law.go:43", #[⟨55, .data⟩, ⟨54, .chain⟩, ⟨0, .phase⟩, ⟨1, .phase⟩, ⟨2, .phase⟩, ⟨3, .phase⟩, ⟨4, .phase⟩, ⟨5, .phase⟩, ⟨6, .phase⟩, ⟨7, .phase⟩, ⟨8, .phase⟩, ⟨9, .phase⟩, ⟨10, .phase⟩, ⟨11, .phase⟩, ⟨12, .phase⟩, ⟨13, .phase⟩, ⟨14, .phase⟩, ⟨15, .phase⟩, ⟨16, .phase⟩, ⟨17, .phase⟩, ⟨18, .phase⟩, ⟨19, .phase⟩, ⟨20, .phase⟩, ⟨21, .phase⟩, ⟨22, .phase⟩, ⟨23, .phase⟩, ⟨24, .phase⟩, ⟨25, .phase⟩, ⟨26, .phase⟩, ⟨27, .phase⟩, ⟨28, .phase⟩, ⟨29, .phase⟩, ⟨30, .phase⟩, ⟨31, .phase⟩, ⟨32, .phase⟩, ⟨33, .phase⟩, ⟨34, .phase⟩, ⟨35, .phase⟩, ⟨36, .phase⟩, ⟨37, .phase⟩, ⟨38, .phase⟩, ⟨39, .phase⟩, ⟨40, .phase⟩, ⟨41, .phase⟩, ⟨42, .phase⟩, ⟨43, .phase⟩, ⟨44, .phase⟩, ⟨45, .phase⟩, ⟨46, .phase⟩, ⟨47, .phase⟩, ⟨48, .phase⟩, ⟨49, .phase⟩, ⟨50, .phase⟩, ⟨51, .phase⟩, ⟨52, .phase⟩, ⟨53, .phase⟩, ⟨54, .phase⟩, ⟨55, .phase⟩], none⟩) (.bool true) (by kernel_rfl) rfl (by kernel_rfl) (by kernel_rfl) ?_
    refine wpAny_done (by kernel_rfl) ?_ _
    exact end_ret (fn := Tryd.f19) (v := .bool true) rfl (by assumption) (by kernel_rfl) (by kernel_rfl) ⟨rfl, b7⟩
end Go.Proofs.YtandanbojfdfjaaDoor
