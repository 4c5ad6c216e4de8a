import Derived.Test.YtandanbojfdfjaaDoorSwD
namespace Go.Proofs.YtandanbojfdfjaaDoor
open Go.ChangeShapes Go.WideShapes Go.ChangeAt Go.RowKit

set_option maxRecDepth 1000000 in
set_option maxHeartbeats 16000000 in
theorem sw_A (K : Act → World → Prop) (R : Ending → World → Prop) (w wa : World) (l : List Bs) (s : Bs) (y : ByteArray) (A2 : Option Addr) (b1 o1 wh at_ c1 c2 N M i z q : Nat) (ha : at_ < 256) (HT : Hid (Tb w)) (HF : Hid (Few l)) (hlog : N ≤ 1320) (hc2 : N ≤ c2) (HNN : Hid ((logB 1 l).length = N)) (hz : M ≤ 20) (hc1 : M ≤ c1) (HM : Hid (l.length = M)) (hiM : i < M) (hil : i < l.length)
    (HY : Hid ((⟨s.toArray⟩ : ByteArray) = y)) (HS : Hid (l.getD i [] = s)) (hsl : z ≤ 60) (HYZ : Hid (y.size = z)) (HZ : Hid (s.length = z)) (HQ : Hid (lenN l i = q)) (HB2 : Hid (Below w.heap.size w wa)) (HRl : Hid (Rd wa wa.heap.size (some ⟨b1, o1, none⟩) (scs l))) (hb1 : b1 < wa.heap.size) (HR2 : Hid (Rd wa wa.heap.size A2 (bcs (logB 1 l))))
    (u3 u4 u5 u6 u8 u9 u13 u14 u15 u16 u17 u18 u19 u20 u21 u22 u23 u24 u25 u26 u27 u28 u29 u30 u31 u32 u33 u34 u35 u36 u37 u38 u39 u40 u41 u42 u43 u44 u45 u46 u47 u48 u49 u50 u51 u52 u54 u55 u56 u57 u58 u59 u60 u61 u62 u63 u64 u65 u66 u67 u68 u69 u70 u71 u72 u73 u74 u75 u76 u77 u78 u79 u80 u81 u82 u83 u84 u85 u86 u87 u88 u89 u90 u91 u92 u93 u94 u95 u96 u97 u98 u99 u100 u101 u102 u103 u104 u105 u106 u107 u108 u109 u110 u111 u112 u113 u114 u115 u116 u117 u118 u119 u120 u121 u122 u123 u124 u125 u126 u127 u128 u129 u130 u131 u132 u133 u134 u135 u136 u137 u138 u139 u140 u141 u142 u143 u144 u145 u146 u147 u148 u149 u150 u151 u152 u153 u154 u155 u156 u157 u158 u159 u160 u161 u162 u163 u164 u165 u166 u167 u168 u169 u170 u171 u172 u173 u174 u175 u176 u177 u178 u179 u180 u181 u182 u183 u184 u185 u186 u187 u188 u189 u190 u191 u192 u193 u194 u195 u196 u197 u198 u199 u200 u201 : Value)
    (hK : ∀ (x6 x13 x14 x15 x16 x17 x53 x54 x55 x56 x57 x58 x59 x60 x61 x62 x63 x64 x65 x66 x67 x68 x69 x70 x71 x72 x73 x74 x75 x76 x77 x78 x79 x80 x81 x82 x83 x84 x85 x86 x87 x88 x89 x90 x91 x92 x93 x94 x95 x96 x97 x98 x99 x100 x101 x102 x103 x104 x105 x106 x107 x108 x109 x110 x111 x112 x113 x114 x115 x116 x117 x118 x119 : Value) (wx : World), Hid (Below wa.heap.size wa wx) → K ⟨List.toArray ((.slice (some ⟨b1, o1, none⟩) M c1) :: (.int .u8 wh) :: (.int .u8 at_) :: u3 :: u4 :: u5 :: (x6) :: (.slice A2 N c2) :: u8 :: u9 :: (.int .i64 i) :: (.int .i64 q) :: (.string y) :: (x13) :: (x14) :: (x15) :: (x16) :: (x17) :: u18 :: u19 :: u20 :: u21 :: u22 :: u23 :: u24 :: u25 :: u26 :: u27 :: u28 :: u29 :: u30 :: u31 :: u32 :: u33 :: u34 :: u35 :: u36 :: u37 :: u38 :: u39 :: u40 :: u41 :: u42 :: u43 :: u44 :: u45 :: u46 :: u47 :: u48 :: u49 :: u50 :: u51 :: u52 :: (x53) :: (x54) :: (x55) :: (x56) :: (x57) :: (x58) :: (x59) :: (x60) :: (x61) :: (x62) :: (x63) :: (x64) :: (x65) :: (x66) :: (x67) :: (x68) :: (x69) :: (x70) :: (x71) :: (x72) :: (x73) :: (x74) :: (x75) :: (x76) :: (x77) :: (x78) :: (x79) :: (x80) :: (x81) :: (x82) :: (x83) :: (x84) :: (x85) :: (x86) :: (x87) :: (x88) :: (x89) :: (x90) :: (x91) :: (x92) :: (x93) :: (x94) :: (x95) :: (x96) :: (x97) :: (x98) :: (x99) :: (x100) :: (x101) :: (x102) :: (x103) :: (x104) :: (x105) :: (x106) :: (x107) :: (x108) :: (x109) :: (x110) :: (x111) :: (x112) :: (x113) :: (x114) :: (x115) :: (x116) :: (x117) :: (x118) :: (x119) :: u120 :: u121 :: u122 :: u123 :: u124 :: u125 :: u126 :: u127 :: u128 :: u129 :: u130 :: u131 :: u132 :: u133 :: u134 :: u135 :: u136 :: u137 :: u138 :: u139 :: u140 :: u141 :: u142 :: u143 :: u144 :: u145 :: u146 :: u147 :: u148 :: u149 :: u150 :: u151 :: u152 :: u153 :: u154 :: u155 :: u156 :: u157 :: u158 :: u159 :: u160 :: u161 :: u162 :: u163 :: u164 :: u165 :: u166 :: u167 :: u168 :: u169 :: u170 :: u171 :: u172 :: u173 :: u174 :: u175 :: u176 :: u177 :: u178 :: u179 :: u180 :: u181 :: u182 :: u183 :: u184 :: u185 :: u186 :: u187 :: u188 :: u189 :: u190 :: u191 :: u192 :: u193 :: u194 :: u195 :: u196 :: u197 :: u198 :: u199 :: u200 :: u201 :: []), []⟩ wx) :
    swA.wp Tryd.prog (Exit.then K (bodyPost Tryd.prog Tryd.f5 R)) ⟨List.toArray ((.slice (some ⟨b1, o1, none⟩) M c1) :: (.int .u8 wh) :: (.int .u8 at_) :: u3 :: u4 :: u5 :: u6 :: (.slice A2 N c2) :: u8 :: u9 :: (.int .i64 i) :: (.int .i64 q) :: (.string y) :: u13 :: u14 :: u15 :: u16 :: u17 :: u18 :: u19 :: u20 :: u21 :: u22 :: u23 :: u24 :: u25 :: u26 :: u27 :: u28 :: u29 :: u30 :: u31 :: u32 :: u33 :: u34 :: u35 :: u36 :: u37 :: u38 :: u39 :: u40 :: u41 :: u42 :: u43 :: u44 :: u45 :: u46 :: u47 :: u48 :: u49 :: u50 :: u51 :: u52 :: (.bool (decide (1 < (z : Int)))) :: u54 :: u55 :: u56 :: u57 :: u58 :: u59 :: u60 :: u61 :: u62 :: u63 :: u64 :: u65 :: u66 :: u67 :: u68 :: u69 :: u70 :: u71 :: u72 :: u73 :: u74 :: u75 :: u76 :: u77 :: u78 :: u79 :: u80 :: u81 :: u82 :: u83 :: u84 :: u85 :: u86 :: u87 :: u88 :: u89 :: u90 :: u91 :: u92 :: u93 :: u94 :: u95 :: u96 :: u97 :: u98 :: u99 :: u100 :: u101 :: u102 :: u103 :: u104 :: u105 :: u106 :: u107 :: u108 :: u109 :: u110 :: u111 :: u112 :: u113 :: u114 :: u115 :: u116 :: u117 :: u118 :: u119 :: u120 :: u121 :: u122 :: u123 :: u124 :: u125 :: u126 :: u127 :: u128 :: u129 :: u130 :: u131 :: u132 :: u133 :: u134 :: u135 :: u136 :: u137 :: u138 :: u139 :: u140 :: u141 :: u142 :: u143 :: u144 :: u145 :: u146 :: u147 :: u148 :: u149 :: u150 :: u151 :: u152 :: u153 :: u154 :: u155 :: u156 :: u157 :: u158 :: u159 :: u160 :: u161 :: u162 :: u163 :: u164 :: u165 :: u166 :: u167 :: u168 :: u169 :: u170 :: u171 :: u172 :: u173 :: u174 :: u175 :: u176 :: u177 :: u178 :: u179 :: u180 :: u181 :: u182 :: u183 :: u184 :: u185 :: u186 :: u187 :: u188 :: u189 :: u190 :: u191 :: u192 :: u193 :: u194 :: u195 :: u196 :: u197 :: u198 :: u199 :: u200 :: u201 :: []), []⟩ wa := by
  have HK := Lib.hid hK
  clear hK
  conv => arg 2; whnf
  have hyz := HYZ.out
  by_cases hlen : 1 < z
  · have hlb : decide (1 < z) = true := decide_eq_true hlen
    obtain ⟨k, hk⟩ : ∃ k, at_ % (z - 1) = k := ⟨_, rfl⟩
    have hkz : k < z - 1 := by rw [← hk]; exact Nat.mod_lt _ (by omega)
    have hki : (at_ : Int) % ((z : Int) - 1) = (k : Int) := by
      have e : ((z - 1 : Nat) : Int) = (z : Int) - 1 := by omega
      rw [← hk, Int.natCast_emod, e]
    clear hk
    go_wp2_with (at_builtin; refine ap_many rfl (.tmp 60) (.tmp 61) 26 rfl eByte A2 N c2 (bcs (logB 1 l)) (Own.built wa 5 0 [] (Below.refl _ _) rfl (by omega)) rfl rfl (by rw [Nat.mul_one, List.length_map]; exact HNN.out) (HR2.out.alloc _) (oneCells_bcs _) (by omega) ?_; intro v3 w3 own3 hsz3)
    have hz3 : 0 + N = N := by omega
    rw [hz3, List.nil_append] at own3
    have hqN : lenN l i + z + 6 ≤ N := by
      have h1 := lenN_succ hil
      have h2 := lenN_le l (i + 1)
      rw [HS.out, HZ.out] at h1
      rw [HNN.out] at h2
      omega
    rw [HQ.out] at hqN
    obtain ⟨g, c4, rfl, hc4, hg1, hg2, hgc, hgf⟩ := own3.form (by omega)
    have HO3 := Lib.hid own3
    obtain ⟨p5, hp5⟩ : ∃ p, q + 5 + k = p := ⟨_, rfl⟩
    obtain ⟨p6, hp6⟩ : ∃ p, q + 6 + k = p := ⟨_, rfl⟩
    have g5 := hgc p5 _ (bcs_get (by rw [HNN.out]; omega))
    have g6 := hgc p6 _ (bcs_get (by rw [HNN.out]; omega))
    have f5 := hgf p5
    have f6 := hgf p6
    have hw5 : IntKind.i64.wrap ((q : Int) + 5) = (q : Int) + 5 := IntWalk.i64_in _ (by omega)
    have hw6 : IntKind.i64.wrap ((q : Int) + 6) = (q : Int) + 6 := IntWalk.i64_in _ (by omega)
    have hw5k : IntKind.i64.wrap ((q : Int) + 5 + (k : Int)) = (p5 : Int) := (IntWalk.i64_in _ (by omega)).trans (by omega)
    have hw6k : IntKind.i64.wrap ((q : Int) + 6 + (k : Int)) = (p6 : Int) := (IntWalk.i64_in _ (by omega)).trans (by omega)
    have hp5N : p5 < N := by omega
    have hp6N : p6 < N := by omega
    have HP5 := Lib.hid hp5
    have HP6 := Lib.hid hp6
    have h56 : p5 ≠ p6 := by omega
    obtain ⟨g', c', he, _, _, _, hgc2, hgf2⟩ := (own3.store p5 (.int .u8 (((logB 1 l).getD p6 0).toNat : Int))).form (by omega)
    obtain ⟨rfl, rfl⟩ : g = g' ∧ c4 = c' := by simpa using he
    have g6' := hgc2 p6 _ ((List.getElem?_set_ne h56).trans (bcs_get (by rw [HNN.out]; omega)))
    have f6' := hgf2 p6
    have HSt := Lib.hid ((own3.store p5 (.int .u8 (((logB 1 l).getD p6 0).toNat : Int))).store p6 (.int .u8 (((logB 1 l).getD p5 0).toNat : Int)))
    rw [bcs_set, bcs_set] at HSt
    clear hgc hgf own3 hp5 hp6 hz3 hsz3 he hgc2 hgf2 h56 HO3
    generalize hx5 : (logB 1 l).getD p5 0 = d5 at *
    generalize hx6 : (logB 1 l).getD p6 0 = d6 at *
    have HX5 := Lib.hid hx5
    have HX6 := Lib.hid hx6
    clear hx5 hx6
    go_region
    generalize (w3.setCell ⟨g, p5, none⟩ (.int .u8 (d6.toNat : Int))).setCell ⟨g, p6, none⟩ (.int .u8 (d5.toNat : Int)) = w4 at *
    have hB4 : Below wa.heap.size wa w4.drew := HSt.out.bel.drew
    have HB4 := Lib.hid hB4
    have hbl : (((logB 1 l).set p5 d6).set p6 d5).length = N := by rw [List.length_set, List.length_set, HNN.out]
    have hby : By w4.drew (.slice (some ⟨g, 0, none⟩) N c4) (((logB 1 l).set p5 d6).set p6 d5) := By.row (base := wa.heap.size) (by rw [hbl]; exact HSt.out.row)
    have hrd : Rd w4.drew w4.drew.heap.size (some ⟨g, 0, none⟩) (bcs (((logB 1 l).set p5 d6).set p6 d5)) := by
      obtain ⟨A', c', e, h, _⟩ := hby.form
      rw [hbl] at e
      obtain ⟨rfl, _⟩ : some ⟨g, 0, none⟩ = A' ∧ c4 = c' := by simpa using e
      exact h
    have hTc := HT.out.below HB2.out HT.out.lt
    have hk0 : k < y.size := by have := HYZ.out; omega
    have hk1 : k + 1 < y.size := by have := HYZ.out; omega
    have hyk : ∀ j (h : j < y.size), y[j] = s.getD j 0 := fun j h => by
      have hY := HY.out
      subst hY
      have h' : j < s.length := h
      show s.toArray[j] = _
      simp [h']
    have hwk : IntKind.i64.wrap ((k : Int) + 1) = (k : Int) + 1 := IntWalk.i64_in _ (by omega)
    have htk : ((k : Int) + 1).toNat = k + 1 := by omega
    by_cases hcmp : y[k] = y[k + 1]
    · have hcb : ((y[k].toNat : Int) != (y[k + 1].toNat : Int)) = false := by rw [hcmp]; simp
      have HScn := Lib.hid (Scan_rd (some ⟨g, 0, none⟩) c4 N _ w4.drew hrd (by omega) (by omega) hbl (hTc.below hB4 hTc.lt))
      clear hcmp hyk hby hrd hbl hB4 HSt hg1 hg2 g5 g6 f5 f6 g6' f6'
      go_wp2_with fail
      refine HScn.out.mono ?_
      rintro e w5 ⟨a5, c5, rfl, _, hb5⟩
      have HB5 := Lib.hid (HB4.out.trans (hb5.mono HB4.out.size))
      clear hb5 HScn
      go_wp2_with fail
      refine wp_region_any (by kernel_rfl) ?_
      change wpAny _ _ _ _ _ _ _ (World.drew _)
      refine wpAny_take (i := 0) (oi := ⟨some 95, Op.move (Operand.tmp 12), 9, "outright.go:157", #[], none⟩) (v := (.string y)) rfl (by kernel_rfl) (by kernel_rfl) (by kernel_rfl) (fun _ _ _ h => h) (Or.inl ⟨by kernel_rfl, fun _ => (by kernel_rfl)⟩) ?_
      refine wpAny_take (i := 1) (oi := ⟨some 96, Op.move (Operand.tmp 13), 3, "outright.go:157", #[], none⟩) (v := (.int .i64 (k : Int))) rfl (by kernel_rfl) (by kernel_rfl) (by kernel_rfl) (fun _ _ _ h => h) (Or.inl ⟨by kernel_rfl, fun _ => (by kernel_rfl)⟩) ?_
      refine wpAny_take (i := 2) (oi := ⟨some 97, Op.index 9 (Operand.tmp 95) (Operand.tmp 96), 5, "outright.go:157", #[⟨0, .data⟩, ⟨1, .data⟩], none⟩) (v := (.int .u8 (y[k].toNat : Int))) rfl (by kernel_rfl) (by kernel_rfl) (by kernel_rfl) (fun _ _ _ h => h) (Or.inl ⟨by kernel_rfl, fun _ => (ex_index_str rfl (by kernel_rfl) (by kernel_rfl) rfl hk0)⟩) ?_
      refine wpAny_take (i := 3) (oi := ⟨some 98, Op.move (Operand.tmp 12), 9, "outright.go:157", #[], none⟩) (v := (.string y)) rfl (by kernel_rfl) (by kernel_rfl) (by kernel_rfl) (fun _ _ _ h => h) (Or.inl ⟨by kernel_rfl, fun _ => (by kernel_rfl)⟩) ?_
      refine any_pure 4 (o := ⟨some 99, Op.move (Operand.tmp 13), 3, "outright.go:157", #[], none⟩) (.int .i64 (k : Int)) (by kernel_rfl) rfl (by kernel_rfl) (by kernel_rfl) ?_
      refine any_pure 5 (o := ⟨some 100, Op.binOp BinOp.add 3 (Operand.tmp 99) (Operand.const (Value.int IntKind.i64 1)) 3, 3, "outright.go:157", #[⟨4, .data⟩], none⟩) (.int .i64 ((k : Int) + 1)) (by kernel_rfl) rfl (by kernel_rfl) (ex_bin rfl (by kernel_rfl) (by kernel_rfl) (by kernel_rfl) (bin_add_int 3 _ _ _ _ hwk)) ?_
      refine any_pure 6 (o := ⟨some 101, Op.index 9 (Operand.tmp 98) (Operand.tmp 100), 5, "outright.go:157", #[⟨3, .data⟩, ⟨5, .data⟩], none⟩) (.int .u8 (y[k + 1].toNat : Int)) (by kernel_rfl) rfl (by kernel_rfl) (ex_index_str rfl (by kernel_rfl) (by kernel_rfl) rfl hk1) ?_
      refine any_pure 7 (o := ⟨some 102, Op.binOp BinOp.neq 5 (Operand.tmp 97) (Operand.tmp 101) 5, 4, "outright.go:157", #[⟨2, .data⟩, ⟨6, .data⟩], none⟩) (.bool false) (by kernel_rfl) rfl (by kernel_rfl) (ex_bin rfl (by kernel_rfl) (by kernel_rfl) (by kernel_rfl) (bin_neq_u8 _ _ _ _ hcb)) ?_
      refine any_pure 8 (o := ⟨some 103, Op.move (Operand.tmp 102), 4, "outright.go:157", #[⟨7, .data⟩], none⟩) (.bool false) (by kernel_rfl) rfl (by kernel_rfl) (by kernel_rfl) ?_
      refine wpAny_take (i := 9) (oi := ⟨some 104, Op.move (Operand.tmp 15), 22, "outright.go:157", #[⟨8, .guard⟩], some (8, true)⟩) (v := undef) rfl (by kernel_rfl) (by kernel_rfl) (by kernel_rfl) (fun _ _ _ h => h) (Or.inr ⟨by kernel_rfl, rfl⟩) ?_
      refine wpAny_take (i := 10) (oi := ⟨some 105, Op.move (Operand.tmp 0), 22, "outright.go:157", #[⟨8, .guard⟩], some (8, true)⟩) (v := undef) rfl (by kernel_rfl) (by kernel_rfl) (by kernel_rfl) (fun _ _ _ h => h) (Or.inr ⟨by kernel_rfl, rfl⟩) ?_
      refine any_skip 11 (o := ⟨some 106, Op.move (Operand.tmp 10), 3, "outright.go:157", #[⟨8, .guard⟩], some (8, true)⟩) (by kernel_rfl) rfl (by kernel_rfl) ?_
      refine any_skip 12 (o := ⟨some 107, Op.slice 22 (Operand.tmp 105) none (some (Operand.tmp 106)) none, 22, "outright.go:157", #[⟨10, .data⟩, ⟨11, .data⟩, ⟨8, .guard⟩], some (8, true)⟩) (by kernel_rfl) rfl (by kernel_rfl) ?_
      refine any_skip 13 (o := ⟨some 108, Op.call { callee := Callee.value (Operand.func 15), args := #[Operand.tmp 104, Operand.tmp 107], argTypes := #[22, 22] }, 4, "outright.go:157", #[⟨9, .data⟩, ⟨12, .data⟩, ⟨8, .chain⟩, ⟨8, .guard⟩], some (8, true)⟩) (by kernel_rfl) rfl (by kernel_rfl) ?_
      refine any_skip 14 (o := ⟨some 109, Op.unOp UnOp.not 4 (Operand.tmp 108), 4, "outright.go:157", #[⟨13, .data⟩, ⟨8, .guard⟩], some (8, true)⟩) (by kernel_rfl) rfl (by kernel_rfl) ?_
      refine any_skip 15 (o := ⟨some 110, Op.move (Operand.tmp 109), 4, "outright.go:157", #[⟨14, .data⟩, ⟨13, .chain⟩, ⟨8, .guard⟩], some (8, true)⟩) (by kernel_rfl) rfl (by kernel_rfl) ?_
      refine wpAny_take (i := 16) (oi := ⟨some 111, Op.move (Operand.tmp 16), 3, "outright.go:157", #[⟨15, .guard⟩], some (15, false)⟩) (v := undef) rfl (by kernel_rfl) (by kernel_rfl) (by kernel_rfl) (fun _ _ _ h => h) (Or.inr ⟨by kernel_rfl, rfl⟩) ?_
      refine any_skip 17 (o := ⟨some 112, Op.move (Operand.tmp 11), 3, "outright.go:157", #[⟨15, .guard⟩], some (15, false)⟩) (by kernel_rfl) rfl (by kernel_rfl) ?_
      refine any_skip 18 (o := ⟨some 113, Op.binOp BinOp.neq 3 (Operand.tmp 111) (Operand.tmp 112) 3, 4, "outright.go:157", #[⟨16, .data⟩, ⟨17, .data⟩, ⟨15, .guard⟩], some (15, false)⟩) (by kernel_rfl) rfl (by kernel_rfl) ?_
      refine any_skip 19 (o := ⟨some 114, Op.pick (Operand.tmp 110) (Operand.const (Value.bool true)) (Operand.tmp 113), 4, "outright.go:157", #[⟨15, .data⟩, ⟨18, .data⟩, ⟨8, .guard⟩], some (8, true)⟩) (by kernel_rfl) rfl (by kernel_rfl) ?_
      refine any_skip 20 (o := ⟨some 115, Op.move (Operand.tmp 114), 4, "outright.go:157", #[⟨19, .data⟩, ⟨15, .chain⟩, ⟨8, .guard⟩], some (8, true)⟩) (by kernel_rfl) rfl (by kernel_rfl) ?_
      refine any_skip 21 (o := ⟨some 116, Op.move (Operand.tmp 17), 5, "outright.go:157", #[⟨20, .guard⟩], some (20, false)⟩) (by kernel_rfl) rfl (by kernel_rfl) ?_
      refine any_skip 22 (o := ⟨some 117, Op.binOp BinOp.neq 5 (Operand.tmp 116) (Operand.const (Value.int IntKind.u8 2)) 5, 4, "outright.go:157", #[⟨21, .data⟩, ⟨20, .guard⟩], some (20, false)⟩) (by kernel_rfl) rfl (by kernel_rfl) ?_
      refine any_skip 23 (o := ⟨some 118, Op.pick (Operand.tmp 115) (Operand.const (Value.bool true)) (Operand.tmp 117), 4, "outright.go:157", #[⟨20, .data⟩, ⟨22, .data⟩, ⟨8, .guard⟩], some (8, true)⟩) (by kernel_rfl) rfl (by kernel_rfl) ?_
      refine any_pure 24 (o := ⟨some 119, Op.pick (Operand.tmp 103) (Operand.tmp 118) (Operand.const (Value.bool false)), 4, "outright.go:157", #[⟨8, .data⟩, ⟨23, .data⟩], none⟩) (.bool false) (by kernel_rfl) rfl (by kernel_rfl) (by kernel_rfl) ?_
      refine wpAny_done (by kernel_rfl) ?_ _
      simp only [Act.put, List.setIfInBounds_toArray, List.set_cons_succ, List.set_cons_zero]
      go_wp2_with fail
      exact HK.out _ _ _ _ _ _ _ _ _ _ _ _ _ _ _ _ _ _ _ _ _ _ _ _ _ _ _ _ _ _ _ _ _ _ _ _ _ _ _ _ _ _ _ _ _ _ _ _ _ _ _ _ _ _ _ _ _ _ _ _ _ _ _ _ _ _ _ _ _ _ _ _ _ _ (Lib.hid HB5.out.drew)
    · have hcb : ((y[k].toNat : Int) != (y[k + 1].toNat : Int)) = true := by
        rw [bne_iff_ne]
        exact fun h => hcmp (UInt8.toNat_inj.1 (by omega))
      have hsc := swap_scan HF.out.okr hil (k := k) (by rw [HS.out, HZ.out]; omega) (by rw [HS.out, ← hyk k hk0, ← hyk (k + 1) hk1]; exact hcmp)
      rw [HQ.out, HP5.out, HP6.out, HX5.out, HX6.out] at hsc
      have HFi := HF.out.take i
      have hit : (l.take i).length = i := by rw [List.length_take]; omega
      have hsz : (St.zero.adds (l.take i)).size = q := by rw [adds_size, ← HQ.out]; simp [St.zero, lenN]
      have HScn := scan_num (some ⟨g, 0, none⟩) c4 N _ (l.take i) q 2 w4.drew wa hrd hc4 (by omega) hbl hTc hB4 (by rw [hsc]; exact ⟨HFi.recs, hsz, rfl⟩)
      rw [hit] at HScn
      have HScn := Lib.hid HScn
      have HIT := Lib.hid hit
      clear hcmp hyk hby hrd hbl hB4 HSt hg1 hg2 g5 g6 f5 f6 g6' f6' hsc hit hsz HFi
      go_wp2_with fail
      refine HScn.out.mono ?_
      rintro e w5 ⟨a5, c5, rfl, _, h5, hb5⟩
      have hq := same_num (c := c5) (d := c1) (xs := l.take i) (ys := l.take i) (n := i) (m := i) (r := true) (A := a5) (B := some ⟨b1, o1, none⟩) (w := w5.drew) (w0 := w5.drew) h5.drew ((by
        have h := (HRl.out.keep hb5 hb5.size).take i
        rw [← List.map_take] at h
        exact h)) (Below.refl _ _) HIT.out HIT.out (by omega) (by omega) (by simp)
      have HSq : Hid (Calls Tryd.prog 15 #[.slice a5 i c5, .slice (some ⟨b1, o1, none⟩) i c1] w5.drew fun e w' => e = .returned (.bool true) ∧ Below w5.drew.heap.size w5.drew w') := Lib.hid (hq.mono fun e w' ⟨h1, h2, _⟩ => ⟨h1, h2⟩)
      have hic : i ≤ c1 := by omega
      have HB5 := Lib.hid hb5
      clear hb5 HScn h5 hq
      go_wp2_with fail
      refine wp_region_any (by kernel_rfl) ?_
      change wpAny _ _ _ _ _ _ _ (World.drew _)
      refine wpAny_take (i := 0) (oi := ⟨some 95, Op.move (Operand.tmp 12), 9, "outright.go:157", #[], none⟩) (v := (.string y)) rfl (by kernel_rfl) (by kernel_rfl) (by kernel_rfl) (fun _ _ _ h => h) (Or.inl ⟨by kernel_rfl, fun _ => (by kernel_rfl)⟩) ?_
      refine wpAny_take (i := 1) (oi := ⟨some 96, Op.move (Operand.tmp 13), 3, "outright.go:157", #[], none⟩) (v := (.int .i64 (k : Int))) rfl (by kernel_rfl) (by kernel_rfl) (by kernel_rfl) (fun _ _ _ h => h) (Or.inl ⟨by kernel_rfl, fun _ => (by kernel_rfl)⟩) ?_
      refine wpAny_take (i := 2) (oi := ⟨some 97, Op.index 9 (Operand.tmp 95) (Operand.tmp 96), 5, "outright.go:157", #[⟨0, .data⟩, ⟨1, .data⟩], none⟩) (v := (.int .u8 (y[k].toNat : Int))) rfl (by kernel_rfl) (by kernel_rfl) (by kernel_rfl) (fun _ _ _ h => h) (Or.inl ⟨by kernel_rfl, fun _ => (ex_index_str rfl (by kernel_rfl) (by kernel_rfl) rfl hk0)⟩) ?_
      refine wpAny_take (i := 3) (oi := ⟨some 98, Op.move (Operand.tmp 12), 9, "outright.go:157", #[], none⟩) (v := (.string y)) rfl (by kernel_rfl) (by kernel_rfl) (by kernel_rfl) (fun _ _ _ h => h) (Or.inl ⟨by kernel_rfl, fun _ => (by kernel_rfl)⟩) ?_
      refine any_pure 4 (o := ⟨some 99, Op.move (Operand.tmp 13), 3, "outright.go:157", #[], none⟩) (.int .i64 (k : Int)) (by kernel_rfl) rfl (by kernel_rfl) (by kernel_rfl) ?_
      refine any_pure 5 (o := ⟨some 100, Op.binOp BinOp.add 3 (Operand.tmp 99) (Operand.const (Value.int IntKind.i64 1)) 3, 3, "outright.go:157", #[⟨4, .data⟩], none⟩) (.int .i64 ((k : Int) + 1)) (by kernel_rfl) rfl (by kernel_rfl) (ex_bin rfl (by kernel_rfl) (by kernel_rfl) (by kernel_rfl) (bin_add_int 3 _ _ _ _ hwk)) ?_
      refine any_pure 6 (o := ⟨some 101, Op.index 9 (Operand.tmp 98) (Operand.tmp 100), 5, "outright.go:157", #[⟨3, .data⟩, ⟨5, .data⟩], none⟩) (.int .u8 (y[k + 1].toNat : Int)) (by kernel_rfl) rfl (by kernel_rfl) (ex_index_str rfl (by kernel_rfl) (by kernel_rfl) rfl hk1) ?_
      refine any_pure 7 (o := ⟨some 102, Op.binOp BinOp.neq 5 (Operand.tmp 97) (Operand.tmp 101) 5, 4, "outright.go:157", #[⟨2, .data⟩, ⟨6, .data⟩], none⟩) (.bool true) (by kernel_rfl) rfl (by kernel_rfl) (ex_bin rfl (by kernel_rfl) (by kernel_rfl) (by kernel_rfl) (bin_neq_u8 _ _ _ _ hcb)) ?_
      refine any_pure 8 (o := ⟨some 103, Op.move (Operand.tmp 102), 4, "outright.go:157", #[⟨7, .data⟩], none⟩) (.bool true) (by kernel_rfl) rfl (by kernel_rfl) (by kernel_rfl) ?_
      refine wpAny_take (i := 9) (oi := ⟨some 104, Op.move (Operand.tmp 15), 22, "outright.go:157", #[⟨8, .guard⟩], some (8, true)⟩) (v := (.slice a5 i c5)) rfl (by kernel_rfl) (by kernel_rfl) (by kernel_rfl) (fun _ _ _ h => h) (Or.inl ⟨by kernel_rfl, fun _ => (by kernel_rfl)⟩) ?_
      refine wpAny_take (i := 10) (oi := ⟨some 105, Op.move (Operand.tmp 0), 22, "outright.go:157", #[⟨8, .guard⟩], some (8, true)⟩) (v := (.slice (some ⟨b1, o1, none⟩) M c1)) rfl (by kernel_rfl) (by kernel_rfl) (by kernel_rfl) (fun _ _ _ h => h) (Or.inl ⟨by kernel_rfl, fun _ => (by kernel_rfl)⟩) ?_
      refine any_pure 11 (o := ⟨some 106, Op.move (Operand.tmp 10), 3, "outright.go:157", #[⟨8, .guard⟩], some (8, true)⟩) (.int .i64 (i : Int)) (by kernel_rfl) rfl (by kernel_rfl) (by kernel_rfl) ?_
      refine any_pure 12 (o := ⟨some 107, Op.slice 22 (Operand.tmp 105) none (some (Operand.tmp 106)) none, 22, "outright.go:157", #[⟨10, .data⟩, ⟨11, .data⟩, ⟨8, .guard⟩], some (8, true)⟩) (.slice (some ⟨b1, o1, none⟩) i c1) (by kernel_rfl) rfl (by kernel_rfl) (ex_slice_h (n := M) (s := 1) rfl (by kernel_rfl) (by kernel_rfl) (by kernel_rfl) (by kernel_rfl) hic) ?_
      refine any_call 13 (o := ⟨some 108, Op.call { callee := Callee.value (Operand.func 15), args := #[Operand.tmp 104, Operand.tmp 107], argTypes := #[22, 22] }, 4, "outright.go:157", #[⟨9, .data⟩, ⟨12, .data⟩, ⟨8, .chain⟩, ⟨8, .guard⟩], some (8, true)⟩) 15 _ _ #[(.slice a5 i c5), (.slice (some ⟨b1, o1, none⟩) i c1)] (by kernel_rfl) rfl (by kernel_rfl) rfl (by kernel_rfl) en15 (Calls.mono HSq.out ?_)
      rintro e w6 ⟨rfl, hb6⟩
      refine ⟨_, rfl, ?_⟩
      refine any_pure 14 (o := ⟨some 109, Op.unOp UnOp.not 4 (Operand.tmp 108), 4, "outright.go:157", #[⟨13, .data⟩, ⟨8, .guard⟩], some (8, true)⟩) (.bool false) (by kernel_rfl) rfl (by kernel_rfl) (by kernel_rfl) ?_
      refine any_pure 15 (o := ⟨some 110, Op.move (Operand.tmp 109), 4, "outright.go:157", #[⟨14, .data⟩, ⟨13, .chain⟩, ⟨8, .guard⟩], some (8, true)⟩) (.bool false) (by kernel_rfl) rfl (by kernel_rfl) (by kernel_rfl) ?_
      refine wpAny_take (i := 16) (oi := ⟨some 111, Op.move (Operand.tmp 16), 3, "outright.go:157", #[⟨15, .guard⟩], some (15, false)⟩) (v := (.int .i64 (q : Int))) rfl (by kernel_rfl) (by kernel_rfl) (by kernel_rfl) (fun _ _ _ h => h) (Or.inl ⟨by kernel_rfl, fun _ => (by kernel_rfl)⟩) ?_
      refine any_pure 17 (o := ⟨some 112, Op.move (Operand.tmp 11), 3, "outright.go:157", #[⟨15, .guard⟩], some (15, false)⟩) (.int .i64 (q : Int)) (by kernel_rfl) rfl (by kernel_rfl) (by kernel_rfl) ?_
      refine any_pure 18 (o := ⟨some 113, Op.binOp BinOp.neq 3 (Operand.tmp 111) (Operand.tmp 112) 3, 4, "outright.go:157", #[⟨16, .data⟩, ⟨17, .data⟩, ⟨15, .guard⟩], some (15, false)⟩) (.bool false) (by kernel_rfl) rfl (by kernel_rfl) (ex_bin rfl (by kernel_rfl) (by kernel_rfl) (by kernel_rfl) (bin_neq_int 3 (by kernel_rfl) q q _ false (by simp))) ?_
      refine any_pure 19 (o := ⟨some 114, Op.pick (Operand.tmp 110) (Operand.const (Value.bool true)) (Operand.tmp 113), 4, "outright.go:157", #[⟨15, .data⟩, ⟨18, .data⟩, ⟨8, .guard⟩], some (8, true)⟩) (.bool false) (by kernel_rfl) rfl (by kernel_rfl) (by kernel_rfl) ?_
      refine any_pure 20 (o := ⟨some 115, Op.move (Operand.tmp 114), 4, "outright.go:157", #[⟨19, .data⟩, ⟨15, .chain⟩, ⟨8, .guard⟩], some (8, true)⟩) (.bool false) (by kernel_rfl) rfl (by kernel_rfl) (by kernel_rfl) ?_
      refine any_pure 21 (o := ⟨some 116, Op.move (Operand.tmp 17), 5, "outright.go:157", #[⟨20, .guard⟩], some (20, false)⟩) (.int .u8 2) (by kernel_rfl) rfl (by kernel_rfl) (by kernel_rfl) ?_
      refine any_pure 22 (o := ⟨some 117, Op.binOp BinOp.neq 5 (Operand.tmp 116) (Operand.const (Value.int IntKind.u8 2)) 5, 4, "outright.go:157", #[⟨21, .data⟩, ⟨20, .guard⟩], some (20, false)⟩) (.bool false) (by kernel_rfl) rfl (by kernel_rfl) (by kernel_rfl) ?_
      refine any_pure 23 (o := ⟨some 118, Op.pick (Operand.tmp 115) (Operand.const (Value.bool true)) (Operand.tmp 117), 4, "outright.go:157", #[⟨20, .data⟩, ⟨22, .data⟩, ⟨8, .guard⟩], some (8, true)⟩) (.bool false) (by kernel_rfl) rfl (by kernel_rfl) (by kernel_rfl) ?_
      refine any_pure 24 (o := ⟨some 119, Op.pick (Operand.tmp 103) (Operand.tmp 118) (Operand.const (Value.bool false)), 4, "outright.go:157", #[⟨8, .data⟩, ⟨23, .data⟩], none⟩) (.bool false) (by kernel_rfl) rfl (by kernel_rfl) (by kernel_rfl) ?_
      refine wpAny_done (by kernel_rfl) ?_ _
      simp only [Act.put, List.setIfInBounds_toArray, List.set_cons_succ, List.set_cons_zero]
      go_wp2_with fail
      exact HK.out _ _ _ _ _ _ _ _ _ _ _ _ _ _ _ _ _ _ _ _ _ _ _ _ _ _ _ _ _ _ _ _ _ _ _ _ _ _ _ _ _ _ _ _ _ _ _ _ _ _ _ _ _ _ _ _ _ _ _ _ _ _ _ _ _ _ _ _ _ _ _ _ _ _ (Lib.hid (Below.trans HB5.out.drew (hb6.mono HB5.out.drew.size)))
  · have hlb : decide (1 < z) = false := decide_eq_false hlen
    go_wp2_with fail
    exact HK.out _ _ _ _ _ _ _ _ _ _ _ _ _ _ _ _ _ _ _ _ _ _ _ _ _ _ _ _ _ _ _ _ _ _ _ _ _ _ _ _ _ _ _ _ _ _ _ _ _ _ _ _ _ _ _ _ _ _ _ _ _ _ _ _ _ _ _ _ _ _ _ _ _ _ (Lib.hid (Below.refl _ _))
end Go.Proofs.YtandanbojfdfjaaDoor
